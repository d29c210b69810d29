/- An abstract state over the worlds of the model, what each operation does to it, and the verification condition of code over it: proved for every program, without conditions. -/
import Derived.Test.YtjnifeedbgefpaaGreatDoorAb2
import Derived.Recover
namespace Go.Ab
open Go Go.RowKit
def DefRep (C:Ctx) (d:Deferred) (g:Nat) (ds:List D):Prop := ∃ cap,d.target = .fn (.func g) cap∧RepL C ds (d.args ++ cap).toList
theorem DefRep.mono {C C':Ctx} (h:C.le C') {d:Deferred} {g:Nat} {ds:List D} (H:DefRep C d g ds):DefRep C' d g ds :=
  let ⟨cap,h1,h2⟩ := H; ⟨cap,h1,RepL.mono h _ _ h2⟩
def asDefer:Op→Option (Operand × List Operand)
  | .defer c => match c.callee with
    | .value f => some (f,c.args.toList)
    | _ => none
  | _ => none
def vcRunD (E:Senv) (ops:List Oper) (Q:APostT) (QD:Nat→List D→APostT):List Nat→Env→St→Prop
  | [],_,_ => False
  | i :: rest,env,S => match ops[i]? with
    | none => False
    | some o => match asDefer o.op with
      | some (f,axs) => match o.guard with
        | none => match evD env f with
          | .fn (.func g) first cap => vcRun E ops (QD g (first ++ axs.map (evD env) ++ cap)) rest (putD env o.dst (.tup [])) S
          | _ => False
        | some _ => False
      | none => vcGuard ops o env
        (fun env => vcOp E o.op env S (fun d S' => vcRunD E ops Q QD rest (putD env o.dst d) S') (fun d S' => Q (.panic d) env S'))
        (fun env => vcRunD E ops Q QD rest (putD env o.dst (.tup [])) S)
def APostD (C0:Ctx) (F:St) (n:Nat) (Q:APostT) (QD:Nat→List D→APostT) (e:Exit) (a:Act) (w:World):Prop :=
  APost C0 F n [] Q e a w∨∃ d g ds C',C0.le C'∧DefRep C' d g ds∧APost C' F n [d] (QD g ds) e a w
theorem wpOps_mono {P:Program} {ops:Array Oper} {Q Q':Exit→Act→World→Prop} (hl:LetsOut Q→LetsOut Q') (h:∀ e a w,Q e a w→Q' e a w):∀ (l:List Nat) (a:Act) (w:World),wpOps P ops Q l a w→wpOps P ops Q' l a w
  | [],a,w,k => h _ _ _ k
  | i :: rest,a,w,k => by
    simp only [wpOps] at k ⊢
    split at k
    · rename_i ho; exact wpOps_mono hl h rest a w k
    · rename_i o ho
      split at k
      · rename_i hw
        rw [if_pos hw]
        rcases k with k | ⟨k1,k2⟩
        · left
          unfold Oper.wp at k ⊢
          unfold Oper.upon at k ⊢
          split at k
          · exact wpOps_mono hl h rest _ _ k
          · exact wpOps_mono hl h rest _ _ k
          · exact wpOps_mono hl h rest _ _ k
          · refine Calls.mono k ?_
            rintro e w'' q
            cases e with
            | returned v => exact wpOps_mono hl h rest _ _ q
            | panicked ch => exact h _ _ _ q
            | outgrown => exact hl q
          · refine Rows.mono k ?_
            rintro v w'' q
            exact wpOps_mono hl h rest _ _ q
          · exact h _ _ _ k
          · exact k.elim
        · exact .inr ⟨k1,hl k2⟩
      · rename_i hw
        rw [if_neg hw]
        exact wpOps_mono hl h rest _ _ k
section
variable {E:Senv} {C:Ctx} {F S:St} {w:World} {env:Env} {a:Act}
theorem LetsOut.postD {C0:Ctx} {n:Nat} {dfs:List Deferred} {Q1:APostT} {Z:Prop} (h:LetsOut (APost C0 F n dfs Q1)):Z := by
  obtain ⟨a,w,C',x,env,S,_,_,_,_,_,h6,_⟩ := h
  cases x <;> exact h6.elim
theorem run_ofValue {C : Ctx} {u : Value} {g : Nat} {first cap ds : List D} {vs : Array Value} {P : Program} {w : World} (hu : Rep C (.fn (.func g) first cap) u) (hr : RepL C ds vs.toList) :
    ∃ d,(Deferred.ofValue u vs).run P w = .ok d w∧DefRep C d g (first ++ ds ++ cap) := by
  simp only [Rep] at hu
  obtain ⟨a',c',rfl,h1,h2⟩ := hu
  refine ⟨_,rfl,c',rfl,?_⟩
  simp only [Array.toList_append]
  exact RepL.append (RepL.append h1 hr) h2
theorem runD_sound {ops : List Oper} {Q : APostT} {QD : Nat → List D → APostT} (hT : EnvOk E) (hok : ops.all (fun o => okDst E.n o.dst) = true) :
    ∀ (l:List Nat) (C0 C:Ctx) (F:St) (env:Env) (S:St) (a:Act) (w:World),C0.le C→RepEnv C env a.tmps→a.tmps.size = E.n→a.defers = []→Sat C (S.add F) w→vcRunD E ops Q QD l env S →
      wpOps E.P ops.toArray (APostD C0 F E.n Q QD) l a w
  | [],C0,C,F,env,S,a,w,h0,h1,h2,h3,h4,h => h.elim
  | i :: rest,C0,C,F,env,S,a,w,h0,h1,h2,h3,h4,h => by
    simp only [vcRunD] at h
    simp only [wpOps]
    cases ho:ops[i]? with
    | none => rw [ho] at h; exact h.elim
    | some o =>
      rw [ho] at h
      have:(ops.toArray)[i]? = some o := by simpa using ho
      rw [this]
      have hdst:okDst a.tmps.size o.dst = true := by
        rw [h2]; exact List.all_eq_true.1 hok o (List.mem_of_getElem? ho)
      simp only at h ⊢
      split at h
      · rename_i f axs hd
        split at h
        · rename_i hg
          split at h
          · rename_i g first cap hf
            have hw:Region.wanted o (yielded ops.toArray a.tmps) = true := by unfold Region.wanted; rw [hg]
            rw [hw]
            simp only [if_true]
            left
            obtain ⟨args,hop,hargs⟩:∃ c:Call,o.op = .defer c∧c.callee = .value f∧c.args.toList = axs := by
              unfold asDefer at hd
              split at hd
              · rename_i c hc
                split at hd
                · rename_i f' hf'
                  injection hd with hd
                  injection hd with q1 q2
                  exact ⟨c,by simpa using hc,by rw [hf',q1],q2⟩
                · cases hd
              · cases hd
            have hu := rep_evD h1 f
            rw [hf] at hu
            have hv:RepL C (axs.map (evD env)) (args.args.map a.eval).toList := by
              rw [Array.toList_map,hargs.2]; exact rep_evL h1 axs
            obtain ⟨d,hrun,hdef⟩ := run_ofValue (P := E.P) (w := w) hu hv
            have hex:(execOp a.eval o).run E.P w = .ok (.defer d) w := by
              unfold execOp
              rw [hop]
              simp only [resolve,hargs.1,Sem.run_bind,hrun,Result.andThen_ok,Sem.run_pure]
            unfold Oper.wp
            rw [hex,Oper.upon_defer]
            refine wpOps_mono (fun h => LetsOut.postD h) ?_ _ _ _ (run_sound (dfs := [d]) hT hok rest C C F _ S ({ a with defers := d :: a.defers }.put o.dst undef) w (.refl C) (RepEnv.putD (a := { a with defers := d :: a.defers }) h1 hdst (rep_undef C)) (by rw [put_size]; exact h2) (by rw [put_defers]; simp [h3]) h4 h)
            intro e a' w' hq
            exact .inr ⟨d,g,_,C,h0,hdef,hq⟩
          · exact h.elim
        · exact h.elim
      · rcases wanted_of (a := a) h1 h with ⟨hw,env',he,hr⟩ | ⟨hw,env',he,hr⟩
        · rw [hw]
          simp only [if_true]
          refine .inl (good_wp (vcOp_good hT he h4 o hr) ?_ ?_)
          · intro C' d S' v w' k1 k2 k3 k4
            refine runD_sound hT hok rest C0 C' F _ S' _ w' (h0.trans k1) ((he.mono k1).putD hdst k2) (by rw [put_size,h2]) (by rw [put_defers,h3]) k3 k4
          · intro C' d S' v w' k1 k2 k3 k4
            exact .inl ⟨C',.panic d,env',S',h0.trans k1,he.mono k1,h2,h3,k3,⟨v,rfl,k2⟩,k4⟩
        · rw [hw]
          simp only [Bool.false_eq_true,if_false]
          exact runD_sound hT hok rest C0 C F _ S _ w h0 (he.putD hdst (rep_undef C)) (by rw [put_size,h2]) (by rw [put_defers,h3]) h4 hr
end
def hasDefer:Code→Bool
  | .region _ ops _ => ops.toList.any fun o => (asDefer o.op).isSome
  | .seq x y => hasDefer x || hasDefer y
  | _ => false
def vcD (E:Senv):Code→Nat→APostT→(Nat→List D→APostT)→Env→St→Prop
  | .region _ ops d,_,Q,QD,env,S => match d with
    | true => False
    | false => chk (ops.toList.all fun o => okDst E.n o.dst) (vcRunD E ops.toList (fun e env S => Q e (prune E.V E.cross env) S) (fun g ds e env S => QD g ds e (prune E.V E.cross env) S) (List.range ops.size) env S)
  | .seq x y,b,Q,QD,env,S => match hasDefer x with
    | true => vcD E x b (thenQ (fun _ _ => False) Q) (fun g ds => thenQ (fun env S => vc E y b (QD g ds) env S) (QD g ds)) env S
    | false => vc E x b (thenQ (fun env S => vcD E y b Q QD env S) Q) env S
  | _,_,_,_,_,_ => False
def AWpD (P:Program) (n:Nat) (c:Code) (Q:APostT) (QD:Nat→List D→APostT) (env:Env) (S:St):Prop :=
  ∀ (C:Ctx) (F:St) (a:Act) (w:World),RepEnv C env a.tmps→a.tmps.size = n→a.defers = []→Sat C (S.add F) w→c.wp P (APostD C F n Q QD) a w
theorem APost.prune {C:Ctx} {F:St} {n V:Nat} {cross:List Nat} {dfs:List Deferred} {Q:APostT} {e:Exit} {a:Act} {w:World} (h:APost C F n dfs (fun e env S => Q e (prune V cross env) S) e a w):APost C F n dfs Q e a w := by
  obtain ⟨C',x,env,S,h1,h2,r1,r2,r3,r4,r5⟩ := h
  exact ⟨C',x,_,S,h1,h2.sub (prune_sub _ _ _),r1,r2,r3,r4,r5⟩
theorem APostD.up {C C1:Ctx} {F:St} {n:Nat} {Q:APostT} {QD:Nat→List D→APostT} {e:Exit} {a:Act} {w:World} (h:C.le C1) (H:APostD C1 F n Q QD e a w):APostD C F n Q QD e a w := by
  rcases H with H | ⟨d,g,ds,C',h1,h2,h3⟩
  · exact .inl (H.up h)
  · exact .inr ⟨d,g,ds,C',h.trans h1,h2,h3⟩
theorem vcD_sound {E:Senv} (hT:EnvOk E):∀ (c:Code) (b:Nat) (Q:APostT) (QD:Nat→List D→APostT) (env:Env) (S:St),vcD E c b Q QD env S→AWpD E.P E.n c Q QD env S
  | .region id ops d,b,Q,QD,env,S,h => by
    simp only [vcD] at h
    split at h
    · exact h.elim
    · obtain ⟨hok,h⟩ := chk_iff.1 h
      intro C F a w h1 h2 h3 h4
      refine wp_mono (wp_region (by simpa using runD_sound hT hok _ C C F env S a w (.refl C) h1 h2 h3 h4 h)) ?_
      rintro e a' w' (H | ⟨d,g,ds,C',q1,q2,q3⟩)
      · exact .inl H.prune
      · exact .inr ⟨d,g,ds,C',q1,q2,q3.prune⟩
  | .seq x y,b,Q,QD,env,S,h => by
    simp only [vcD] at h
    split at h
    · intro C F a w h1 h2 h3 h4
      refine wp_seq (wp_mono (vcD_sound hT x b _ _ env S h C F a w h1 h2 h3 h4) ?_)
      rintro e a' w' (⟨C',x,env',S',a1,a2,a3,a4,a5,a6,a7⟩ | ⟨d,g,ds,C1,q1,q2,C',x,env',S',a1,a2,a3,a4,a5,a6,a7⟩)
      · cases e <;> cases x <;> simp only [RepExit] at a6
        case normal.normal => exact a7.elim
        all_goals exact .inl ⟨C',_,env',S',a1,a2,a3,a4,a5,(by simp only [RepExit]; try exact a6),a7⟩
      · cases e <;> cases x <;> simp only [RepExit] at a6
        case normal.normal =>
          refine wp_mono (vc_sound hT y b _ env' S' a7 C' F a' w' a2 a3 a4 a5) ?_
          intro e a2 w2 H
          exact .inr ⟨d,g,ds,C',q1.trans a1,q2.mono a1,H⟩
        all_goals exact .inr ⟨d,g,ds,C1,q1,q2,C',_,env',S',a1,a2,a3,a4,a5,(by simp only [RepExit]; try exact a6),a7⟩
    · intro C F a w h1 h2 h3 h4
      refine wp_seq (wp_mono (vc_sound (dfs := []) hT x b _ env S h C F a w h1 h2 h3 h4) ?_)
      rintro e a' w' ⟨C',x,env',S',a1,a2,a3,a4,a5,a6,a7⟩
      cases e <;> cases x <;> simp only [RepExit] at a6
      case normal.normal => exact wp_mono (vcD_sound hT y b _ _ env' S' a7 C' F a' w' a2 a3 a4 a5) fun _ _ _ H => H.up a1
      all_goals exact .inl ⟨C',_,env',S',a1,a2,a3,a4,a5,(by simp only [RepExit]; try exact a6),a7⟩
  | .skip,_,_,_,_,_,h => by simp only [vcD] at h
  | .label _,_,_,_,_,_,h => by simp only [vcD] at h
  | .exit _,_,_,_,_,_,h => by simp only [vcD] at h
  | .goto _,_,_,_,_,_,h => by simp only [vcD] at h
  | .ret,_,_,_,_,_,h => by simp only [vcD] at h
  | .cond _ _ _,_,_,_,_,_,h => by simp only [vcD] at h
  | .block _ _,_,_,_,_,_,h => by simp only [vcD] at h
  | .loop _,_,_,_,_,_,h => by simp only [vcD] at h
  | .scope _,_,_,_,_,_,h => by simp only [vcD] at h
  | .rangeFunc ..,_,_,_,_,_,h => by simp only [vcD] at h
def recV:Option D→D
  | none => .nili
  | some d => d
def RepRec (C:Ctx):Option D→FrameMode→FrameMode→Prop
  | none,u,u' => u = .returning∧u' = .returning
  | some d,u,u' => ∃ v,Rep C d v∧u = .panicking [{ v,recovered := false }]∧u' = .panicking [{ v,recovered := true }]
theorem RepRec.mono {C C':Ctx} (h:C.le C') {r:Option D} {u u':FrameMode} (H:RepRec C r u u'):RepRec C' r u u' := by
  cases r with
  | none => exact H
  | some d => obtain ⟨v,h1,h2⟩ := H; exact ⟨v,Rep.mono h _ _ h1,h2⟩
def ACallsD (P:Program) (g:FuncId) (ds:List D) (r:Option D) (S:St) (R:St→Prop):Prop :=
  FnOk P g∧∀ (C:Ctx) (F:St) (args:Array Value) (w:World) (u u':FrameMode),RepL C ds args.toList→Sat C (S.add F) w→RepRec C r u u' →
    CallsD P g args u w fun e u1 w' => u1 = u'∧(∃ v,e = .returned v)∧∃ C' S',C.le C'∧Sat C' (S'.add F) w'∧R S'
theorem step_recover {P : Program} {b : Frame} {a : Act} {k : List Item} {cs : List Frame} {w : World} {ops : Array Oper} {o : Oper} {rest : List Nat} {axs : Array Operand} {ts : Array TypeId} (hb : b.kind = .deferred)
    (ho:ops[0]? = some o) (hg:o.guard = none) (hop:o.op = .call ⟨.builtin .recover,axs,ts⟩) {v:Value} {cs':List Frame}
    (hr:(recoverD cs).getD (.nilIface,cs) = (v,cs')) :
    step P (Go.lone (b.at a (.inRegion ops (0 :: rest) :: k)) cs w) = .next (Go.lone (b.at (a.put o.dst v) (.inRegion ops rest :: k)) cs' w) := by
  have hw:Region.wanted o (yielded ops a.tmps) = true := by unfold Region.wanted; rw [hg]
  have hg := stepG_op (P := P) (b := b) (k := k) (cs := cs) (w := w) (rest := rest) ho hw
  have hfin:(b.at a (.inRegion ops (0 :: rest) :: k)).finish v = b.at (a.put o.dst v) (.inRegion ops rest :: k) := by
    rw [Frame.finish_at,ho]; rfl
  have hk:(b.at a (.inRegion ops (0 :: rest) :: k)).kind = .deferred := hb
  have htr := tryRecover_deferred hk cs
  have hex:(execOp a.eval o).run P w = .ok .recover w := by
    unfold execOp
    rw [hop]
    simp [resolve,invoke,builtin]
  refine step_lone_go ?_
  rw [hg,← hfin]
  simp only [Frame.at] at htr ⊢
  cases hrec:recoverD cs with
  | none =>
    rw [hrec] at hr htr
    simp only [Option.getD_none,Prod.mk.injEq] at hr
    obtain ⟨rfl,rfl⟩ := hr
    simp [stepG.apply,hex,htr]
  | some p =>
    rw [hrec] at hr htr
    simp only [Option.getD_some] at hr
    subst hr
    simp [stepG.apply,hex,htr]
def isRecover (o:Oper):Bool :=
  match o.op with
  | .call c => match c.callee with
    | .builtin .recover => o.guard.isNone
    | _ => false
  | _ => false
def recQ (R:St→Prop):APostT := fun e _ S => match e with
  | .normal => R S
  | .ret => R S
  | _ => False
def vcRec (E:Senv) (c:Code) (r:Option D) (R:St→Prop) (ds:List D) (S:St):Prop :=
  match c with
  | .seq (.region _ ops false) rest => match ops.toList with
    | o :: _ => chk (isRecover o && ops.toList.all (fun o => okDst E.n o.dst))
      (vcRun E ops.toList (fun e env S => thenQ (fun env S => vc E rest 0 (recQ R) env S) (recQ R) e (prune E.V E.cross env) S) (List.range ops.size).tail (putD (argsEnv 0 ds) o.dst (recV r)) S)
    | [] => False
  | _ => False
theorem argsEnv_rep {C:Ctx} {ds:List D} {args:Array Value} (ha:RepL C ds args.toList) (m:Nat):RepEnv C (argsEnv 0 ds) (args ++ Array.replicate m undef) := by
  have hal:args.size = ds.length := by have := RepL.length ha; simpa using this
  intro t
  rcases rep_argsEnv 0 ha t (Nat.zero_le _) with h' | h'
  · by_cases ht:t < args.size
    · have:(args ++ Array.replicate m undef).getD t undef = args.toList.getD (t - 0) undef := by
        simp [Array.getD_eq_getD_getElem?,Array.getElem?_append_left ht,List.getD_eq_getElem?_getD]
      rw [this]; exact h'
    · have hu:look (argsEnv 0 ds) t = .unk := by
        have key:∀ (l:List D) (k t:Nat),k + l.length ≤ t→look (argsEnv k l) t = .unk := by
          intro l
          induction l with
          | nil => intros; rfl
          | cons d l ih => intro k t ht; simp only [List.length_cons] at ht; simp only [argsEnv,look]; rw [if_neg (by omega)]; exact ih (k + 1) t (by omega)
        exact key _ 0 t (by omega)
      rw [hu]; simp [Rep]
  · rw [h']; simp [Rep]
theorem rec_sound {E : Senv} {g : Nat} {fn : Func} {c : Code} {ds : List D} {r : Option D} {S : St} {R : St → Prop} (hE : EnvOk E) (hf : E.P.funcs[g]? = some fn) (hb : fn.body = some c)
    (hname : (fn.name == "runtime.NumGoroutine") = false) (hn : fn.ntmps = E.n) (hl : ds.length ≤ E.n) (hres : fn.results = #[]) (h : vcRec E c r R ds S) : ACallsD E.P g ds r S R := by
  refine ⟨⟨fn,hf,hname,by simp [hb]⟩,fun C F args w u u' ha hs hr => ?_⟩
  have hal:args.size = ds.length := by have := RepL.length ha; simpa using this
  unfold vcRec at h
  split at h
  · rename_i id ops rest
    split at h
    · rename_i o ol ho
      obtain ⟨h0,h⟩ := chk_iff.1 h
      simp only [Bool.and_eq_true] at h0
      obtain ⟨h0,hok⟩ := h0
      have ho0:ops[0]? = some o := by
        have:ops.toList[0]? = some o := by rw [ho]; rfl
        simpa using this
      have hrange:List.range ops.size = 0 :: (List.range ops.size).tail := by
        have:ops.size = ol.length + 1 := by have := congrArg List.length ho; simpa using this
        rw [this]; simp [List.range_succ_eq_map]
      obtain ⟨hg,axs,ts,hop⟩:o.guard = none∧∃ axs ts,o.op = .call ⟨.builtin .recover,axs,ts⟩ := by
        unfold isRecover at h0
        split at h0
        · rename_i c hc
          split at h0
          · rename_i hcal
            obtain ⟨cc,ca,ct⟩ := c
            simp only at hcal
            subst hcal
            exact ⟨by simpa using h0,ca,ct,hc⟩
          · cases h0
        · cases h0
      refine callsD_of_wpS hf hb fun c0 cs hu => ?_
      obtain ⟨v,cs',hrec,hv,hcs⟩:∃ v cs',(recoverD (c0 :: cs)).getD (.nilIface,c0 :: cs) = (v,cs')∧Rep C (recV r) v∧cs' = { c0 with mode := u' } :: cs := by
        cases r with
        | none =>
          obtain ⟨rfl,rfl⟩ := hr
          refine ⟨_,_,by simp [recoverD,hu]; exact ⟨rfl,rfl⟩,by simp [recV,Rep],?_⟩
          rw [← hu]
        | some d =>
          obtain ⟨v,h1,rfl,rfl⟩ := hr
          refine ⟨v,{ c0 with mode := .panicking [{ v,recovered := true }] } :: cs,by simp [recoverD,hu],h1,rfl⟩
      refine wpS_seq ?_
      intro b k hb hro
      have hsz:(args ++ Array.replicate (fn.ntmps - args.size) undef).size = E.n := by simp only [Array.size_append,Array.size_replicate]; omega
      have hdst:okDst (args ++ Array.replicate (fn.ntmps - args.size) undef).size o.dst = true := by
        rw [hsz]; exact List.all_eq_true.1 hok o (by rw [ho]; exact List.mem_cons_self ..)
      have hrun := run_sound (dfs := []) hE hok (List.range ops.size).tail C C F _ S (({ tmps := args ++ Array.replicate (fn.ntmps - args.size) undef,defers := [] }:Act).put o.dst v) w (.refl C)
        (RepEnv.putD (a := { tmps := args ++ Array.replicate (fn.ntmps - args.size) undef,defers := [] }) (argsEnv_rep ha _) hdst hv) (by rw [put_size]; exact hsz) (by rw [put_defers]) hs h
      have hfin : ∀ (C0 C' : Ctx) (x : AExit) (env' : Env) (S' : St) (e : Exit) (a' : Act) (w' : World), C.le C0 → C0.le C' → RepEnv C' env' a'.tmps → a'.defers = [] → Sat C' (S'.add F) w' → RepExit C' x e → recQ R x env' S' →
          bodyPostS E.P fn c0 cs (fun e u1 w' => u1 = u'∧(∃ v,e = .returned v)∧∃ C' S',C.le C'∧Sat C' (S'.add F) w'∧R S') e a' cs' w' := by
        intro C0 C' x env' S' e a' w' b0 b1 b2 b4 b5 b6 b7
        have hre:(results fn a'.tmps).run E.P w' = .ok (.tuple #[]) w' := results_none (by rw [hres]) _ _ _
        cases x <;> simp only [recQ] at b7 <;> cases e <;> simp only [RepExit] at b6
        all_goals exact ⟨b4,u',hcs,_,hre,rfl,⟨_,rfl⟩,C',S',b0.trans b1,b5,b7⟩
      obtain ⟨e,a',w',hq,harr⟩ := wp_ops _ _ _ hrun b k cs'
      have harr:Arrives E.P (Go.lone (b.at { tmps := args ++ Array.replicate (fn.ntmps - args.size) undef,defers := [] } (.code (.region id ops false) :: k)) (c0 :: cs) w) b k cs' e a' w' := by
        refine .of_steps (.one step_region) (.of_steps (.one ?_) harr)
        rw [hrange]
        exact step_recover hb ho0 hg hop hrec
      refine ⟨e,a',cs',w',?_,harr⟩
      obtain ⟨C',x,env',S',b1,b2,b3,b4,b5,b6,b7⟩ := hq
      cases e <;> cases x <;> simp only [RepExit] at b6 <;> simp only [thenQ] at b7
      case normal.normal =>
        refine wpS_of_wp (wp_mono (vc_sound (dfs := []) hE rest 0 _ _ S' b7 C' F a' w' (b2.sub (prune_sub _ _ _)) b3 b4 b5) ?_)
        rintro e a2 w2 ⟨C2,x,env2,S2,c1,c2,c3,c4,c5,c6,c7⟩
        exact hfin C' C2 x env2 S2 e a2 w2 b1 c1 c2 c4 c5 c6 c7
      case ret.ret => exact hfin C C' .ret env' S' .ret a' w' (.refl C) b1 b2 b4 b5 trivial b7
      all_goals exact b7.elim
    · exact h.elim
  · exact h.elim
def endR (R:AEnd→St→Prop) (tt:Nat→Option TI) (rs:List ResultVar) (env:Env) (S:St):Prop :=
  match resAll tt rs env S with
  | some ds => resEqs rs env S∧R (.ret (tupD ds)) S
  | none => False
def doorQ (dcl:Nat→List D→Option D→St→(St→Prop)→Prop) (R:AEnd→St→Prop) (tt:Nat→Option TI) (rs:List ResultVar) (g:Nat) (ds:List D):APostT := fun e env S => match e with
  | .normal => dcl g ds none S (fun S => endR R tt rs env S)
  | .ret => dcl g ds none S (fun S => endR R tt rs env S)
  | .panic d => dcl g ds (some d) S (fun S => endR R tt rs env S)
  | _ => False
theorem leaves_door {P : Program} {tt : Nat → Option TI} {R : AEnd → St → Prop} {C0 C C1 : Ctx} {F S : St} {fn : Func} {env : Env} {tmps : Array Value} {d : Deferred} {g : Nat} {ds : List D} {r : Option D} {u u' : FrameMode} {w : World} (hT : TabOk P tt) (hu : u ≠ .run)
    (hset:settle u' = .returning) (h0:C0.le C1) (h1:C1.le C) (hd:DefRep C1 d g ds) (he:RepEnv C env tmps) (hs:Sat C (S.add F) w) (hr:RepRec C r u u')
    (h:ACallsD P g ds r S (fun S => endR R tt fn.results.toList env S)) :
    Leaves P fn tmps (fun e w' => ∃ C' r S',C0.le C'∧Sat C' (S'.add F) w'∧RepEnd C' r e∧R r S') [d] u w := by
  obtain ⟨cap,ht,hds⟩ := hd.mono h1
  obtain ⟨⟨fg,q1,q2,q3⟩,h⟩ := h
  refine ⟨hu,.func g,cap,g,d.args ++ cap,ht,?_,?_⟩
  · rw [ht]
    simp only [invoke,callFunc,Sem.run_bind,run_program,Result.andThen_ok,q1,q2,q3,Bool.false_eq_true,if_false]
    rfl
  · refine CallsD.mono (h C F _ w u u' hds hs hr) ?_
    rintro e u1 w' ⟨rfl,⟨v,rfl⟩,C',S',a1,a2,a3⟩
    simp only [hset]
    unfold endR at a3
    split at a3
    · rename_i rs hrs
      obtain ⟨v,r1,r2⟩ := run_results (P := P) hT (he.mono a1) a2 hrs a3.1
      exact ⟨v,r1,C',.ret _,S',(h0.trans h1).trans a1,a2,r2,a3.2⟩
    · exact a3.elim
theorem acalls_door {P : Program} {tt : Nat → Option TI} {f n : Nat} {fn : Func} {c : Code} {ds : List D} {S : St} {R : AEnd → St → Prop} {dcl : Nat → List D → Option D → St → (St → Prop) → Prop} (hT : TabOk P tt) (hf : P.funcs[f]? = some fn) (hb : fn.body = some c)
    (hname : (fn.name == "runtime.NumGoroutine") = false) (hn : fn.ntmps = n) (hl : ds.length ≤ n) (hd : ∀ g ds r S R, dcl g ds r S R → ACallsD P g ds r S R)
    (h:AWpD P n c (inlQ R tt fn.results.toList) (doorQ dcl R tt fn.results.toList) (argsEnv 0 ds) S):ACalls P f ds S R := by
  refine ⟨⟨fn,hf,hname,by simp [hb]⟩,fun C F args w ha hs => ?_⟩
  have hal:args.size = ds.length := by have := RepL.length ha; simpa using this
  have hret : ∀ {C' : Ctx} {env' : Env} {S' : St} {a' : Act} {w' : World}, C.le C' → RepEnv C' env' a'.tmps → Sat C' (S'.add F) w' → (match resAll tt fn.results.toList env' S' with
        | some ds => resEqs fn.results.toList env' S'∧R (.ret (tupD ds)) S'
        | none => False) →
      ∃ v,(results fn a'.tmps).run P w' = .ok v w'∧∃ C' r S',C.le C'∧Sat C' (S'.add F) w'∧RepEnd C' r (.returned v)∧R r S' := by
    intro C0 env0 S0 a' w' b1 b2 b5 b7
    split at b7
    · rename_i ds' hds
      obtain ⟨v,r1,r2⟩ := run_results (P := P) hT b2 b5 hds b7.1
      exact ⟨v,r1,C0,.ret _,_,b1,b5,r2,b7.2⟩
    · exact b7.elim
  refine calls_of_wp_defers hf hb (wp_mono (h C F _ w (argsEnv_rep ha _) ?_ rfl hs) ?_)
  · simp only [Array.size_append,Array.size_replicate]; omega
  · rintro e a' w' (⟨C',x',env',S',b1,b2,b3,b4,b5,b6,b7⟩ | ⟨d,g,ds',C1,q1,q2,C',x',env',S',b1,b2,b3,b4,b5,b6,b7⟩)
    · cases e <;> cases x' <;> simp only [RepExit] at b6 <;> simp only [inlQ] at b7
      case normal.normal =>
        obtain ⟨v,r1,r2⟩ := hret b1 b2 b5 b7
        simp only [bodyPostD,b4]; exact ⟨v,r1,r2⟩
      case ret.ret =>
        obtain ⟨v,r1,r2⟩ := hret b1 b2 b5 b7
        simp only [bodyPostD,b4]; exact ⟨v,r1,r2⟩
      case panic.panic ch d =>
        obtain ⟨v,e,hv⟩ := b6
        simp only [bodyPostD,b4]
        exact ⟨C',.pan d,_,b1,b5,⟨v,e,hv⟩,b7⟩
      all_goals exact b7.elim
    · cases e <;> cases x' <;> simp only [RepExit] at b6 <;> simp only [doorQ] at b7
      case normal.normal =>
        simp only [bodyPostD,b4]
        exact leaves_door (u' := .returning) (r := none) hT (by simp) rfl q1 b1 q2 b2 b5 ⟨rfl,rfl⟩ (hd _ _ _ _ _ b7)
      case ret.ret =>
        simp only [bodyPostD,b4]
        exact leaves_door (u' := .returning) (r := none) hT (by simp) rfl q1 b1 q2 b2 b5 ⟨rfl,rfl⟩ (hd _ _ _ _ _ b7)
      case panic.panic ch d =>
        obtain ⟨v,rfl,hv⟩ := b6
        simp only [bodyPostD,b4]
        exact leaves_door (u' := .panicking [{ v,recovered := true }]) (r := some d) hT (by simp) rfl q1 b1 q2 b2 b5 ⟨v,hv,rfl,rfl⟩ (hd _ _ _ _ _ b7)
      all_goals exact b7.elim
def Senv.fit (E:Senv) (A:Frm) (inl:Nat→List D→St→(AEnd→St→Prop)→Prop):Senv :=
  { E with n := A.n,dfs := [],V := A.V,cross := A.cross,ord := A.ord,unr := A.unr,gh := fun _ => [],gr := [],ann := fun _ _ _ => none,ann2 := fun _ _ _ => none,cut2 := fun _ _ _ => none,cut := fun _ _ _ => none,inl := inl,own := A.own,gz := fun _ => [],mg := A.mg,bcut := fun _ _ _ => none }
def dclE (E:Senv) (fr:Nat→Option Frm) (inl:Nat→List D→St→(AEnd→St→Prop)→Prop) (g:Nat) (ds:List D) (r:Option D) (S:St) (R:St→Prop):Prop :=
  match fr g with
  | none => False
  | some A => match A.fn.body with
    | none => False
    | some c => chk (Nat.ble ds.length A.n && A.fn.results.toList.isEmpty) (vcRec (E.fit A inl) c r R ds S)
def inlD (E:Senv) (fr:Nat→Option Frm):Nat→Nat→List D→St→(AEnd→St→Prop)→Prop
  | 0,_,_,_,_ => False
  | fuel + 1,k,ds,S,R => match fr k with
    | none => False
    | some A => match A.fn.body with
      | none => False
      | some c => chk (Nat.ble ds.length A.n) (match hasDefer c with
        | false => vc (E.fit A (inlD E fr fuel)) c 0 (inlQ R E.tt A.fn.results.toList) (argsEnv 0 ds) S
        | true => vcD (E.fit A (inlD E fr fuel)) c 0 (inlQ R E.tt A.fn.results.toList) (doorQ (dclE E fr (inlD E fr fuel)) R E.tt A.fn.results.toList) (argsEnv 0 ds) S)
theorem fit_ok {E : Senv} {A : Frm} {inl : Nat → List D → St → (AEnd → St → Prop) → Prop} (hT : TabOk E.P E.tt) (hC : ConOk E.P E.con) (hm : E.P.follows .mixedOrders = true) (hQ : ∀ t, E.eqs.contains t = true → E.P.eqGuardType E.P.depth t = false ∧ E.P.stoodInHeld t = false)
    (hi:∀ k ds S R,inl k ds S R→ACalls E.P k ds S R):EnvOk (E.fit A inl) := ⟨hT,hC,hm,hi,hQ⟩
theorem dclE_ok {E : Senv} {fr : Nat → Option Frm} {inl : Nat → List D → St → (AEnd → St → Prop) → Prop} (hT : TabOk E.P E.tt) (hC : ConOk E.P E.con) (hm : E.P.follows .mixedOrders = true) (hF : FrmOk E.P fr) (hQ : ∀ t, E.eqs.contains t = true → E.P.eqGuardType E.P.depth t = false ∧ E.P.stoodInHeld t = false)
    (hi:∀ k ds S R,inl k ds S R→ACalls E.P k ds S R) (g:Nat) (ds:List D) (r:Option D) (S:St) (R:St→Prop) (h:dclE E fr inl g ds r S R):ACallsD E.P g ds r S R := by
  unfold dclE at h
  split at h
  · exact h.elim
  · rename_i A hA
    split at h
    · exact h.elim
    · rename_i c hc
      obtain ⟨h0,h⟩ := chk_iff.1 h
      simp only [Bool.and_eq_true] at h0
      obtain ⟨q1,q2,q3⟩ := hF g A hA
      exact rec_sound (E := E.fit A inl) (fit_ok hT hC hm hQ hi) q1 hc q3 q2 (Nat.le_of_ble_eq_true h0.1) (by simpa using h0.2) h
theorem inlD_ok {E:Senv} {fr:Nat→Option Frm} (hT:TabOk E.P E.tt) (hC:ConOk E.P E.con) (hm:E.P.follows .mixedOrders = true) (hF:FrmOk E.P fr) (hQ:∀ t,E.eqs.contains t = true→E.P.eqGuardType E.P.depth t = false∧E.P.stoodInHeld t = false):∀ (fuel k:Nat) (ds:List D) (S:St) (R:AEnd→St→Prop),inlD E fr fuel k ds S R→ACalls E.P k ds S R
  | 0,_,_,_,_,h => h.elim
  | fuel + 1,k,ds,S,R,h => by
    simp only [inlD] at h
    split at h
    · exact h.elim
    · rename_i A hA
      split at h
      · exact h.elim
      · rename_i c hc
        obtain ⟨h0,h⟩ := chk_iff.1 h
        obtain ⟨q1,q2,q3⟩ := hF k A hA
        have hi := inlD_ok hT hC hm hF hQ fuel
        split at h
        · exact acalls_inl hT q1 hc q3 q2 (Nat.le_of_ble_eq_true h0) (vc_sound (E := E.fit A (inlD E fr fuel)) (fit_ok hT hC hm hQ hi) c 0 _ _ _ h)
        · exact acalls_door hT q1 hc q3 q2 (Nat.le_of_ble_eq_true h0) (dclE_ok hT hC hm hF hQ hi) (vcD_sound (E := E.fit A (inlD E fr fuel)) (fit_ok hT hC hm hQ hi) c 0 _ _ _ _ h)
end Go.Ab
namespace Go.Ab
open Go Go.RowKit
theorem wrap_uns {k:IntKind} (hk:k.signed = false) {a:Nat} (ha:a < 2 ^ k.bits):k.wrap (a:Int) = (a:Int) := by
  have h:((a:Int) % (2 ^ k.bits:Int)) = a := Int.emod_eq_of_lt (by omega) (by exact_mod_cast ha)
  simp [IntKind.wrap,hk,h]
theorem ofInt_nat {n a:Nat} (ha:a < 2 ^ n):(BitVec.ofInt n (a:Int)).toNat = a := by
  rw [BitVec.ofInt_natCast,BitVec.toNat_ofNat,Nat.mod_eq_of_lt ha]
theorem andI_nat {k:IntKind} (hk:k.signed = false) {a b:Nat} (ha:a < 2 ^ k.bits) (hb:b < 2 ^ k.bits):andI k a b = ((a &&& b:Nat):Int) := by
  unfold andI
  rw [BitVec.toNat_and,ofInt_nat ha,ofInt_nat hb,wrap_uns hk (Nat.lt_of_le_of_lt Nat.and_le_left ha)]
theorem fdiv_nat (a b:Nat):Int.fdiv (a:Int) (b:Int) = ((a / b:Nat):Int) := by
  rw [Int.fdiv_eq_ediv_of_nonneg _ (by omega)]; exact_mod_cast rfl
theorem wrap_small {k:IntKind} (hk:k.signed = true) {n:Int} (h1:-(2 ^ (k.bits - 1):Int) ≤ n) (h2:n < (2 ^ (k.bits - 1):Int)):k.wrap n = n := by
  cases k <;> simp_all [IntKind.signed,IntKind.wrap,IntKind.bits] <;> split <;> omega
theorem wrap_i64' {n:Int} (h1:-9223372036854775808 ≤ n) (h2:n ≤ 9223372036854775807):IntKind.i64.wrap n = n :=
  wrap_small rfl (by simpa [IntKind.bits] using h1) (by simp [IntKind.bits]; omega)
end Go.Ab
namespace Go.Ab
open Go Go.RowKit
theorem StTo.none (S:St):StTo S ⟨[],[]⟩ := fun _ _ _ h => h.le ⟨List.nil_sublist _,List.nil_sublist _⟩
def sC (ds:List D) (d:D):FnSpec where
  β := Unit
  α := Unit
  args := fun _ => ds
  st := fun _ => ⟨[],[]⟩
  pre := fun _ => True
  post := fun _ _ => True
  res := fun _ _ => .ret d
  out := fun _ _ => ⟨[],[]⟩
end Go.Ab
namespace Go.Ab
open Go Go.RowKit
def nilMB:Mode→Nat→Bool
  | .nil,0 => true
  | _,_ => false
theorem HeadOk.nil_w {C:Ctx} {w w' n:Nat} {m':Mode} {a:Option Addr} {len cap:Nat} (hm:weakM .nil m') (h:HeadOk C w n .nil a len cap):HeadOk C w' n m' a len cap :=
  weakM_head hm (show HeadOk C w' n .nil a len cap from h)
mutual
def wkD:D→D→Prop
  | .sl w n f m,.sl w' n' f' m' => chk (decide (w = w') || nilMB m n) (n = n'∧(∀ i,i < n→wkL (f i) (f' i))∧weakM m m')
  | .agg cs,.agg cs' => wkL cs cs'
  | .iface t d,.iface t' d' => t = t'∧wkD d d'
  | d,d' => weakD d d'
def wkL:List D→List D→Prop
  | [],[] => True
  | d :: ds,d' :: ds' => wkD d d'∧wkL ds ds'
  | _,_ => False
end
theorem wkL_len:∀ {ds ds':List D},wkL ds ds'→ds.length = ds'.length
  | [],[],_ => rfl
  | d :: ds,d' :: ds',h => by simp only [wkL] at h; simp [wkL_len h.2]
  | [],_ :: _,h => by simp [wkL] at h
  | _ :: _,[],h => by simp [wkL] at h
mutual
theorem wkD_weak:∀ (d d':D),wkD d d'→∀ C v,Rep C d v→Rep C d' v
  | .sl w n f m,d',h,C,v,H => by
    cases d' with
    | sl w' n' f' m' =>
      simp only [wkD] at h
      obtain ⟨hw,rfl,hf,hm⟩ := chk_iff.1 h
      simp only [Rep] at H ⊢
      obtain ⟨a,len,cap,e,hh,hr⟩ := H
      by_cases hw:w = w'
      case neg =>
        have hw:nilMB m n = true := by simpa [hw] using ‹(decide (w = w') || nilMB m n) = true›
        unfold nilMB at hw
        split at hw
        · exact ⟨a,len,cap,e,hh.nil_w hm,fun _ _ i hi => absurd hi (Nat.not_lt_zero _)⟩
        · cases hw
      subst hw
      exact ⟨a,len,cap,e,weakM_head hm hh,fun x hx i hi => ⟨(wkL_len (hf i hi)).symm.trans (hr x hx i hi).1,wkC_weak (f i) (f' i) (hf i hi) C _ _ (hr x hx i hi).2⟩⟩
    | _ => exact weakD_weak _ _ (by simpa [wkD] using h) C v H
  | .agg cs,d',h,C,v,H => by
    cases d' with
    | agg cs' =>
      simp only [wkD] at h
      simp only [Rep] at H ⊢
      obtain ⟨vs,e,r⟩ := H
      exact ⟨vs,e,wkL_weak cs cs' h C _ r⟩
    | _ => exact weakD_weak _ _ (by simpa [wkD] using h) C v H
  | .iface t d,d',h,C,v,H => by
    cases d' with
    | iface t' d' =>
      simp only [wkD] at h
      obtain ⟨rfl,h⟩ := h
      simp only [Rep] at H ⊢
      obtain ⟨x,e,r⟩ := H
      exact ⟨x,e,wkD_weak d d' h C _ r⟩
    | _ => exact weakD_weak _ _ (by simpa [wkD] using h) C v H
  | .unk,d',h,C,v,H => weakD_weak _ d' (by simpa [wkD] using h) C v H
  | .bool b,d',h,C,v,H => weakD_weak _ d' (by simpa [wkD] using h) C v H
  | .int k n,d',h,C,v,H => weakD_weak _ d' (by simpa [wkD] using h) C v H
  | .str s,d',h,C,v,H => weakD_weak _ d' (by simpa [wkD] using h) C v H
  | .nilp,d',h,C,v,H => weakD_weak _ d' (by simpa [wkD] using h) C v H
  | .ref k x o,d',h,C,v,H => weakD_weak _ d' (by simpa [wkD] using h) C v H
  | .pt row,d',h,C,v,H => weakD_weak _ d' (by simpa [wkD] using h) C v H
  | .ms k x o l c w,d',h,C,v,H => weakD_weak _ d' (by simpa [wkD] using h) C v H
  | .vs k x l c w,d',h,C,v,H => weakD_weak _ d' (by simpa [wkD] using h) C v H
  | .er k x i w fo,d',h,C,v,H => weakD_weak _ d' (by simpa [wkD] using h) C v H
  | .nmap,d',h,C,v,H => weakD_weak _ d' (by simpa [wkD] using h) C v H
  | .map k x,d',h,C,v,H => weakD_weak _ d' (by simpa [wkD] using h) C v H
  | .fn f a c,d',h,C,v,H => weakD_weak _ d' (by simpa [wkD] using h) C v H
  | .nilf,d',h,C,v,H => weakD_weak _ d' (by simpa [wkD] using h) C v H
  | .nili,d',h,C,v,H => weakD_weak _ d' (by simpa [wkD] using h) C v H
  | .tup cs,d',h,C,v,H => weakD_weak _ d' (by simpa [wkD] using h) C v H
theorem wkL_weak:∀ (ds ds':List D),wkL ds ds'→∀ C vs,RepL C ds vs→RepL C ds' vs
  | [],[],_,C,vs,H => H
  | d :: ds,d' :: ds',h,C,vs,H => by
    simp only [wkL] at h
    simp only [RepL] at H ⊢
    obtain ⟨x,xs,e,r1,r2⟩ := H
    exact ⟨x,xs,e,wkD_weak d d' h.1 C x r1,wkL_weak ds ds' h.2 C xs r2⟩
  | [],_ :: _,h,_,_,_ => by simp [wkL] at h
  | _ :: _,[],h,_,_,_ => by simp [wkL] at h
theorem wkC_weak:∀ (ds ds':List D),wkL ds ds'→∀ C b o,RepCells C b o ds→RepCells C b o ds'
  | [],[],_,C,b,o,H => H
  | d :: ds,d' :: ds',h,C,b,o,H => by
    simp only [wkL] at h
    simp only [RepCells] at H ⊢
    obtain ⟨⟨v,e,r1⟩,r2⟩ := H
    exact ⟨⟨v,e,wkD_weak d d' h.1 C v r1⟩,wkC_weak ds ds' h.2 C b _ r2⟩
  | [],_ :: _,h,_,_,_,_ => by simp [wkL] at h
  | _ :: _,[],h,_,_,_,_ => by simp [wkL] at h
end
mutual
theorem wkD_refl:∀ (d:D),wkD d d
  | .sl w n f m => by
    simp only [wkD,chk_iff]
    exact ⟨by simp,trivial,fun i _ => wkL_refl (f i),weakM_refl m⟩
  | .agg cs => by simp only [wkD]; exact wkL_refl cs
  | .iface t d => by simp only [wkD]; exact ⟨trivial,wkD_refl d⟩
  | .unk => by simp [wkD,weakD]
  | .bool b => by simp [wkD,weakD]
  | .int k n => by simp [wkD,weakD,chk_iff,kEq]
  | .str s => by simp [wkD,weakD]
  | .nilp => by simp [wkD,weakD]
  | .ref _ x o => by simp [wkD,weakD,chk_iff]
  | .pt row => by simp [wkD,weakD]
  | .ms _ x o len cap w => by simp [wkD,weakD,chk_iff]
  | .vs _ x len cap w => by simp [wkD,weakD,chk_iff]
  | .er _ x i w fo => by simp [wkD,weakD,chk_iff]
  | .nmap => by simp [wkD,weakD]
  | .map _ x => by simp [wkD,weakD]
  | .fn f a c => by simp [wkD,weakD]
  | .nilf => by simp [wkD,weakD]
  | .nili => by simp [wkD,weakD]
  | .tup cs => by simp only [wkD]; exact weakD_refl _
theorem wkL_refl:∀ (ds:List D),wkL ds ds
  | [] => by simp [wkL]
  | d :: ds => by simp only [wkL]; exact ⟨wkD_refl d,wkL_refl ds⟩
end
theorem ACalls.wkArgs {P:Program} {k:FuncId} {ds ds':List D} {S:St} {R:AEnd→St→Prop} (h:ACalls P k ds' S R) (hw:wkL ds ds'):ACalls P k ds S R :=
  ⟨h.1,fun C F args w ha hs => h.2 C F args w (wkL_weak _ _ hw _ _ ha) hs⟩
def pE {β:Type} (ds:List D) (S:St) (d:β→D) (p:β→Prop):FnSpec where
  β := β
  α := Unit
  args := fun _ => ds
  st := fun _ => S
  pre := p
  post := fun _ _ => True
  res := fun x _ => .ret (d x)
  out := fun _ _ => S
  all := true
theorem ACalls.whole {P:Program} {k:FuncId} {ds:List D} {d:D} (S:St) (h:ACalls P k ds ⟨[],[]⟩ (SpecR (sC ds d) ())):ACalls P k ds S (fun r S' => r = .ret d∧S' = S) := by
  refine ((h.frame S).from fun C F w H => ?_).mono ?_
  · simpa [St.add] using H
  · rintro r S' ⟨S0,⟨_,_,rfl,rfl⟩,rfl⟩
    exact ⟨rfl,by simp [St.add,sC]⟩
theorem sC_wk {P:Program} {k:FuncId} {ds us:List D} {d:D} (hw:wkL ds us) (h:ACalls P k us ⟨[],[]⟩ (SpecR (sC us d) ())):ACalls P k ds ⟨[],[]⟩ (SpecR (sC ds d) ()) :=
  (h.wkArgs hw).mono fun _ _ ⟨_,_h1,h2,h3⟩ => ⟨(),trivial,h2,h3⟩
end Go.Ab
namespace Go.Ab
open Go Go.RowKit
theorem Sat.kept {C:Ctx} {S:St} {w w':World} (H:Sat C S w) (hb:Below w.heap.size w w'):Sat C S w' := by
  have hlt:∀ x o,ObjAt C w x o→x < w.heap.size := by
    intro x o h
    cases o with
    | cells ds => obtain ⟨_,_,_,h1,_⟩ := h; exact (Array.getElem?_eq_some_iff.1 h1).1
    | amap k es => obtain ⟨_,_,h1,_⟩ := h; exact (Array.getElem?_eq_some_iff.1 h1).1
    | sit s pos => exact (Array.getElem?_eq_some_iff.1 (show w.heap[x]? = _ from h)).1
    | bld T E d => obtain ⟨_,_,_,h1,_⟩ := h; exact (Array.getElem?_eq_some_iff.1 h1).1
    | vec wd n cap f => obtain ⟨_,_,_,_,_,h1,_⟩ := h; exact (Array.getElem?_eq_some_iff.1 h1).1
  refine ⟨H.below.trans (hb.mono H.base_le),fun b o v h => ?_,H.one,fun p hp => ?_,H.nodup,fun t ht => ?_,H.tnodup,H.tfin,H.tdist⟩
  · have h1 := H.imm b o v h
    have := H.imm_lt h
    rw [← h1]
    exact Below.cell hb (p := ⟨b,o,none⟩) this
  · obtain ⟨h1,h2,h3⟩ := H.objs p hp
    exact ⟨h1,h2,h3.of_heap (hb.block _ (hlt _ _ h3))⟩
  · obtain ⟨x,h1,h2,h3⟩ := H.toks t ht
    refine ⟨x,h1,?_,h3⟩
    cases x with
    | no => trivial
    | «at» b n cap wd =>
      obtain ⟨q1,q2,arr,E,fz,q3,q4⟩ := h2
      have:b < w.heap.size := (Array.getElem?_eq_some_iff.1 q3).1
      exact ⟨q1,q2,arr,E,fz,(hb.block b this).trans q3,q4⟩
theorem ACalls.of_kept {P : Program} {f : FuncId} {ds : List D} {d : D} {S : St} (hf : FnOk P f)
    (h:∀ (C:Ctx) (args:Array Value) (w:World),RepL C ds args.toList→Calls P f args w fun e w' => (∃ v,e = .returned v∧Rep C d v)∧Below w.heap.size w w'):ACalls P f ds S (fun r S' => r = .ret d∧S' = S) :=
  ⟨hf,fun C F args w ha hs => (h C args w ha).mono fun _ w' ⟨⟨v,he,hv⟩,hb⟩ => ⟨C,.ret d,S,.refl C,hs.kept hb,by subst he; exact hv,rfl,rfl⟩⟩
theorem ACalls.of_shelf {P : Program} {f : FuncId} {ds : List D} {d : D} (hf : FnOk P f)
    (h:∀ (C:Ctx) (args:Array Value) (w:World),RepL C ds args.toList→Calls P f args w fun e w' => (∃ v,e = .returned v∧Rep C d v)∧Below w.heap.size w w'):ACalls P f ds ⟨[],[]⟩ (SpecR (sC ds d) ()) :=
  (ACalls.of_kept hf h).mono fun _ _ ⟨h1,h2⟩ => ⟨(),trivial,h1,h2⟩
theorem ACalls.of_shelf_g {P : Program} {f : FuncId} {ds : List D} {d : D} (hf : FnOk P f)
    (h:∀ (C:Ctx) (args:Array Value) (w:World),RepL C ds args.toList→G0 C.w0→Below C.w0.heap.size C.w0 w→Calls P f args w fun e w' => (∃ v,e = .returned v∧Rep C d v)∧Below w.heap.size w w'):ACalls P f ds ⟨[],[]⟩ (SpecR (sC ds d) ()) :=
  ⟨hf,fun C F args w ha hs => (h C args w ha C.ok hs.below).mono fun _ w' ⟨⟨v,he,hv⟩,hb⟩ => ⟨C,.ret d,_,.refl C,hs.kept hb,by subst he; exact hv,(),trivial,rfl,rfl⟩⟩
theorem var_below {P:Program} {n:String} {vs:Array Value} {w w':World} (h:w.var? P n = some vs) (hb:Below w.heap.size w w'):w'.var? P n = some vs := by
  unfold World.var? at h ⊢
  cases hg:P.globalNamed n with
  | none => rw [hg] at h; cases h
  | some g =>
    rw [hg] at h
    simp only [Option.bind_some] at h ⊢
    have hlt:g < w.heap.size := by
      cases hh:w.heap[g]? with
      | none => rw [hh] at h; cases h
      | some o => exact (Array.getElem?_eq_some_iff.1 hh).1
    rw [hb.block g hlt]; exact h
end Go.Ab
namespace Go.Ab
open Go Go.RowKit
variable {P:Program} {W:World}
theorem ReadAt.weak {n:Nat} {t:TypeId} {R R':List D→Prop} (h:ReadAt P W n t R) (k:∀ (hG:G0 W) ds vs,R ds→RepL (ctx0 W hG) ds vs→∃ ds',R' ds'∧RepL (ctx0 W hG) ds' vs):ReadAt P W n t R' := by
  intro hG H enc cs d ps hd hw
  obtain ⟨⟨ds,h1,h2⟩,h3⟩ := h hG H enc cs d ps hd hw
  exact ⟨k hG _ _ h1 h2,h3⟩
end Go.Ab
