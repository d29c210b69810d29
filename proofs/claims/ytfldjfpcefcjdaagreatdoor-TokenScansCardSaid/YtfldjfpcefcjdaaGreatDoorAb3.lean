/- An abstract state over the worlds of the model, what each operation does to it, and the verification condition of code over it: proved for every program, without conditions. -/
import Derived.Test.YtfldjfpcefcjdaaGreatDoorAb2
namespace Go.Ab
open Go Go.RowKit
def nilMB:Mode→Nat→Bool
  | .nil,0 => true
  | _,_ => false
theorem HeadOk.nil_w {C:Ctx} {w w' n:Nat} {m':Mode} {a:Option Addr} {len cap:Nat} (hm:weakM .nil m') (h:HeadOk C w n .nil a len cap):HeadOk C w' n m' a len cap :=
  weakM_head hm (show HeadOk C w' n .nil a len cap from h)
mutual
def wkD:D→D→Prop
  | .sl w n f m,.sl w' n' f' m' => chk (decide (w = w') || nilMB m n) (n = n'∧(∀ i,i < n→wkL (f i) (f' i))∧weakM m m')
  | .agg cs,.agg cs' => wkL cs cs'
  | .iface t d,.iface t' d' => t = t'∧wkD d d'
  | d,d' => weakD d d'
def wkL:List D→List D→Prop
  | [],[] => True
  | d :: ds,d' :: ds' => wkD d d'∧wkL ds ds'
  | _,_ => False
end
theorem wkL_len:∀ {ds ds':List D},wkL ds ds'→ds.length = ds'.length
  | [],[],_ => rfl
  | d :: ds,d' :: ds',h => by simp only [wkL] at h; simp [wkL_len h.2]
  | [],_ :: _,h => by simp [wkL] at h
  | _ :: _,[],h => by simp [wkL] at h
mutual
theorem wkD_weak:∀ (d d':D),wkD d d'→∀ C v,Rep C d v→Rep C d' v
  | .sl w n f m,d',h,C,v,H => by
    cases d' with
    | sl w' n' f' m' =>
      simp only [wkD] at h
      obtain ⟨hw,rfl,hf,hm⟩ := chk_iff.1 h
      simp only [Rep] at H ⊢
      obtain ⟨a,len,cap,e,hh,hr⟩ := H
      by_cases hw:w = w'
      case neg =>
        have hw:nilMB m n = true := by simpa [hw] using ‹(decide (w = w') || nilMB m n) = true›
        unfold nilMB at hw
        split at hw
        · exact ⟨a,len,cap,e,hh.nil_w hm,fun _ _ i hi => absurd hi (Nat.not_lt_zero _)⟩
        · cases hw
      subst hw
      exact ⟨a,len,cap,e,weakM_head hm hh,fun x hx i hi => ⟨(wkL_len (hf i hi)).symm.trans (hr x hx i hi).1,wkC_weak (f i) (f' i) (hf i hi) C _ _ (hr x hx i hi).2⟩⟩
    | _ => exact weakD_weak _ _ (by simpa [wkD] using h) C v H
  | .agg cs,d',h,C,v,H => by
    cases d' with
    | agg cs' =>
      simp only [wkD] at h
      simp only [Rep] at H ⊢
      obtain ⟨vs,e,r⟩ := H
      exact ⟨vs,e,wkL_weak cs cs' h C _ r⟩
    | _ => exact weakD_weak _ _ (by simpa [wkD] using h) C v H
  | .iface t d,d',h,C,v,H => by
    cases d' with
    | iface t' d' =>
      simp only [wkD] at h
      obtain ⟨rfl,h⟩ := h
      simp only [Rep] at H ⊢
      obtain ⟨x,e,r⟩ := H
      exact ⟨x,e,wkD_weak d d' h C _ r⟩
    | _ => exact weakD_weak _ _ (by simpa [wkD] using h) C v H
  | .unk,d',h,C,v,H => weakD_weak _ d' (by simpa [wkD] using h) C v H
  | .bool b,d',h,C,v,H => weakD_weak _ d' (by simpa [wkD] using h) C v H
  | .int k n,d',h,C,v,H => weakD_weak _ d' (by simpa [wkD] using h) C v H
  | .str s,d',h,C,v,H => weakD_weak _ d' (by simpa [wkD] using h) C v H
  | .nilp,d',h,C,v,H => weakD_weak _ d' (by simpa [wkD] using h) C v H
  | .ref k x o,d',h,C,v,H => weakD_weak _ d' (by simpa [wkD] using h) C v H
  | .pt row,d',h,C,v,H => weakD_weak _ d' (by simpa [wkD] using h) C v H
  | .ms k x o l c w,d',h,C,v,H => weakD_weak _ d' (by simpa [wkD] using h) C v H
  | .vs k x l c w,d',h,C,v,H => weakD_weak _ d' (by simpa [wkD] using h) C v H
  | .er k x i w fo,d',h,C,v,H => weakD_weak _ d' (by simpa [wkD] using h) C v H
  | .nmap,d',h,C,v,H => weakD_weak _ d' (by simpa [wkD] using h) C v H
  | .map k x,d',h,C,v,H => weakD_weak _ d' (by simpa [wkD] using h) C v H
  | .fn f a c,d',h,C,v,H => weakD_weak _ d' (by simpa [wkD] using h) C v H
  | .nilf,d',h,C,v,H => weakD_weak _ d' (by simpa [wkD] using h) C v H
  | .nili,d',h,C,v,H => weakD_weak _ d' (by simpa [wkD] using h) C v H
  | .tup cs,d',h,C,v,H => weakD_weak _ d' (by simpa [wkD] using h) C v H
theorem wkL_weak:∀ (ds ds':List D),wkL ds ds'→∀ C vs,RepL C ds vs→RepL C ds' vs
  | [],[],_,C,vs,H => H
  | d :: ds,d' :: ds',h,C,vs,H => by
    simp only [wkL] at h
    simp only [RepL] at H ⊢
    obtain ⟨x,xs,e,r1,r2⟩ := H
    exact ⟨x,xs,e,wkD_weak d d' h.1 C x r1,wkL_weak ds ds' h.2 C xs r2⟩
  | [],_ :: _,h,_,_,_ => by simp [wkL] at h
  | _ :: _,[],h,_,_,_ => by simp [wkL] at h
theorem wkC_weak:∀ (ds ds':List D),wkL ds ds'→∀ C b o,RepCells C b o ds→RepCells C b o ds'
  | [],[],_,C,b,o,H => H
  | d :: ds,d' :: ds',h,C,b,o,H => by
    simp only [wkL] at h
    simp only [RepCells] at H ⊢
    obtain ⟨⟨v,e,r1⟩,r2⟩ := H
    exact ⟨⟨v,e,wkD_weak d d' h.1 C v r1⟩,wkC_weak ds ds' h.2 C b _ r2⟩
  | [],_ :: _,h,_,_,_,_ => by simp [wkL] at h
  | _ :: _,[],h,_,_,_,_ => by simp [wkL] at h
end
mutual
theorem wkD_refl:∀ (d:D),wkD d d
  | .sl w n f m => by
    simp only [wkD,chk_iff]
    exact ⟨by simp,trivial,fun i _ => wkL_refl (f i),weakM_refl m⟩
  | .agg cs => by simp only [wkD]; exact wkL_refl cs
  | .iface t d => by simp only [wkD]; exact ⟨trivial,wkD_refl d⟩
  | .unk => by simp [wkD,weakD]
  | .bool b => by simp [wkD,weakD]
  | .int k n => by simp [wkD,weakD,chk_iff,kEq]
  | .str s => by simp [wkD,weakD]
  | .nilp => by simp [wkD,weakD]
  | .ref _ x o => by simp [wkD,weakD,chk_iff]
  | .pt row => by simp [wkD,weakD]
  | .ms _ x o len cap w => by simp [wkD,weakD,chk_iff]
  | .vs _ x len cap w => by simp [wkD,weakD,chk_iff]
  | .er _ x i w fo => by simp [wkD,weakD,chk_iff]
  | .nmap => by simp [wkD,weakD]
  | .map _ x => by simp [wkD,weakD]
  | .fn f a c => by simp [wkD,weakD]
  | .nilf => by simp [wkD,weakD]
  | .nili => by simp [wkD,weakD]
  | .tup cs => by simp only [wkD]; exact weakD_refl _
theorem wkL_refl:∀ (ds:List D),wkL ds ds
  | [] => by simp [wkL]
  | d :: ds => by simp only [wkL]; exact ⟨wkD_refl d,wkL_refl ds⟩
end
theorem ACalls.whole {P:Program} {k:FuncId} {ds:List D} {d:D} (S:St) (h:ACalls P k ds ⟨[],[]⟩ (SpecR (sC ds d) ())):ACalls P k ds S (fun r S' => r = .ret d∧S' = S) := by
  refine ((h.frame S).from fun C F w H => ?_).mono ?_
  · simpa [St.add] using H
  · rintro r S' ⟨S0,⟨_,_,rfl,rfl⟩,rfl⟩
    exact ⟨rfl,by simp [St.add,sC]⟩
end Go.Ab
namespace Go.Ab
open Go Go.RowKit
theorem Sat.kept {C:Ctx} {S:St} {w w':World} (H:Sat C S w) (hb:Below w.heap.size w w'):Sat C S w' := by
  have hlt:∀ x o,ObjAt C w x o→x < w.heap.size := by
    intro x o h
    cases o with
    | cells ds => obtain ⟨_,_,_,h1,_⟩ := h; exact (Array.getElem?_eq_some_iff.1 h1).1
    | amap k es => obtain ⟨_,_,h1,_⟩ := h; exact (Array.getElem?_eq_some_iff.1 h1).1
    | sit s pos => exact (Array.getElem?_eq_some_iff.1 (show w.heap[x]? = _ from h)).1
    | bld T E d => obtain ⟨_,_,_,h1,_⟩ := h; exact (Array.getElem?_eq_some_iff.1 h1).1
    | vec wd n cap f => obtain ⟨_,_,_,_,_,h1,_⟩ := h; exact (Array.getElem?_eq_some_iff.1 h1).1
  refine ⟨H.below.trans (hb.mono H.base_le),fun b o v h => ?_,H.one,fun p hp => ?_,H.nodup,fun t ht => ?_,H.tnodup,H.tfin,H.tdist⟩
  · have h1 := H.imm b o v h
    have := H.imm_lt h
    rw [← h1]
    exact Below.cell hb (p := ⟨b,o,none⟩) this
  · obtain ⟨h1,h2,h3⟩ := H.objs p hp
    exact ⟨h1,h2,h3.of_heap (hb.block _ (hlt _ _ h3))⟩
  · obtain ⟨x,h1,h2,h3⟩ := H.toks t ht
    refine ⟨x,h1,?_,h3⟩
    cases x with
    | no => trivial
    | «at» b n cap wd =>
      obtain ⟨q1,q2,arr,E,fz,q3,q4⟩ := h2
      have:b < w.heap.size := (Array.getElem?_eq_some_iff.1 q3).1
      exact ⟨q1,q2,arr,E,fz,(hb.block b this).trans q3,q4⟩
theorem ACalls.of_kept {P : Program} {f : FuncId} {ds : List D} {d : D} {S : St} (hf : FnOk P f)
    (h:∀ (C:Ctx) (args:Array Value) (w:World),RepL C ds args.toList→Calls P f args w fun e w' => (∃ v,e = .returned v∧Rep C d v)∧Below w.heap.size w w'):ACalls P f ds S (fun r S' => r = .ret d∧S' = S) :=
  ⟨hf,fun C F args w ha hs => (h C args w ha).mono fun _ w' ⟨⟨v,he,hv⟩,hb⟩ => ⟨C,.ret d,S,.refl C,hs.kept hb,by subst he; exact hv,rfl,rfl⟩⟩
theorem ACalls.of_shelf {P : Program} {f : FuncId} {ds : List D} {d : D} (hf : FnOk P f)
    (h:∀ (C:Ctx) (args:Array Value) (w:World),RepL C ds args.toList→Calls P f args w fun e w' => (∃ v,e = .returned v∧Rep C d v)∧Below w.heap.size w w'):ACalls P f ds ⟨[],[]⟩ (SpecR (sC ds d) ()) :=
  (ACalls.of_kept hf h).mono fun _ _ ⟨h1,h2⟩ => ⟨(),trivial,h1,h2⟩
theorem ACalls.of_shelf_g {P : Program} {f : FuncId} {ds : List D} {d : D} (hf : FnOk P f)
    (h:∀ (C:Ctx) (args:Array Value) (w:World),RepL C ds args.toList→G0 C.w0→Below C.w0.heap.size C.w0 w→Calls P f args w fun e w' => (∃ v,e = .returned v∧Rep C d v)∧Below w.heap.size w w'):ACalls P f ds ⟨[],[]⟩ (SpecR (sC ds d) ()) :=
  ⟨hf,fun C F args w ha hs => (h C args w ha C.ok hs.below).mono fun _ w' ⟨⟨v,he,hv⟩,hb⟩ => ⟨C,.ret d,_,.refl C,hs.kept hb,by subst he; exact hv,(),trivial,rfl,rfl⟩⟩
theorem var_below {P:Program} {n:String} {vs:Array Value} {w w':World} (h:w.var? P n = some vs) (hb:Below w.heap.size w w'):w'.var? P n = some vs := by
  unfold World.var? at h ⊢
  cases hg:P.globalNamed n with
  | none => rw [hg] at h; cases h
  | some g =>
    rw [hg] at h
    simp only [Option.bind_some] at h ⊢
    have hlt:g < w.heap.size := by
      cases hh:w.heap[g]? with
      | none => rw [hh] at h; cases h
      | some o => exact (Array.getElem?_eq_some_iff.1 hh).1
    rw [hb.block g hlt]; exact h
end Go.Ab
namespace Go.Ab
open Go Go.RowKit
variable {P:Program} {W:World}
theorem ReadAt.weak {n:Nat} {t:TypeId} {R R':List D→Prop} (h:ReadAt P W n t R) (k:∀ (hG:G0 W) ds vs,R ds→RepL (ctx0 W hG) ds vs→∃ ds',R' ds'∧RepL (ctx0 W hG) ds' vs):ReadAt P W n t R' := by
  intro hG H enc cs d ps hd hw
  obtain ⟨⟨ds,h1,h2⟩,h3⟩ := h hG H enc cs d ps hd hw
  exact ⟨k hG _ _ h1 h2,h3⟩
end Go.Ab
