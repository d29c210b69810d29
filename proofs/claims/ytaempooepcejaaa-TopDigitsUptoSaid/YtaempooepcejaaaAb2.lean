/- An abstract state over the worlds of the model, what each operation does to it, and the verification condition of code over it: proved for every program, without conditions. -/
import Derived.Test.YtaempooepcejaaaAb1
import Derived.MapKept
import Derived.Laws.StructEq
import Derived.Orders
import Derived.Scope
import Derived.ProofKit
import Derived.WalkKit
import Derived.OpenShut
import Derived.Recover
namespace Go.Ab
open Go Go.RowKit
def Oc:List (List UInt8×Int)->List UInt8->Option Int
 | [],_=>none
 |(t,n)::r,s=>if t=s then some n else Oc r s
def Baa:List (List UInt8×Int)->List UInt8->Int->List (List UInt8×Int)
 | [],s,m=>[(s,m)]
 |(t,n)::r,s,m=>if t=s then (s,m)::r else (t,n)::Baa r s m
theorem Rp{a b:List UInt8}:((⟨a.toArray⟩:ByteArray)==⟨b.toArray⟩)=decide (a=b):=by
 by_cases h:a=b
 ·subst h;simp[(MapKept.bytes_beq _ _).2 rfl]
 ·have:¬((⟨a.toArray⟩:ByteArray)==⟨b.toArray⟩)=true:=fun e=>h (by
   have:=(MapKept.bytes_beq _ _).1 e
   injection this with this
   simpa using this)
  simp[h,this]
theorem TM{k : IntKind}(s : List UInt8) : ∀(ps : List (List UInt8×Int)) (es : List MapEntry) (i : Nat), RepPairs k ps es ->
  match Oc ps s with
  |none=>Instr.findNow .string (.string ⟨s.toArray⟩) es i=some none/\∀m b,RepPairs k (Baa ps s m) (es++[{ key:=.string ⟨s.toArray⟩,val:=.int k m,born:=b }])
  |some n=>∃j e, Instr.findNow .string (.string ⟨s.toArray⟩) es i=some (some (i+j, .int k n)) /\ es[j]? =some e /\ e.key=.string ⟨s.toArray⟩ /\
    ∀m,RepPairs k (Baa ps s m) (es.modify j fun e=>{ e with key:=.string ⟨s.toArray⟩,val:=.int k m })
 | [],es,i,h=>by
  simp only[RepPairs] at h;subst h
  simp only[Oc]
  exact⟨rfl,fun m b=>⟨_,_,rfl,rfl,rfl,rfl⟩⟩
 |(t,n)::r,es,i,h=>by
  simp only[RepPairs] at h
  obtain ⟨e,es',rfl,h1,h2,h3⟩:=h
  have ih:=TM s r es' (i+1) h3
  simp only[Oc,Baa]
  by_cases e1:t=s
  ·subst e1
   simp only[if_true]
   refine⟨0,e,?_,rfl,h1,fun m=>?_⟩
   ·simp[Instr.findNow,h1,Instr.sameNow,Rp,h2]
   ·simp only[List.modify_zero_cons]
    exact⟨_,_,rfl,rfl,rfl,h3⟩
  ·have hne:Instr.sameNow .string (.string ⟨s.toArray⟩) e.key=some false:=by
    simp[h1,Instr.sameNow,Rp,Ne.symm e1]
   simp only[if_neg e1]
   cases hg:Oc r s with
   |none =>
    rw[hg] at ih
    refine⟨by simp[Instr.findNow,hne,ih.1],fun m b=>⟨e,_,rfl,h1,h2,ih.2 m b⟩⟩
   |some n' =>
    rw[hg] at ih
    obtain ⟨j,e',q1,q2,q3,q4⟩:=ih
    refine⟨j+1,e',by simp[Instr.findNow,hne,q1];omega,by simpa using q2,q3,fun m=>?_⟩
    simp only[List.modify_succ_cons]
    exact⟨e,_,rfl,h1,h2,q4 m⟩
def M6(tt:Nat->Option TI)(d:TypeDesc):Bool :=
 match d with
 |.map kt et=>match tt kt with
  |some ki=>match ki.desc with
   |.string=>match tt et with
    |some _=>true
    |none=>false
   |_=>false
  |none=>false
 |_=>false
theorem M4{tt:Nat->Option TI}{d:TypeDesc}(h:M6 tt d=true):∃kt et ki ei,d=.map kt et/\tt kt=some ki/\ki.desc=.string/\tt et=some ei:=by
 unfold M6 at h
 split at h
 ·split at h
  ·split at h
   ·split at h
    ·exact⟨_,_,_,_,rfl,‹_›,‹_›,‹_›⟩
    ·cases h
   ·cases h
  ·cases h
 ·cases h
def Ik(P:Program)(d:TypeDesc):Option IntKind :=
 match d with
 |.map _ et=>match P.info? et with
  |some i=>match i.zero with
   |some (.int k z)=>match z with
    |.ofNat 0=>some k
    |_=>none
   |_=>none
  |none=>none
 |_=>none
theorem TV{P:Program}{kt et:TypeId}{k:IntKind}(h:Ik P (.map kt et)=some k)(w:World):(zeroValue et).run P w=.ok (.int k 0) w:=by
 unfold Ik at h
 simp only at h
 split at h
 ·rename_i i hi
  split at h
  ·rename_i k' z hz
   split at h
   ·injection h with h
    subst h
    simp[zeroValue,typeInfo,hi,hz]
   ·cases h
  ·cases h
 ·cases h
def Ow(zk:Option IntKind)(x i:D)(ok:Bool)(S:St)(K:D->St->Prop):Prop :=
 match i,ok with
 |.str s,false=>match x with
  |.map t b=>match Bx S.objs t with
   |some (y,.amap k es)=>match zk with
    |some k'=>chk (kEq k' k) (y=b/\K (.int k ((Oc es s).getD 0)) S)
    |none=>False
   |_=>False
  |_=>False
 |.str s,true=>match x with
  |.nmap=>K (.tup [.unk,.bool false]) S
  |.map t b=>match Bx S.objs t with
   |some (y,.amap k es)=>y=b/\(∀n,Oc es s=some n->K (.tup [.int k n,.bool true]) S)/\(Oc es s=none->K (.tup [.unk,.bool false]) S)
   |_=>False
  |_=>False
 |_,_=>False
def EF(x i v:D)(S:St)(K:D->St->Prop):Prop :=
 match i,v with
 |.str s,.int k1 n=>match x with
  |.map t b=>match Bx S.objs t with
   |some (y,.amap k es)=>chk (kEq k1 k) (y=b/\K (.tup []) (S.set t (.amap k (Baa es s n))))
   |_=>False
  |_=>False
 |_,_=>False
def BcS(tt:Nat->Option TI)(d:TypeDesc):Option IntKind :=
 match d with
 |.map _ et=>match tt et with
  |some ei=>match ei.desc with
   |.int k=>some k
   |_=>none
  |none=>none
 |_=>none
def IR(k:Option IntKind)(S:St)(K:D->St->Prop):Prop:=match k with
 |some k=>∀y,freshIn y S.objs->K (.map (BJ S.objs) y) (S.new y (.amap k []))
 |none=>False
section
variable {P:Program} {C:Ctx} {F S:St} {w:World} {K X:D->St->Prop} {tt:Nat->Option TI}
theorem TJ(hs:Sat C (S.add F) w){t:Nat}{k:Option IntKind}(h:IR k S K):Good P C F K X ((do pure (Next.value (<- Instr.makeMap t none)):Sem Next).run P w):=by
 unfold IR at h
 split at h
 ·rename_i k
  refine .of_val' (S':=S.new w.heap.size (.amap k [])) (w':=w.alloc (.map #[] 0)) (v:=.map (some w.heap.size)) (by simp[Instr.makeMap]) (.refl C) (hs.alloc_own _ (.amap k []) _ fun _ hw=>⟨#[],0,hw,rfl⟩) (by simp[Rep]) (h _ hs.freshIn)
 ·exact h.elim
theorem U4(hT : TabOk P tt)(hs : Sat C (S.add F) w){t : Nat}{ti : TI}(ht : tt t=some ti)(hd : M6 tt ti.desc=true){x i : D}{ok : Bool}{u v : Value}(hx : Rep C x u)(hi : Rep C i v)(h : Ow (Ik P ti.desc) x i ok S K) :
  Good P C F K X ((do pure (Next.value (<- Instr.lookup t u v ok)):Sem Next).run P w):=by
 obtain ⟨kt,et,ki,ei,hd,hk,hks,he⟩:=M4 hd
 have hu:=Br (P:=P) (w:=w) hT ht
 rw[hd] at hu
 have hkt:P.underlying kt=some .string:=by rw[<- hks];exact (hT _ _ hk).1
 obtain ⟨z,hz,_,_⟩:=C7 (P:=P) (w:=w) hT he
 unfold Ow at h
 split at h
 ·rename_i s
  simp only[Rep] at hi;subst hi
  have hck:∀e,(Instr.checkKey e 10000 kt (.string ⟨s.toArray⟩)).run P w=.ok () w:=fun e=>MapKept.run_checkKey hkt (by simp[MapKept.IsKey]) e 9999
  split at h
  ·rename_i tg b
   simp only[Rep] at hx;subst hx
   split at h
   ·rename_i y k es hg
    split at h
    ·rename_i k' hk'
     obtain ⟨hkk,rfl,h1⟩:=Ba.1 h
     have hkk:k'=k:=of_decide_eq_true hkk
     subst hkk
     rw[hd] at hk'
     have hz0:=TV hk' w
     obtain ⟨_,_,en,cl,e1,e2⟩:=hs.obj_of hg
     have hgo:=MapKept.run_getObj_map (P:=P) e1
     have hsp:=TM s es en.toList 0 e2
     cases hq:Oc es s with
     |none =>
      rw[hq] at hsp h1
      have hf:=MapKept.run_findKey (P:=P) (w:=w) hkt hsp.1
      refine .of_val (v:=.int k' 0) hs ?_ ?_ h1
      ·simp[Instr.lookup,hu,hgo,hck,hf,hz0]
      ·simp[Rep]
     |some n =>
      rw[hq] at hsp h1
      obtain ⟨j,e,q1,_,_,_⟩:=hsp
      have hf:=MapKept.run_findKey (P:=P) (w:=w) hkt q1
      refine .of_val (v:=.int k' n) hs ?_ ?_ h1
      ·simp[Instr.lookup,hu,hgo,hck,hf]
      ·simp[Rep]
    ·exact h.elim
   ·exact h.elim
  ·exact h.elim
 ·rename_i s
  simp only[Rep] at hi;subst hi
  have hck:∀e,(Instr.checkKey e 10000 kt (.string ⟨s.toArray⟩)).run P w=.ok () w:=fun e=>MapKept.run_checkKey hkt (by simp[MapKept.IsKey]) e 9999
  split at h
  ·simp only[Rep] at hx;subst hx
   have hf:=MapKept.run_findKey (P:=P) (w:=w) (l:=[]) hkt (k:=.string ⟨s.toArray⟩) (a:=none) rfl
   refine .of_val (v:=.tuple #[z,.bool false]) hs ?_ ?_ h
   ·simp[Instr.lookup,hu,hck,hf,hz]
   ·simp only[Rep];exact⟨_,rfl,by simp[RepL,Rep]⟩
  ·rename_i tg b
   simp only[Rep] at hx;subst hx
   split at h
   ·rename_i y k es hg
    obtain ⟨rfl,h1,h2⟩:=h
    obtain ⟨_,_,en,cl,e1,e2⟩:=hs.obj_of hg
    have hgo:=MapKept.run_getObj_map (P:=P) e1
    have hsp:=TM s es en.toList 0 e2
    cases hq:Oc es s with
    |none =>
     rw[hq] at hsp
     have hf:=MapKept.run_findKey (P:=P) (w:=w) hkt hsp.1
     refine .of_val (v:=.tuple #[z,.bool false]) hs ?_ ?_ (h2 hq)
     ·simp[Instr.lookup,hu,hgo,hck,hf,hz]
     ·simp only[Rep];exact⟨_,rfl,by simp[RepL,Rep]⟩
    |some n =>
     rw[hq] at hsp
     obtain ⟨j,e,q1,_,_,_⟩:=hsp
     have hf:=MapKept.run_findKey (P:=P) (w:=w) hkt q1
     refine .of_val (v:=.tuple #[.int k n,.bool true]) hs ?_ ?_ (h1 n hq)
     ·simp[Instr.lookup,hu,hgo,hck,hf]
     ·simp only[Rep];exact⟨_,rfl,by simp[RepL,Rep]⟩
   ·exact h.elim
  ·exact h.elim
 ·exact h.elim
theorem Gu(hT : TabOk P tt)(hs : Sat C (S.add F) w){t : Nat}{ti : TI}(ht : tt t=some ti)(hd : M6 tt ti.desc=true){x i d : D}{u v z : Value}(hx : Rep C x u)(hi : Rep C i v)(hz : Rep C d z)(h : EF x i d S K) :
  Good P C F K X ((do Instr.mapUpdate t u v z;pure Next.skip:Sem Next).run P w):=by
 obtain ⟨kt,et,ki,ei,hd,hk,hks,he⟩:=M4 hd
 have hu:=Br (P:=P) (w:=w) hT ht
 rw[hd] at hu
 have hkt:P.underlying kt=some .string:=by rw[<- hks];exact (hT _ _ hk).1
 unfold EF at h
 split at h
 ·rename_i s k1 n
  simp only[Rep] at hi hz;subst hi hz
  have hck:∀e,(Instr.checkKey e 10000 kt (.string ⟨s.toArray⟩)).run P w=.ok () w:=fun e=>MapKept.run_checkKey hkt (by simp[MapKept.IsKey]) e 9999
  split at h
  ·rename_i tg b
   simp only[Rep] at hx;subst hx
   split at h
   ·rename_i y k es hg
    obtain ⟨hkk,rfl,hfin⟩:=Ba.1 h
    have hkk:k1=k:=of_decide_eq_true hkk
    subst hkk
    obtain ⟨_,_,en,cl,e1,e2⟩:=hs.obj_of hg
    have hlt:y<w.heap.size:=(Array.getElem?_eq_some_iff.1 e1).1
    have hgo:=MapKept.run_getObj_map (P:=P) e1
    have hso:=fun o=>MapKept.run_setObj_map (P:=P) o e1
    have hsp:=TM s es en.toList 0 e2
    have fin : ∀(en' : Array MapEntry) (cl' : Nat), RepPairs k1 (Baa es s n) en'.toList -> (Instr.mapUpdate t (.map (some y)) (.string ⟨s.toArray⟩) (.int k1 n)).run P w=.ok () { w with heap:=w.heap.setIfInBounds y (.map en' cl') } ->
      Good P C F K X ((do Instr.mapUpdate t (.map (some y)) (.string ⟨s.toArray⟩) (.int k1 n);pure Next.skip:Sem Next).run P w):=by
     intro en' cl' hr hrun
     refine .of_unit hrun (.refl C) (hs.replace hg (by simp) (fun j hj=>by simp[Ne.symm hj]) rfl rfl rfl ?_) hfin
     exact⟨en',cl',by simp[hlt],hr⟩
    cases hq:Oc es s with
    |none =>
     rw[hq] at hsp
     have hf:=MapKept.run_findKey (P:=P) (w:=w) hkt hsp.1
     refine fin (en.push { key:=.string ⟨s.toArray⟩,val:=.int k1 n,born:=cl }) (cl+1) (by simpa using hsp.2 n cl) ?_
     simp[Instr.mapUpdate,hu,hgo,hck,hf,hso]
    |some n' =>
     rw[hq] at hsp
     obtain ⟨j,e,q1,q2,q3,q4⟩:=hsp
     have hf:=MapKept.run_findKey (P:=P) (w:=w) hkt q1
     have hej:en[j]? =some e:=by simpa using q2
     have hstay:(Instr.keyThatStays (((en[j]?).map (·.key)).getD (.string ⟨s.toArray⟩)) (.string ⟨s.toArray⟩)).run P w=.ok (.string ⟨s.toArray⟩) w:=by
      rw[hej]
      simp only[Option.map_some,Option.getD_some,q3]
      have:Instr.sameBits 10000 (.string ⟨s.toArray⟩) (.string ⟨s.toArray⟩)=true:=by
       simp[Instr.sameBits,(MapKept.bytes_beq _ _).2 rfl]
      simp[Instr.keyThatStays,this]
     refine fin (en.modify j fun e=>{ e with key:=.string ⟨s.toArray⟩,val:=.int k1 n }) cl (by simpa using q4 n) ?_
     simp only[Nat.zero_add] at hf
     simp[Instr.mapUpdate,hu,hgo,hck,hf,hstay,hso]
   ·exact h.elim
  ·exact h.elim
 ·exact h.elim
end
def evO(env:Env):Option Operand->Option D
 |none=>none
 |some x=>some (evD env x)
def EG(env:Env)(ps:List (Nat×Operand)):List (Nat×D):=ps.map fun p=>(p.1,evD env p.2)
def Im(x y:Operand)(a b:D):Bool :=
 match a,b with
 |.nili,.nili=>match x,y with
  |.const _,_=>true
  |_,.const _=>true
  |_,_=>false
 |_,_=>true
def CX:D->Bool
 |.agg _=>false
 |.unk=>false
 |_=>true
def GV(tt:Nat->Option TI)(op:BinOp)(t:Nat)(x y:Operand)(a b:D)(S:St)(K:D->St->Prop):Prop :=
 match a with
 |.int k n=>match b with
  |.int k' m=>Te op k n k' m fun d=>K d S
  |_=>False
 |.str s=>match b with
  |.str r=>OP op s r fun d=>K d S
  |_=>False
 |a=>match tt t with
  |some ti=>match op with
   |.eql=>match eqT ti.desc a b with
    |some r=>chk (Im x y a b&&CX a&&CX b) (K (.bool r) S)
    |none=>False
   |.neq=>match eqT ti.desc a b with
    |some r=>chk (Im x y a b&&CX a&&CX b) (K (.bool !r) S)
    |none=>False
   |_=>False
  |none=>False
def WZ(d:TypeDesc)(a b:D):Option Bool :=
 match d with
 |.int _=>match a,b with
  |.int k n,.int k' m=>match kEq k k' with
   |true=>some (n==m)
   |false=>none
  |_,_=>none
 |.string=>match a,b with
  |.str s,.str r=>some (s==r)
  |_,_=>none
 |.bool=>match a,b with
  |.bool p,.bool q=>some (p==q)
  |_,_=>none
 |_=>none
def CQ(tt:Nat->Option TI)(axs bs:List D):List Field->Option Bool
 | []=>some true
 |f::fs=>match tt f.type with
  | some fi => match decide (f.name ≠ "_") && decide (f.offset + CH fi ≤ axs.length) && decide (f.offset + CH fi ≤ bs.length) with
   |true=>match WZ fi.desc (BU fi axs f.offset) (BU fi bs f.offset) with
    |some x=>match CQ tt axs bs fs with
     |some y=>some (x&&y)
     |none=>none
    |none=>none
   |false=>none
  |none=>none
def R0(tt:Nat->Option TI)(eqs:List Nat)(op:BinOp)(t:Nat)(a b:D):Option Bool :=
 match a with
 |.agg axs=>match b with
  |.agg bs=>match eqs.contains t with
   |true=>match tt t with
    |some ti=>match ti.desc with
     |.struct fs=>match op with
      |.eql=>CQ tt axs bs fs.toList
      |.neq=>match CQ tt axs bs fs.toList with
       |some r=>some (!r)
       |none=>none
      |_=>none
     |_=>none
    |none=>none
   |false=>none
  |_=>none
 |_=>none
def W1(tt:Nat->Option TI)(eqs:List Nat)(op:BinOp)(t:Nat)(x y:Operand)(a b:D)(S:St)(K:D->St->Prop):Prop :=
 match R0 tt eqs op t a b with
 |some r=>K (.bool r) S
 |none=>GV tt op t x y a b S K
def Oe(tt:Nat->Option TI)(op:BinOp)(t:Nat)(a b:D):Option (Nat×Bool) :=
 match a,b with
 |.sl _ n _ m,.sl _ 0 _ .nil=>match m with
  |.nil=>none
  |.full=>none
  |_=>match tt t with
   |some ti=>match ti.desc with
    |.slice _=>match op with
     |.eql=>some (n,true)
     |.neq=>some (n,false)
     |_=>none
    |_=>none
   |none=>none
 |_,_=>none
def U5(n:Nat)(pos:Bool)(S:St)(K:D->St->Prop):Prop :=
 match pos with
 |true=>∀r:Bool,(r=true->n=0)->K (.bool r) S
 |false=>∀r:Bool,(r=true->n=0)->K (.bool !r) S
def G6:D->Bool
 |.int .i64 0=>true
 |_=>false
def Gy(size:Nat)(x:D)(lo hi:Option D)(mx:D)(S:St)(K:D->St->Prop):Prop :=
 match x,lo,hi with
 |.sl w _ _ _,some l,some h=>chk (decide (w=size)&&G6 l&&G6 h&&G6 mx) (∀t,K (.sl w 0 (fun _=>[]) (.tok (Bi S.toks) t)) ⟨S.objs,(Bi S.toks,t)::S.toks⟩)
 |.sl w _ _ _,none,some h=>chk (decide (w=size)&&G6 h&&G6 mx) (∀t,K (.sl w 0 (fun _=>[]) (.tok (Bi S.toks) t)) ⟨S.objs,(Bi S.toks,t)::S.toks⟩)
 |_,_,_=>False
def WH:TypeDesc->Option Nat
 |.slice e=>some e
 |_=>none
theorem Mc{d:TypeDesc}{e:Nat}(h:WH d=some e):d=.slice e:=by
 cases d<;>simp_all[WH]
def Gs(size:Nat)(x:D)(lo hi:Option D)(mx:D)(S:St)(K:D->St->Prop):Prop :=
 match x,lo,hi,mx with
 |.sl w n f _,none,some (.int .i64 h),.int .i64 k=>chk (decide (w=size)) (h=n/\k=n/\∀t,K (.sl w n f (.tok (Bi S.toks) t)) ⟨S.objs,(Bi S.toks,t)::S.toks⟩)
 |.sl w n f m,some (.int .i64 l),some (.int .i64 h),.int .i64 k=>chk (decide (w=size)) (0<=l/\l<=h/\h<=n/\k=h/\K (.sl w (h.toNat-l.toNat) (fun i=>f (l.toNat+i)) (RM m)) S)
 |_,_,_,_=>False
def Bdw:Operand->Bool
 |.const _=>true
 |_=>false
def UN(c:Bool)(size:Nat)(x:D)(lo hi:Option D)(mx:D)(S:St)(K:D->St->Prop):Prop :=
 match c with
 |true=>Gy size x lo hi mx S K
 |false=>Gs size x lo hi mx S K
def UO(c:Bool)(tt:Nat->Option TI)(t:Nat)(x:D)(lo hi:Option D)(mx:D)(S:St)(K:D->St->Prop):Prop :=
 match tt t with
 |some ti=>match WH ti.desc with
  |some e=>match tt e with
   |some ei=>UN c ei.size x lo hi mx S K
   |none=>False
  |none=>False
 |none=>False
def Bc6(op:UnOp)(a:D)(S:St)(K:D->St->Prop):Prop :=
 match op,a with
 |.not,.bool b=>K (.bool !b) S
 |.neg,.int k n=>K (.int k (k.wrap (0-n))) S
 |.xor,.int k n=>K (.int k (Ben k n)) S
 |_,_=>False
def BdS(con:Nat->List D->St->Option FnSpec)(inl:Nat->List D->St->(AEnd->St->Prop)->Prop)(f:D)(args:List D)(S:St)(K X:D->St->Prop):Prop :=
 match f with
 |.fn (.func k) first cap=>match con k (first++args++cap) S with
  |some A=>match A.all with
   |true=>∃x,A.pre x/\∀y,A.post x y->match A.res x y with
    |.ret d=>K d (A.out x y)
    |.pan d=>X d (A.out x y)
   |false=>match A.fit with
    |some x=>A.pre x/\∀y,A.post x y->match A.res x y with
     |.ret d=>K d ((A.out x y).add (S.less (A.st x)))
     |.pan d=>X d ((A.out x y).add (S.less (A.st x)))
    |none=>∃x,Bo (first++args++cap) (A.args x)/\leS (A.st x) S/\A.pre x/\∀y,A.post x y->match A.res x y with
     |.ret d=>K d ((A.out x y).add (S.less (A.st x)))
     |.pan d=>X d ((A.out x y).add (S.less (A.st x)))
  |none=>inl k (first++args++cap) S fun r S'=>match r with
   |.ret d=>K d S'
   |.pan d=>X d S'
 |_=>False
def BdI:TypeDesc->Bool
 |.string=>true
 |.slice _=>true
 |_=>false
def O0(own:Bool)(e wd bytes:Nat)(x y:D)(S:St)(K:D->St->Prop):Prop :=
 match own with
 |true=>match x with
  |.sl _ _ _ .nil=>Gz wd bytes y S K
  |.sl _ 0 _ .full=>Gt wd bytes y S K
  |.sl _ _ _ (.tok _ _)=>IH e wd bytes x y S K
  |x=>GL wd bytes x y S K
 |false=>GL wd bytes x y S K
def Ek(tt:Nat->Option TI)(own:Nat->Bool)(b:Builtin)(ts:List Nat)(ds:List D)(S:St)(K X:D->St->Prop):Prop :=
 match b with
 |.len=>match ts,ds with
  | [t],[x]=>match tt t with
   |some ti=>chk (TO ti.desc x) (RR x S K)
   |none=>False
  |_,_=>False
 |.append=>match ts,ds with
  | [t,u],[x,y]=>match tt t,tt u with
   |some ti,some ui=>match ti.desc with
    |.slice e=>match tt e with
     |some ei=>chk (BdI ui.desc) (O0 (own t) e ei.size ei.bytes x y S K)
     |none=>False
    |_=>False
   |_,_=>False
  |_,_=>False
 |.copy=>match ts,ds with
  | [t,_],[x,y]=>match tt t with
   |some ti=>match ti.desc with
    |.slice e=>match tt e with
     |some ei=>Wy ei.size x y S K
     |none=>False
    |_=>False
   |none=>False
  |_,_=>False
 |.min=>match BdZ ds with
  |some d=>K d S
  |none=>False
 |.max=>match Bd7 ds with
  |some d=>K d S
  |none=>False
 |.panic=>match ds with
  | [.iface t d]=>X (.iface t d) S
  |_=>False
 |_=>False
def C9(E:Senv)(o:Op)(env:Env)(S:St)(K X:D->St->Prop):Prop :=
 match o with
 |.move x=>K (evD env x) S
 |.assign x=>K (evD env x) S
 |.pick c a b=>match evD env c with
  |.bool t=>match evD env a,evD env b with
   |.bool p,.bool q=>K (.bool (bif t then p else q)) S
   |da,db=>ifB t (K da S) (K db S)
  |_=>False
 |.alloc e=>match E.tt e with
  |some ei=>match E.bd e with
   |some el=>Tx e el ei.zero S K
   |none=>R3 ei.zero S K
  |none=>False
 |.box _ x=>chk (Cy (evD env x)) (R3 (B3 (evD env x)) S K)
 |.build t ps=>match E.tt t with
  |some ti=>Mn E.tt ti (EG env ps.toList) S K
  |none=>False
 |.buildSlice t len ps=>match E.tt t with
  |some ti=>match ti.desc with
   |.slice e=>match E.tt e with
    |some ei=>match E.lit t with
     |true=>Oo ei len (EG env ps.toList) S K
     |false=>It ei len (EG env ps.toList) S K
    |none=>False
   |_=>False
  |none=>False
 |.load t a=>match E.tt t with
  |some ti=>TG ti (evD env a) S K
  |none=>False
 |.store t a x=>match E.tt t with
  |some ti=>Tp ti (evD env a) (evD env x) S K
  |none=>False
 |.nilCheck x=>match evD env x with
  |.ref k b o=>K (.ref k b o) S
  |.er k b i w o=>K (.er k b i w o) S
  |.pt r=>K (.pt r) S
  |.fn (.func k) a c=>K (.fn (.func k) a c) S
  |_=>False
 |.binOp op t x y _=>match Oe E.tt op t (evD env x) (evD env y) with
  |some (n,pos)=>U5 n pos S K
  |none=>W1 E.tt E.eqs op t x y (evD env x) (evD env y) S K
 |.unOp op _ x=>Bc6 op (evD env x) S K
 |.convert s d x=>match E.tt s,E.tt d with
  |some si,some di=>match Ms s d (evD env x) with
   |true=>IY E.tt si.desc (evD env x) S K
   |false=>Eo E.tt si.desc di.desc (evD env x) S K
  |_,_=>False
 |.makeInterface t x=>match E.tt t with
  |some ti=>chk (!C5 ti.desc) (K (.iface t (evD env x)) S)
  |none=>False
 |.makeFunc f a c=>K (.fn f (a.toList.map (evD env)) (c.toList.map (evD env))) S
 |.makeSlice t l c=>match E.tt t with
  |some ti=>match ti.desc with
   |.slice e=>match E.tt e with
    |some ei=>Gp ei (evD env l) (evD env c) S K
    |none=>False
   |_=>False
  |none=>False
 |.slice t x lo hi mx=>match mx with
  |none=>match E.tt t with
   |some ti=>match ti.desc with
    |.string=>E3 (evD env x) (evO env lo) (evO env hi) S K
    |.slice e=>match E.tt e with
     |some ei=>GN ei.size (evD env x) (evO env lo) (evO env hi) S K
     |none=>False
    |.array n e=>match E.tt e with
     |some ei=>Gd n ei.size (evD env x) (evO env lo) (evO env hi) S K
     |none=>False
    |_=>False
   |none=>False
  |some m=>UO (Bdw m) E.tt t (evD env x) (evO env lo) (evO env hi) (evD env m) S K
 |.fieldAddr t x f=>match E.tt t with
  |some ti=>match Ed ti.desc f with
   |some fd=>match E.tt fd.type with
    |some fi=>chk (decide (fi.size≠0)) (EH fd.offset (evD env x) S K)
    |none=>False
   |none=>False
  |none=>False
 |.field t x f=>match E.tt t with
  |some ti=>match Ed ti.desc f with
   |some fd=>match E.tt fd.type with
    |some fi=>Mh fd.offset fi (evD env x) S K
    |none=>False
   |none=>False
  |none=>False
 |.indexAddr t x i=>match E.tt t with
  |some ti=>match ti.desc with
   |.slice e=>match E.tt e with
    |some ei=>EL ei.size (evD env x) (evD env i) S K
    |none=>False
   |.array n e=>match E.tt e with
    |some ei=>E4 n ei.size (evD env x) (evD env i) S K
    |none=>False
   |_=>False
  |none=>False
 |.index t x i=>match E.tt t with
  |some ti=>match ti.desc with
   |.string=>Gf (evD env x) (evD env i) S K
   |.array n e=>match E.tt e with
    |some ei=>Ga n ei (evD env x) (evD env i) S K
    |none=>False
   |_=>False
  |none=>False
 |.range t x=>match E.tt t with
  |some ti=>match ti.desc with
   |.string=>match evD env x with
    |.str s=>∀y,freshIn y S.objs->K (.ref (BJ S.objs) y 0) (S.new y (.sit s 0))
    |_=>False
   |_=>False
  |none=>False
 |.makeMap t r=>match r with
  |none=>match E.tt t with
   |some ti=>IR (BcS E.tt ti.desc) S K
   |none=>False
  |some _=>False
 |.lookup t x i ok=>match E.tt t with
  |some ti=>chk (M6 E.tt ti.desc) (Ow (Ik E.P ti.desc) (evD env x) (evD env i) ok S K)
  |none=>False
 |.mapUpdate t m i x=>match E.tt t with
  |some ti=>chk (M6 E.tt ti.desc) (EF (evD env m) (evD env i) (evD env x) S K)
  |none=>False
 |.insert t m i x=>match E.tt t with
  |some ti=>chk (M6 E.tt ti.desc) (EF (evD env m) (evD env i) (evD env x) S K)
  |none=>False
 |.next it isS=>match isS with
  |true=>W7 (evD env it) S K
  |false=>False
 |.typeAssert x _ t ok=>match E.tt t with
  |some ti=>chk (!C5 ti.desc) (MC t ok (evD env x) S K)
  |none=>False
 |.extract x i=>GQ i (evD env x) S K
 |.panic x=>match evD env x with
  |.iface t d=>X (.iface t d) S
  |_=>False
 |.call c=>match c.callee with
  |.value f=>BdS E.con E.inl (evD env f) (c.args.toList.map (evD env)) S K X
  |.builtin b=>Ek E.tt E.own b c.argTypes.toList (c.args.toList.map (evD env)) S K X
  |.invoke _ _=>False
 |_=>False
section
variable {C:Ctx} {F S:St} {w:World} {K X:D->St->Prop} {env:Env} {a:Act}
theorem GC(he:RepEnv C env a.tmps):∀(xs:List Operand),RepL C (xs.map (evD env)) (xs.map a.eval)
 | []=>by simp[RepL]
 |x::xs=>by simp only[List.map_cons,RepL];exact⟨_,_,rfl,GD he x,GC he xs⟩
theorem EB(he:RepEnv C env a.tmps):∀(ps:List (Nat×Operand)),RepParts C (EG env ps) (ps.map fun p=>(p.1,a.eval p.2))
 | []=>rfl
 |p::ps=>by simp only[EG,List.map_cons,RepParts];exact⟨_,_,rfl,GD he p.2,EB he ps⟩
theorem CZ(he:RepEnv C env a.tmps):∀(x:Option Operand),RepO C (evO env x) (x.map a.eval)
 |none=>trivial
 |some x=>GD he x
theorem W0{d:D}{v:Value}(h:CX d=true)(hr:Rep C d v):∀vs,v≠.agg vs:=by
 intro vs hv;subst hv
 cases d<;>simp_all[CX,Rep]
theorem O7{P : Program}{op : BinOp}{t : Nat}{x y : Operand}{da db : D}(h : Im x y da db = true)(h1 : CX da = true)(h2 : CX db = true){u v : Value}(hu : Rep C da u)(hv : Rep C db v) :
    (eqGuard op t x y u v).run P w = .ok () w := by
  unfold eqGuard
  (repeat' split) <;> first
    | rfl
    | exact (W0 h1 hu _ rfl).elim
    | (have e1 : da = .nili := by cases da <;> simp_all [Rep, CX]
       have e2:db = .nili := by cases db <;> simp_all [Rep,CX]
       subst e1 e2
       simp_all [Im])
end
section
variable {E:Senv} {C:Ctx} {F S:St} {w:World} {K X:D->St->Prop} {env:Env} {a:Act}
theorem Bb1(hT : TabOk E.P E.tt)(hs : Sat C (S.add F) w){op : BinOp}{t : Nat}{x y : Operand}{da db : D}{u v : Value}(hu : Rep C da u)(hv : Rep C db v)(h : GV E.tt op t x y da db S K) :
  Good E.P C F K X ((do pure (Next.value (<- (do eqGuard op t x y u v;binOp op t u v))):Sem Next).run E.P w):=by
 have gd:∀ {r:Value} (_:(eqGuard op t x y u v).run E.P w=.ok () w) (_:(binOp op t u v).run E.P w=.ok r w),((do eqGuard op t x y u v;binOp op t u v):Sem Value).run E.P w=.ok r w:=by
  intro r h1 h2;simp[h1,h2]
 have plain:(∀n:Unit,u≠.nilIface)->(∀cs,u≠.agg cs)->(eqGuard op t x y u v).run E.P w=.ok () w:=by
  intro h1 h2
  unfold eqGuard
  (repeat' split)<;>first | rfl | exact (h1 () rfl).elim | exact (h2 _ rfl).elim
 unfold GV at h
 split at h
 ·split at h
  ·simp only[Rep] at hu hv;subst hu hv
   obtain ⟨d,r,h1,h2,h3⟩:=Bax (P:=E.P) (w:=w) (t:=t) h
   exact .of_val hs (gd (plain (by simp) (by simp)) h1) (h3 C) h2
  ·exact h.elim
 ·split at h
  ·simp only[Rep] at hu hv;subst hu hv
   obtain ⟨d,r,h1,h2,h3⟩:=Bar (P:=E.P) (w:=w) (t:=t) h
   exact .of_val hs (gd (plain (by simp) (by simp)) h1) (h3 C) h2
  ·exact h.elim
 ·rename_i hni hns
  split at h
  ·rename_i ti ht
   have hd:=(hT _ _ ht).1
   have shape:∀ {r:Bool},eqT ti.desc da db=some r->CX da=true->CX db=true->(∀k n,u≠.int k n)/\(∀s,u≠.string s)/\(∀k n,u≠.float k n)/\(∀k n m,u≠.complex k n m):=by
    intro r hr h1 _
    refine⟨?_,?_,?_,?_⟩<;>(intros;intro e;subst e;cases da<;>simp_all[Rep,CX,eqT]<;>(split at hr<;>simp_all[EJ,MQ,MJ,UZ,UC,UA]))
   split at h
   ·split at h
    ·rename_i r hr
     obtain ⟨hck,hk⟩:=Ba.1 h
     simp only[Bool.and_eq_true] at hck
     obtain ⟨⟨g,n1⟩,n2⟩:=hck
     obtain ⟨s1,s2,s3,s4⟩:=shape hr n1 n2
     refine .of_val (v:=.bool r) hs (gd (O7 g n1 n2 hu hv) ?_) (by simp[Rep]) hk
     have:=RY (P:=E.P) (w:=w) hd hr hu hv
     cases u<;>simp_all[binOp]
    ·exact h.elim
   ·split at h
    ·rename_i r hr
     obtain ⟨hck,hk⟩:=Ba.1 h
     simp only[Bool.and_eq_true] at hck
     obtain ⟨⟨g,n1⟩,n2⟩:=hck
     obtain ⟨s1,s2,s3,s4⟩:=shape hr n1 n2
     refine .of_val (v:=.bool !r) hs (gd (O7 g n1 n2 hu hv) ?_) (by simp[Rep]) hk
     have:=RY (P:=E.P) (w:=w) hd hr hu hv
     cases u<;>simp_all[binOp]
    ·exact h.elim
   ·exact h.elim
  ·exact h.elim
theorem UY(n:Nat){P:Program}{w:World}{t e:TypeId}(hut:P.underlying t=some (.slice e))(a:Option Addr)(len cap:Nat):(Op.equalIn (n+1) t (.slice a len cap) (.slice none 0 0)).run P w=.ok a.isNone w:=by
 cases a<;>simp[Op.equalIn,run_underlying hut]
theorem Bad{P:Program}{w:World}{t e:TypeId}(hut:P.underlying t=some (.slice e))(a:Option Addr)(len cap:Nat):(Op.equal t (.slice a len cap) (.slice none 0 0)).run P w=.ok a.isNone w:=UY 9999 hut a len cap
theorem Bbo(hT : TabOk E.P E.tt)(hs : Sat C (S.add F) w){op : BinOp}{t : Nat}{x y : Operand}{da db : D}{u v : Value}(hu : Rep C da u)(hv : Rep C db v){n : Nat}{pos : Bool}(hq : Oe E.tt op t da db=some (n, pos))(h : U5 n pos S K) :
  Good E.P C F K X ((do pure (Next.value (<- (do eqGuard op t x y u v;binOp op t u v))):Sem Next).run E.P w):=by
 unfold Oe at hq
 split at hq
 ·rename_i wd n' f m wd' f'
  simp only[Rep] at hu hv
  obtain ⟨a,len,cap,rfl,hh,_⟩:=hu
  obtain ⟨a',len',cap',rfl,hh',_⟩:=hv
  obtain ⟨e1,e2,e3⟩:=hh'.nil_a
  subst e1 e2 e3
  have hg:(eqGuard op t x y (.slice a len cap) (.slice none 0 0)).run E.P w=.ok () w:=by
   unfold eqGuard
   (repeat' split)<;>first | rfl | (rename_i h;cases h) | simp_all
  have key:∀(hn:n'=n),(a.isNone=true->n=0):=by
   intro hn ha
   cases a with
   |none=>exact hn ▸ (hh.2.2.2.1 rfl).1
   |some _=>cases ha
  split at hq
  ·cases hq
  ·cases hq
  ·split at hq
   ·rename_i ti ht
    split at hq
    ·rename_i e hd
     have hut:E.P.underlying t=some (.slice e):=by rw[<- hd];exact (hT _ _ ht).1
     have hrun:(Op.equal t (.slice a len cap) (.slice none 0 0)).run E.P w=.ok a.isNone w:=by
      exact Bad hut a len cap
     split at hq
     ·simp only[Option.some.injEq,Prod.mk.injEq] at hq
      obtain ⟨hn,rfl⟩:=hq
      refine .of_val (v:=.bool a.isNone) hs ?_ (by simp[Rep]) (h a.isNone (key hn))
      simp[hg,binOp,hrun]
     ·simp only[Option.some.injEq,Prod.mk.injEq] at hq
      obtain ⟨hn,rfl⟩:=hq
      refine .of_val (v:=.bool !a.isNone) hs ?_ (by simp[Rep]) (h a.isNone (key hn))
      simp[hg,binOp,hrun]
     ·cases hq
    ·cases hq
   ·cases hq
 ·cases hq
theorem Wq{P : Program}{w : World}{t : Nat}{d : TypeDesc}(hd : P.underlying t=some d){C : Ctx}{da db : D}{r : Bool}(h : WZ d da db=some r){u v : Value}(hu : Rep C da u)(hv : Rep C db v)(n : Nat) :
  (Op.equalIn (n+1) t u v).run P w=.ok r w:=by
 unfold WZ at h
 split at h
 ·rename_i k0
  split at h
  ·rename_i k n' k' m
   split at h
   ·rename_i hk
    have hk:k=k':=of_decide_eq_true hk
    subst hk
    injection h with h;subst h
    simp only[Rep] at hu hv;subst hu hv
    exact run_equalIn_int w n t k k0 n' m hd
   ·cases h
  ·cases h
 ·split at h
  ·injection h with h;subst h
   simp only[Rep] at hu hv;subst hu hv
   rw[run_equalIn_string w n t _ _ hd]
   simp[ByteArray.toList_mk]
  ·cases h
 ·split at h
  ·injection h with h;subst h
   simp only[Rep] at hu hv;subst hu hv
   exact run_equalIn_bool' w n t _ _ hd
  ·cases h
 ·cases h
theorem In(hT:TabOk E.P E.tt){axs bs:List D}{xs ys:Array Value}(hx:RepL C axs xs.toList)(hy:RepL C bs ys.toList)(n:Nat):∀(fs:List Field) (r:Bool),CQ E.tt axs bs fs=some r->(Op.eqFields (n+1) xs ys fs).run E.P w=.ok r w
 | [],r,h=>by simp only[CQ,Option.some.injEq] at h;subst h;simp[Op.eqFields]
 |f::fs,r,h=>by
  simp only[CQ] at h
  split at h
  ·rename_i fi hf
   split at h
   ·rename_i hc
    simp only[Bool.and_eq_true,decide_eq_true_eq] at hc
    obtain ⟨⟨hn,h1⟩,h2⟩:=hc
    split at h
    ·rename_i x hxc
     split at h
     ·rename_i y hyc
      injection h with h;subst h
      obtain ⟨u,p1,p2⟩:=Iv (P:=E.P) (w:=w) hT hf hx h1
      obtain ⟨v,q1,q2⟩:=Iv (P:=E.P) (w:=w) hT hf hy h2
      have he:=Wq (P:=E.P) (w:=w) (hT _ _ hf).1 hxc p2 q2 n
      have ih:=In hT hx hy n fs y hyc
      simp only[Op.eqFields,if_pos hn,Sem.run_bind,p1,q1,he,Result.andThen_ok,Sem.run_ite]
      cases x<;>simp[ih]
     ·cases h
    ·cases h
   ·cases h
  ·cases h
theorem Bco(hT : TabOk E.P E.tt)(hQ : ∀t, E.eqs.contains t=true -> E.P.eqGuardType E.P.depth t=false /\ E.P.stoodInHeld t=false)(hs : Sat C (S.add F) w){op : BinOp}{t : Nat}{x y : Operand}{da db : D}{u v : Value}(hu : Rep C da u)(hv : Rep C db v){r : Bool}(hq : R0 E.tt E.eqs op t da db=some r)(h : K (.bool r) S) :
  Good E.P C F K X ((do pure (Next.value (<- (do eqGuard op t x y u v;binOp op t u v))):Sem Next).run E.P w):=by
 unfold R0 at hq
 split at hq
 ·rename_i axs
  split at hq
  ·rename_i bs
   split at hq
   ·rename_i hc
    split at hq
    ·rename_i ti ht
     split at hq
     ·rename_i fs hd
      obtain ⟨g1,g2⟩:=hQ t hc
      simp only[Rep] at hu hv
      obtain ⟨xs,rfl,hx⟩:=hu
      obtain ⟨ys,rfl,hy⟩:=hv
      have hut:E.P.underlying t=some (.struct fs):=by rw[<- hd];exact (hT _ _ ht).1
      have hfs:E.P.fieldsOf t=fs:=by simp[Program.fieldsOf,hut]
      have hut':E.P.underlying t=some (.struct (E.P.fieldsOf t)):=by rw[hfs];exact hut
      have key:∀q,CQ E.tt axs bs fs.toList=some q->(Op.equal t (.agg xs) (.agg ys)).run E.P w=.ok q w:=by
       intro q hq
       show (Op.equalIn (9999+1) t (.agg xs) (.agg ys)).run E.P w=_
       rw[run_equalIn_struct w 9999 t xs ys hut' g2,hfs]
       exact In hT hx hy 9998 fs.toList q hq
      split at hq
      ·refine .of_val (v:=.bool r) hs ?_ (by simp[Rep]) h
       simp[run_eqGuard_agg w .eql t x y xs ys g1,binOp,key r hq]
      ·split at hq
       ·rename_i q hq'
        injection hq with hq;subst hq
        refine .of_val (v:=.bool !q) hs ?_ (by simp[Rep]) h
        simp[run_eqGuard_agg w .neq t x y xs ys g1,binOp,key q hq']
       ·cases hq
      ·cases hq
     ·cases hq
    ·cases hq
   ·cases hq
  ·cases hq
 ·cases hq
theorem Baj(hT : TabOk E.P E.tt)(hs : Sat C (S.add F) w){t e : Nat}{ti ei : TI}(ht : E.tt t=some ti)(hd : ti.desc=.slice e)(he : E.tt e=some ei)
  {x:D} {v:Value} (hx:Rep C x v) {lo hi:Option D} {vl vh:Option Value} {mx:D} {vm:Value} (h1:RepO C lo vl) (h2:RepO C hi vh) (h3:Rep C mx vm) (h:Gy ei.size x lo hi mx S K) :
  Good E.P C F K X ((do pure (Next.value (<- Instr.sliceAt t v vl vh (some vm))):Sem Next).run E.P w):=by
 have hu:=Br (P:=E.P) (w:=w) hT ht
 rw[hd] at hu
 have zero:∀ {d:D} {z:Value},G6 d=true->Rep C d z->z=.int .i64 0:=by
  intro d z hz hr
  unfold G6 at hz
  split at hz
  ·simpa[Rep] using hr
  ·cases hz
 have fin : ∀ {wd n : Nat} {f : Nat -> List D} {m : Mode} {vl vh : Option Value}, (vl=none \/ vl=some (.int .i64 0)) -> vh=some (.int .i64 0) -> vm=.int .i64 0 -> Rep C (.sl wd n f m) v ->
   (∀t,K (.sl wd 0 (fun _=>[]) (.tok (Bi S.toks) t)) ⟨S.objs,(Bi S.toks,t)::S.toks⟩) ->
   Good E.P C F K X ((do pure (Next.value (<- Instr.sliceAt t v vl vh (some vm))):Sem Next).run E.P w):=by
  intro wd n f m vl vh e1 e2 e3 hx hk
  subst e2 e3
  simp only[Rep] at hx
  obtain ⟨a,len,cap,rfl,hh,_⟩:=hx
  obtain ⟨tk,htk,htm,hte⟩:=hs.tok_free
  refine .of_val' (v:=.slice a 0 0) (w':=w) (C':=C.tokd tk .no) (S':=⟨S.objs,(Bi S.toks,tk)::S.toks⟩) ?_ (Ctx.tokd_le htk) (Sat.cons_frame (hs.tok_no _ htk htm)) ?_ (hk tk)
  ·rcases e1 with rfl | rfl<;>simp[Instr.sliceAt,Instr.slice,hu,Instr.sliceBounds,Instr.sliceBound,asIntOf,Bf hT he]
  ·simp only[Rep]
   exact⟨a,0,0,rfl,⟨rfl,Nat.le_refl _,by simp[maxLen],fun _=>⟨rfl,rfl⟩,fun _ _ h0=>absurd h0 (by omega),by simp[Ctx.tokd,hte]⟩,fun _ _ i hi=>by omega⟩
 unfold Gy at h
 split at h
 ·obtain ⟨hc,hk⟩:=Ba.1 h
  simp only[Bool.and_eq_true] at hc
  cases vl with
  |none=>exact h1.elim
  |some vl =>
   cases vh with
   |none=>exact h2.elim
   |some vh=>exact fin (.inr (by rw[zero hc.1.1.2 h1])) (by rw[zero hc.1.2 h2]) (zero hc.2 h3) hx hk
 ·obtain ⟨hc,hk⟩:=Ba.1 h
  simp only[Bool.and_eq_true] at hc
  cases vl with
  |some _=>exact h1.elim
  |none =>
   cases vh with
   |none=>exact h2.elim
   |some vh=>exact fin (.inl rfl) (by rw[zero hc.1.2 h2]) (zero hc.2 h3) hx hk
 ·exact h.elim
theorem BaD(hT : TabOk E.P E.tt)(hs : Sat C (S.add F) w){t e : Nat}{ti ei : TI}(ht : E.tt t=some ti)(hd : ti.desc=.slice e)(he : E.tt e=some ei)
  {x:D} {v:Value} (hx:Rep C x v) {lo hi:Option D} {vl vh:Option Value} {mx:D} {vm:Value} (h1:RepO C lo vl) (h2:RepO C hi vh) (h3:Rep C mx vm) (h:Gs ei.size x lo hi mx S K) :
  Good E.P C F K X ((do pure (Next.value (<- Instr.sliceAt t v vl vh (some vm))):Sem Next).run E.P w):=by
 have hu:=Br (P:=E.P) (w:=w) hT ht
 rw[hd] at hu
 unfold Gs at h
 split at h
 ·rename_i wd n f m h0 k0
  obtain ⟨_,h⟩:=Ba.1 h
  obtain ⟨rfl,rfl,hk⟩:=h
  cases vl with
  |some _=>exact h1.elim
  |none =>
  cases vh with
  |none=>exact h2.elim
  |some vh =>
  have e2:vh=.int .i64 n:=by simpa[RepO,Rep] using h2
  have e3:vm=.int .i64 n:=by simpa[Rep] using h3
  subst e2 e3
  simp only[Rep] at hx
  obtain ⟨a,len,cap,rfl,hh,hrep⟩:=hx
  obtain ⟨tk,htk,htm,hte⟩:=hs.tok_free
  have hl:len=n:=hh.1
  subst hl
  have hlc:=hh.2.1
  have hadd:∀b,a=some b->b.add 0=b\/len=0:=by
   intro b hb
   by_cases hz:len=0
   ·exact .inr hz
   ·have hsp:=hh.2.2.2.2.1 b hb (by omega)
    obtain ⟨b,o,sp⟩:=b
    simp only at hsp
    subst hsp
    exact .inl (by rw[Addr.add_mk];rfl)
  refine .of_val' (v:=.slice a len len) (w':=w) (C':=C.tokd tk .no) (S':=⟨S.objs,(Bi S.toks,tk)::S.toks⟩) ?_ (Ctx.tokd_le htk) (Sat.cons_frame (hs.tok_no _ htk htm)) ?_ (hk tk)
  ·have ha:(if len=0 then a else a.map (·.add 0))=a:=by
    split
    ·rfl
    ·rename_i hz
     cases a with
     |none=>rfl
     |some b=>simp[(hadd b rfl).resolve_right hz]
   simp[Instr.sliceAt,Instr.slice,hu,Instr.sliceBounds,Instr.sliceBound,asIntOf,Bf hT he,hlc]
   intro hz
   rwa [if_neg hz] at ha
  ·simp only[Rep]
   refine⟨a,len,len,rfl,⟨rfl,Nat.le_refl _,by have:=hh.2.2.1;omega,fun ha=>⟨(hh.2.2.2.1 ha).1,(hh.2.2.2.1 ha).1⟩,fun b hb h0=>hh.2.2.2.2.1 b hb (by omega),by simp[Ctx.tokd,hte]⟩,fun b hb i hi=>?_⟩
   obtain ⟨q1,q2⟩:=hrep b hb i hi
   exact⟨q1,RepCells.mono (Ctx.tokd_le htk (x:=.no)) _ _ _ q2⟩
 ·rename_i wd n f m l r k
  obtain ⟨hwd,b1,b2,b3,rfl,hk⟩:=Ba.1 h
  have hwd:wd=ei.size:=of_decide_eq_true hwd
  subst hwd
  cases vl with
  |none=>exact h1.elim
  |some vl =>
  cases vh with
  |none=>exact h2.elim
  |some vh =>
  have e1:vl=.int .i64 l:=by simpa[RepO,Rep] using h1
  have e2:vh=.int .i64 k:=by simpa[RepO,Rep] using h2
  have e3:vm=.int .i64 k:=by simpa[Rep] using h3
  subst e1 e2 e3
  simp only[Rep] at hx
  obtain ⟨a,len,cap,rfl,hh,hrep⟩:=hx
  have hl:len=n:=hh.1
  subst hl
  have hcap:=hh.2.1
  refine .of_val (v:=.slice (if k.toNat=l.toNat then a else a.map (·.add (l.toNat*ei.size))) (k.toNat-l.toNat) (k.toNat-l.toNat)) hs ?_ ?_ hk
  ·have q1:((k.toNat:Nat):Int)=k:=Int.toNat_of_nonneg (by omega)
   have q2:((l.toNat:Nat):Int)=l:=Int.toNat_of_nonneg b1
   simp[Instr.sliceAt,Instr.slice,hu,Instr.sliceBounds,Instr.sliceBound,asIntOf,Bf hT he]
   rw[if_pos ⟨by omega,by omega⟩,if_pos ⟨by omega,by omega⟩,if_pos ⟨by omega,by omega⟩]
  ·simp only[Rep]
   refine⟨_,_,_,rfl,⟨rfl,by omega,by have:=hh.2.2.1;omega,?_,?_,(by cases m<;>first | trivial | (have h6:a=none:=hh.2.2.2.2.2;subst h6;simp[RM]))⟩,?_⟩
   ·intro hn
    have:a=none:=by
     split at hn
     ·exact hn
     ·cases a<;>simp_all
    have:=hh.2.2.2.1 this
    omega
   ·intro y hy h0
    rw[if_neg (by omega)] at hy
    cases a with
    |none=>simp at hy
    |some a =>
     have hsp:=hh.2.2.2.2.1 a rfl (by omega)
     obtain ⟨b,o,sp⟩:=a
     simp only at hsp;subst hsp
     simp[Addr.add_mk] at hy;rw[<- hy]
   ·intro y hy i hi
    rw[if_neg (by omega)] at hy
    cases a with
    |none=>simp at hy
    |some a =>
     have hsp:=hh.2.2.2.2.1 a rfl (by omega)
     obtain ⟨b,o,sp⟩:=a
     simp only at hsp;subst hsp
     simp[Addr.add_mk] at hy;rw[<- hy]
     have:=hrep _ rfl (l.toNat+i) (by omega)
     refine⟨this.1,?_⟩
     have e:o+l.toNat*ei.size+i*ei.size=o+(l.toNat+i)*ei.size:=by rw[Nat.add_mul];omega
     show RepCells C b (o+l.toNat*ei.size+i*ei.size) (f (l.toNat+i))
     rw[e];exact this.2
 ·exact h.elim
theorem Bdh(hs:Sat C (S.add F) w){op:UnOp}{d:D}{u:Value}(hu:Rep C d u)(h:Bc6 op d S K):Good E.P C F K X ((do pure (Next.value (<- Op.unary op u)):Sem Next).run E.P w):=by
 unfold Bc6 at h
 split at h
 ·rename_i b
  simp only[Rep] at hu;subst hu
  exact .of_val (v:=.bool !b) hs (by simp[Op.unary]) (by simp[Rep]) h
 ·rename_i k n
  simp only[Rep] at hu;subst hu
  exact .of_val (v:=.int k (k.wrap (0-n))) hs (by simp[Op.unary,Op.intArith]) (by simp[Rep]) h
 ·simp only[Rep] at hu;subst hu
  exact .of_val hs (by simp[Op.unary,Op.intBits];rfl) (by simp[Rep,Ben]) h
 ·exact h.elim
structure EnvOk (E:Senv):Prop where
 tab:TabOk E.P E.tt
 con:ConOk E.P E.con
 mix:E.P.follows .mixedOrders=true
 inl:∀k ds S R,E.inl k ds S R->ACalls E.P k ds S R:=by intro _ _ _ _ h;exact h.elim
 eqs:∀t,E.eqs.contains t=true->E.P.eqGuardType E.P.depth t=false/\E.P.stoodInHeld t=false:=by intro _ h;cases h
theorem Bc1(hC : ConOk E.P E.con)(hI : ∀k ds S R, E.inl k ds S R -> ACalls E.P k ds S R)(hs : Sat C (S.add F) w){f : D}{ds : List D}{u : Value}{vs : Array Value}(hu : Rep C f u)(hr : RepL C ds vs.toList)(h : BdS E.con E.inl f ds S K X) :
  Good E.P C F K X ((do let d <- Deferred.ofValue u vs;invoke d.target d.args:Sem Next).run E.P w):=by
 unfold BdS at h
 split at h
 ·simp only[Rep] at hu
  obtain ⟨a',c',rfl,h1,h2⟩:=hu
  simp only[Deferred.ofValue,Sem.run_bind,Sem.run_pure,Result.andThen_ok,invoke]
  split at h
  ·rename_i A hA
   split at h
   ·rename_i hall
    obtain ⟨x,q1,q2⟩:=h
    obtain ⟨e1,e2⟩:=(hC _ _ _ A hA).2.2 hall x q1
    have ha:=(hC _ _ _ A hA).1 x q1
    rw[e2] at ha
    refine IW hs (BM _ _ e1 _ _ (by simp only[Array.toList_append];exact RepL.append (RepL.append h1 hr) h2)) (ha.mono ?_)
    rintro r S' ⟨y,hy,rfl,rfl⟩
    exact q2 y hy
   obtain ⟨x, q1, q2, q3, q4⟩ : ∃x, Bo _ (A.args x) /\ leS (A.st x) S /\ A.pre x /\ ∀y, A.post x y -> match A.res x y with
     |.ret d=>K d ((A.out x y).add (S.less (A.st x)))
     |.pan d=>X d ((A.out x y).add (S.less (A.st x))):=by
    split at h
    ·rename_i x hx
     have hf:=(hC _ _ _ A hA).2.1 x hx h.1
     exact⟨x,hf.1,hf.2,h⟩
    ·exact h
   refine IW (S:=(A.st x).add (S.less (A.st x))) (hs.split q2) (BM _ _ q1 _ _ (by simp only[Array.toList_append];exact RepL.append (RepL.append h1 hr) h2)) ?_
   refine (((hC _ _ _ A hA).1 x q3).frame (S.less (A.st x))).mono ?_
   rintro r S' ⟨S0,⟨y,hy,rfl,rfl⟩,rfl⟩
   exact q4 y hy
  ·exact IW hs (by simp only[Array.toList_append];exact RepL.append (RepL.append h1 hr) h2) (hI _ _ _ _ h)
 ·exact h.elim
theorem O2{C:Ctx}{x:D}{vs:List Value}(h:RepL C [x] vs):∃v,vs=[v]/\Rep C x v:=by
 simp only[RepL] at h
 obtain ⟨v,_,rfl,h1,rfl⟩:=h
 exact⟨v,rfl,h1⟩
theorem Tj{C:Ctx}{x y:D}{vs:List Value}(h:RepL C [x,y] vs):∃u v,vs=[u,v]/\Rep C x u/\Rep C y v:=by
 simp only[RepL] at h
 obtain ⟨u,_,rfl,h1,v,_,rfl,h2,rfl⟩:=h
 exact⟨u,v,rfl,h1,h2⟩
theorem Ty(hT : TabOk E.P E.tt)(hs : Sat C (S.add F) w){b : Builtin}{ts : Array TypeId}{ty : Nat}{cs : Array Bool}{ds : List D}{vs : Array Value}(hr : RepL C ds vs.toList)(h : Ek E.tt E.own b ts.toList ds S K X) :
  Good E.P C F K X ((builtin b ts ty cs vs).run E.P w):=by
 unfold Ek at h
 split at h
 ·split at h
  ·rename_i t x hts
   split at h
   ·rename_i ti ht
    obtain ⟨v,hv,hx⟩:=O2 hr
    have e1:ts=[t].toArray:=by rw[<- hts]
    have e2:vs=[v].toArray:=by rw[<- hv]
    subst e1 e2
    exact Bcz hT hs ht hx (Ba.1 h).1 (Ba.1 h).2
   ·exact h.elim
  ·exact h.elim
 ·split at h
  ·rename_i t u x y hts
   split at h
   ·rename_i ti ui ht hu
    split at h
    ·rename_i e hd
     split at h
     ·rename_i ei he
      obtain ⟨g1,hk⟩:=Ba.1 h
      obtain ⟨v,z,hv,hx,hy⟩:=Tj hr
      have e1:ts=[t,u].toArray:=by rw[<- hts]
      have e2:vs=[v,z].toArray:=by rw[<- hv]
      subst e1 e2
      have hseq:ui.desc=.string\/∃e',ui.desc=.slice e':=by
       unfold BdI at g1
       split at g1
       ·exact .inl ‹_›
       ·exact .inr ⟨_,‹_›⟩
       ·cases g1
      unfold O0 at hk
      split at hk
      ·split at hk
       ·exact MI hT hs ht hd hu hseq he hx hy hk
       ·exact M5 hT hs ht hd hu hseq he hx hy hk
       ·exact TR hT hs ht hd hu hseq he hx hy hk
       ·exact G8 hT hs ht hd hu hseq he hx hy hk
      ·exact G8 hT hs ht hd hu hseq he hx hy hk
     ·exact h.elim
    ·exact h.elim
   ·exact h.elim
  ·exact h.elim
 ·split at h
  ·rename_i t u x y hts
   split at h
   ·rename_i ti ht
    split at h
    ·rename_i e hd
     split at h
     ·rename_i ei he
      obtain ⟨v,z,hv,hx,hy⟩:=Tj hr
      have e1:ts=[t,u].toArray:=by rw[<- hts]
      have e2:vs=[v,z].toArray:=by rw[<- hv]
      subst e1 e2
      exact Bao hT hs ht hd he hx hy h
     ·exact h.elim
    ·exact h.elim
   ·exact h.elim
  ·exact h.elim
 ·split at h
  ·exact Bbq hs hr ‹_› h
  ·exact h.elim
 ·split at h
  ·exact Bcg hs hr ‹_› h
  ·exact h.elim
 ·split at h
  ·obtain ⟨v,hv,hx⟩:=O2 hr
   have e2:vs=[v].toArray:=by rw[<- hv]
   subst e2
   exact Om hs hx h
  ·exact h.elim
 ·exact h.elim
theorem GF(hE:EnvOk E)(he:RepEnv C env a.tmps)(hs:Sat C (S.add F) w)(o:Oper)(h:C9 E o.op env S K X):Good E.P C F K X ((execOp a.eval o).run E.P w):=by
 have hT:=hE.tab
 obtain ⟨dst,op,ty,pos,after,guard⟩:=o
 simp only at h
 have ev:=fun x=>GD (C:=C) he x
 cases op<;>simp only[C9] at h<;>(try exact h.elim)<;>simp only[execOp]
 case move x=>exact .val hs (ev x) h
 case assign x=>exact .val hs (ev x) h
 case pick c x y =>
  split at h
  ·rename_i t hc
   have hcv:=ev c
   rw[hc] at hcv
   simp only[Rep] at hcv
   simp only[hcv,asBool,Sem.run_bind,Sem.run_pure,Result.andThen_ok]
   split at h
   ·rename_i p q h1 h2
    refine .val hs ?_ h
    have e1:=ev x;have e2:=ev y
    rw[h1] at e1;rw[h2] at e2
    cases t<;>simpa[Rep] using (by assumption)
   ·cases t
    ·exact .val hs (ev y) h
    ·exact .val hs (ev x) h
  ·exact h.elim
 case alloc e =>
  split at h
  ·split at h
   ·exact TB hT hs ‹_› _ h
   ·exact Ws hT hs ‹_› _ h
  ·exact h.elim
 case box e x=>exact BbX hs e (ev x) h
 case build t ps =>
  split at h
  ·refine WA hT hs ‹_› (parts:=EG env ps.toList) ?_ h
   have:=EB he ps.toList
   simpa using this
  ·exact h.elim
 case buildSlice t len ps =>
  split at h
  ·split at h
   ·split at h
    ·split at h
     ·refine OG hT hs ‹_› ‹_› ‹_› (parts:=EG env ps.toList) ?_ h
      have:=EB he ps.toList
      simpa using this
     ·refine Md hT hs ‹_› ‹_› ‹_› (parts:=EG env ps.toList) ?_ h
      have:=EB he ps.toList
      simpa using this
    ·exact h.elim
   ·exact h.elim
  ·exact h.elim
 case load t x =>
  split at h
  ·exact R5 hT hs ‹_› (ev x) h
  ·exact h.elim
 case store t x y =>
  split at h
  ·exact WE hT hs ‹_› (ev x) (ev y) h
  ·exact h.elim
 case nilCheck x =>
  split at h
  ·rename_i k b o hx
   have hv:=ev x
   rw[hx] at hv
   have hv':=hv
   simp only[Rep] at hv
   rw[hv] at hv' ⊢
   exact .val hs hv' h
  ·rename_i k b i w o hx
   have hv:=ev x
   rw[hx] at hv
   have hv':=hv
   simp only[Rep] at hv
   rw[hv] at hv' ⊢
   exact .val hs hv' h
  ·rename_i r hx
   have hv:=ev x
   rw[hx] at hv
   have hv':=hv
   simp only[Rep] at hv
   obtain ⟨b,o,hv,_⟩:=hv
   rw[hv] at hv' ⊢
   exact .val hs hv' h
  ·rename_i k fa fc hx
   have hv:=ev x
   rw[hx] at hv
   have hv':=hv
   simp only[Rep] at hv
   obtain ⟨a',c',hv,_⟩:=hv
   rw[hv] at hv' ⊢
   exact .val hs hv' h
  ·exact h.elim
 case binOp op t x y yt =>
  split at h
  ·exact Bbo hT hs (ev x) (ev y) ‹_› h
  ·unfold W1 at h
   split at h
   ·exact Bco hT hE.eqs hs (ev x) (ev y) ‹_› h
   ·exact Bb1 hT hs (ev x) (ev y) h
 case unOp op t x=>exact Bdh hs (ev x) h
 case convert s d x =>
  split at h
  ·split at h
   ·exact TC h
   ·exact T8 hT hs ‹_› ‹_› (ev x) h
  ·exact h.elim
 case makeInterface t x =>
  split at h
  ·have h:=Ba.1 h
   exact G3 hT hs ‹_› (by simpa using h.1) (ev x) h.2
  ·exact h.elim
 case makeFunc f x c =>
  refine .of_val (v:=.func f (x.map a.eval) (c.map a.eval)) hs (by simp[Instr.makeFunc]) ?_ h
  simp only[Rep]
  exact⟨_,_,rfl,by simpa using GC he x.toList,by simpa using GC he c.toList⟩
 case makeSlice t l c =>
  split at h
  ·split at h
   ·split at h
    ·exact Oh hT hs ‹_› ‹_› ‹_› (ev l) (ev c) h
    ·exact h.elim
   ·exact h.elim
  ·exact h.elim
 case slice t x lo hi mx =>
  split at h
  ·split at h
   ·split at h
    ·exact OL hT hs ‹_› ‹_› (ev x) (CZ he lo) (CZ he hi) h
    ·split at h
     ·exact TP hT hs ‹_› ‹_› ‹_› (ev x) (CZ he lo) (CZ he hi) h
     ·exact h.elim
    ·split at h
     ·exact OI hT hs ‹_› ‹_› ‹_› (ev x) (CZ he lo) (CZ he hi) h
     ·exact h.elim
    ·exact h.elim
   ·exact h.elim
  ·unfold UO at h
   split at h
   ·split at h
    ·split at h
     ·unfold UN at h
      split at h
      ·exact Baj hT hs ‹_› (Mc ‹_›) ‹_› (ev x) (CZ he lo) (CZ he hi) (ev _) h
      ·exact BaD hT hs ‹_› (Mc ‹_›) ‹_› (ev x) (CZ he lo) (CZ he hi) (ev _) h
     ·exact h.elim
    ·exact h.elim
   ·exact h.elim
 case fieldAddr t x f =>
  split at h
  ·split at h
   ·split at h
    ·have h:=Ba.1 h
     exact MO hT hs ‹_› ‹_› ‹_› (of_decide_eq_true h.1) (ev x) h.2
    ·exact h.elim
   ·exact h.elim
  ·exact h.elim
 case field t x f =>
  split at h
  ·split at h
   ·split at h
    ·exact Wz hT hs ‹_› ‹_› ‹_› (ev x) h
    ·exact h.elim
   ·exact h.elim
  ·exact h.elim
 case indexAddr t x i =>
  split at h
  ·split at h
   ·split at h
    ·exact MS hT hs ‹_› ‹_› ‹_› (ev x) (ev i) h
    ·exact h.elim
   ·split at h
    ·exact OA hT hs ‹_› ‹_› ‹_› (ev x) (ev i) h
    ·exact h.elim
   ·exact h.elim
  ·exact h.elim
 case index t x i =>
  split at h
  ·split at h
   ·exact ON hT hs ‹_› ‹_› (ev x) (ev i) h
   ·split at h
    ·exact OB hT hs ‹_› ‹_› ‹_› (ev x) (ev i) h
    ·exact h.elim
   ·exact h.elim
  ·exact h.elim
 case range t x =>
  split at h
  ·split at h
   ·split at h
    ·rename_i s hx
     have hv:=ev x
     rw[hx] at hv
     exact Wo hT hs ‹_› ‹_› hv h
    ·exact h.elim
   ·exact h.elim
  ·exact h.elim
 case makeMap t r =>
  split at h
  ·split at h
   ·exact TJ hs h
   ·exact h.elim
  ·exact h.elim
 case lookup t x i ok =>
  split at h
  ·have h:=Ba.1 h
   exact U4 hT hs ‹_› h.1 (ev x) (ev i) h.2
  ·exact h.elim
 case mapUpdate t m i x =>
  split at h
  ·have h:=Ba.1 h
   exact Gu hT hs ‹_› h.1 (ev m) (ev i) (ev x) h.2
  ·exact h.elim
 case insert t m i x =>
  split at h
  ·have h:=Ba.1 h
   exact Gu hT hs ‹_› h.1 (ev m) (ev i) (ev x) h.2
  ·exact h.elim
 case next it isS =>
  split at h
  ·exact BaB hs (ev it) h
  ·exact h.elim
 case typeAssert x xt t ok =>
  split at h
  ·have h:=Ba.1 h
   exact Uj hT hs ‹_› (by simpa using h.1) (ev x) h.2
  ·exact h.elim
 case extract x i=>exact Tt hs (ev x) h
 case panic x =>
  split at h
  ·rename_i t d hx
   have hv:=ev x
   rw[hx] at hv
   exact Om hs hv h
  ·exact h.elim
 case call c =>
  split at h
  ·rename_i f hc
   simp only[resolve,hc]
   have:=Bc1 (E:=E) (X:=X) hE.con hE.inl hs (vs:=c.args.map a.eval) (ev f) (by simpa using GC he c.args.toList) h
   simpa using this
  ·rename_i b hc
   simp only[resolve,hc]
   simp only[Sem.run_bind,Sem.run_pure,Result.andThen_ok,invoke]
   exact Ty hT hs (by simpa using GC he c.args.toList) h
  ·exact h.elim
end
def putD(env:Env)(dst:Option Nat)(d:D):Env :=
 match dst with
 |some t=>(t,d)::env
 |none=>env
def C3(ops:List Oper)(o:Oper)(env:Env)(run skip:Env->Prop):Prop :=
 match o.guard with
 |none=>run env
 |some (j,want)=>match ops[j]? with
  |some oj=>match oj.dst with
   |some d=>match look env d with
    |.bool b=>match want with
     |true=>ifB b (run ((d,.bool true)::env)) (skip ((d,.bool false)::env))
     |false=>ifB b (skip ((d,.bool true)::env)) (run ((d,.bool false)::env))
    |.tup []=>skip env
    |_=>False
   |none=>False
  |none=>False
def CO(E:Senv)(ops:List Oper)(Q:APostT):List Nat->Env->St->Prop
 | [],env,S=>Q .normal env S
 |i::rest,env,S=>match ops[i]? with
  |none=>CO E ops Q rest env S
  |some o=>C3 ops o env
    (fun env=>C9 E o.op env S (fun d S'=>CO E ops Q rest (putD env o.dst d) S') (fun d S'=>Q (.panic d) env S'))
    (fun env=>CO E ops Q rest (putD env o.dst (.tup [])) S)
def Cq(n:Nat):Option Nat->Bool
 |some t=>decide (t<n)
 |none=>true
theorem RepEnv.putD{C : Ctx}{env : Env}{a : Act}(H : RepEnv C env a.tmps){dst : Option Nat}{d : D}{v : Value}(ht : Cq a.tmps.size dst=true)(hv : Rep C d v) :
  RepEnv C (putD env dst d) (a.put dst v).tmps:=by
 cases dst with
 |none=>exact H
 |some t=>exact RepEnv.put H (by simpa[Cq] using ht) hv
theorem Ex(a:Act)(dst:Option Nat)(v:Value):(a.put dst v).tmps.size=a.tmps.size:=by
 cases dst<;>simp[Act.put]
theorem Co(a:Act)(dst:Option Nat)(v:Value):(a.put dst v).defers=a.defers:=by
 cases dst<;>rfl
theorem Em(C:Ctx):Rep C (.tup []) undef:=by simp[Rep,RepL,undef]
section
variable {E:Senv} {C:Ctx} {F S:St} {w:World} {K X:D->St->Prop} {env:Env} {a:Act}
theorem Mv{P : Program}{o : Oper}{next : Act -> World -> Prop}{Qc : Exit -> Act -> World -> Prop}(h : Good P C F K X ((execOp a.eval o).run P w))
  (hk:∀C' d S' v w',C.le C'->Rep C' d v->Sat C' (S'.add F) w'->K d S'->next (a.put o.dst v) w')
  (hx:∀C' d S' v w',C.le C'->Rep C' d v->Sat C' (S'.add F) w'->X d S'->Qc (.panic [{ v,recovered:=false }]) a w'):o.wp P a w next Qc:=by
 unfold Oper.wp
 unfold Good at h
 split at h
 ·rename_i v w' hr
  obtain ⟨C',d,S',h1,h2,h3,h4⟩:=h
  rw[hr];exact hk C' d S' v w' h1 h2 h3 h4
 ·rename_i w' hr
  obtain ⟨C',S',h1,h3,h4⟩:=h
  rw[hr];exact hk C' _ S' undef w' h1 (Em C') h3 h4
 ·rename_i f args w' hr
  obtain ⟨C',ds,S',h1,h2,h3,h4⟩:=h
  rw[hr]
  refine (h4.2 C' F args w' h2 h3).mono ?_
  rintro e w'' ⟨C2,r,S2,k1,k2,k3,k4⟩
  cases e with
  |returned v =>
   cases r with
   |ret d=>exact hk C2 d S2 v w'' (h1.trans k1) k3 k2 k4
   |pan d=>exact k3.elim
  |panicked ch =>
   cases r with
   |ret d=>exact k3.elim
   |pan d =>
    obtain ⟨v,rfl,hv⟩:=k3
    exact hx C2 d S2 v w'' (h1.trans k1) hv k2 k4
  |outgrown=>cases r<;>exact k3.elim
 ·rename_i v w' hr
  obtain ⟨C',d,S',h1,h2,h3,h4⟩:=h
  rw[hr];exact hx C' d S' v w' h1 h2 h3 h4
 ·exact h.elim
theorem OU{ops : List Oper}{o : Oper}{run skip : Env -> Prop}(he : RepEnv C env a.tmps)(h : C3 ops o env run skip) :
  (Region.wanted o (yielded ops.toArray a.tmps)=true/\∃env',RepEnv C env' a.tmps/\run env')\/(Region.wanted o (yielded ops.toArray a.tmps)=false/\∃env',RepEnv C env' a.tmps/\skip env'):=by
 unfold C3 at h
 unfold Region.wanted
 split at h
 ·rename_i hg;rw[hg];exact .inl ⟨rfl,env,he,h⟩
 ·rename_i j want hg
  rw[hg]
  split at h
  ·rename_i oj hj
   split at h
   ·rename_i d hd
    have hy:∀b,a.tmps[d]? =some (.bool b)->yielded ops.toArray a.tmps j=some b:=fun b hb=>by
     simp[yielded,hj,hd,hb]
    have hn:∀vs,a.tmps[d]? =some (.tuple vs)->yielded ops.toArray a.tmps j=none:=fun b hb=>by
     simp[yielded,hj,hd,hb]
    have hnn:a.tmps[d]? =none->yielded ops.toArray a.tmps j=none:=fun hb=>by
     simp[yielded,hj,hd,hb]
    have hr:=he d
    split at h
    ·rename_i b hl
     have h:(b=want->run ((d,.bool want)::env))/\(b=!want->skip ((d,.bool (!want))::env)):=by
      cases want<;>simp only at h<;>have h:=Ck h<;>exact⟨by simpa using (by first | exact h.1 | exact h.2),by simpa using (by first | exact h.1 | exact h.2)⟩
     rw[hl] at hr
     simp only[Rep] at hr
     have ht:a.tmps[d]? =some (.bool b):=by
      cases hq:a.tmps[d]? with
      |none=>simp[Array.getD_eq_getD_getElem?,hq,undef] at hr
      |some v=>simp[Array.getD_eq_getD_getElem?,hq] at hr;rw[hr]
     have hy:=hy b ht
     by_cases hb:b=want
     ·refine .inl ⟨by simp[hy,hb],_,?_,h.1 hb⟩
      intro t
      simp only[look]
      split
      ·rename_i e;subst e;simp only[Rep];rw[hr,hb]
      ·exact he t
     ·have hb':b=!want:=by cases b<;>cases want<;>simp_all
      refine .inr ⟨by simp[hy,hb'],_,?_,h.2 hb'⟩
      intro t
      simp only[look]
      split
      ·rename_i e;subst e;simp only[Rep];rw[hr,hb']
      ·exact he t
    ·rename_i hl
     rw[hl] at hr
     simp only[Rep,RepL] at hr
     obtain ⟨vs,hr,_⟩:=hr
     refine .inr ⟨?_,env,he,h⟩
     have:yielded ops.toArray a.tmps j=none:=by
      cases hq:a.tmps[d]? with
      |none=>exact hnn hq
      |some v=>simp[Array.getD_eq_getD_getElem?,hq] at hr;exact hn vs (by rw[hq,hr])
     simp[this]
    ·exact h.elim
   ·exact h.elim
  ·exact h.elim
theorem En{ops : List Oper}{dfs : List Deferred}{Q : APostT}(hT : EnvOk E)(hok : ops.all (fun o=>Cq E.n o.dst)=true) :
  ∀(l:List Nat) (C0 C:Ctx) (F:St) (env:Env) (S:St) (a:Act) (w:World),C0.le C->RepEnv C env a.tmps->a.tmps.size=E.n->a.defers=dfs->Sat C (S.add F) w->CO E ops Q l env S ->
   wpOps E.P ops.toArray (APost C0 F E.n dfs Q) l a w
 | [],C0,C,F,env,S,a,w,h0,h1,h2,h3,h4,h=>⟨C,.normal,env,S,h0,h1,h2,h3,h4,trivial,h⟩
 |i::rest,C0,C,F,env,S,a,w,h0,h1,h2,h3,h4,h=>by
  simp only[CO] at h
  simp only[wpOps]
  cases ho:ops[i]? with
  |none =>
   rw[ho] at h
   have:(ops.toArray)[i]? =none:=by simpa using ho
   rw[this]
   exact En hT hok rest C0 C F env S a w h0 h1 h2 h3 h4 h
  |some o =>
   rw[ho] at h
   have:(ops.toArray)[i]? =some o:=by simpa using ho
   rw[this]
   have hdst:Cq a.tmps.size o.dst=true:=by
    rw[h2];exact List.all_eq_true.1 hok o (List.mem_of_getElem? ho)
   simp only at h ⊢
   rcases OU (a:=a) h1 h with ⟨hw,env',he,hr⟩ | ⟨hw,env',he,hr⟩
   ·rw[hw]
    simp only[if_true]
    refine .inl (Mv (GF hT he h4 o hr) ?_ ?_)
    ·intro C' d S' v w' k1 k2 k3 k4
     refine En hT hok rest C0 C' F _ S' _ w' (h0.trans k1) ((he.mono k1).putD hdst k2) (by rw[Ex,h2]) (by rw[Co,h3]) k3 k4
    ·intro C' d S' v w' k1 k2 k3 k4
     exact⟨C',.panic d,env',S',h0.trans k1,he.mono k1,h2,h3,k3,⟨v,rfl,k2⟩,k4⟩
   ·rw[hw]
    simp only[Bool.false_eq_true,if_false]
    exact En hT hok rest C0 C F _ S _ w h0 (he.putD hdst (Em C)) (by rw[Ex,h2]) (by rw[Co,h3]) h4 hr
end
def Es(ops:List Oper):List Nat:=ops.filterMap (·.dst)
def Same(l:List Nat)(a a':Act):Prop:=∀t,l.contains t=false->a'.tmps.getD t undef=a.tmps.getD t undef
theorem Same.refl(l:List Nat)(a:Act):Same l a a:=fun _ _=>rfl
theorem Same.trans{l:List Nat}{a b c:Act}(h:Same l a b)(k:Same l b c):Same l a c:=fun t ht=>(k t ht).trans (h t ht)
theorem E1{l:List Nat}{a:Act}{d:Option Nat}{v:Value}(h:∀t,d=some t->l.contains t=true):Same l a (a.put d v):=by
 intro t ht
 cases d with
 |none=>rfl
 |some s =>
  have hs:=h s rfl
  have hne:s≠t:=fun e=>by subst e;rw[hs] at ht;cases ht
  simp[Act.put,Array.getD_eq_getD_getElem?,hne]
theorem W4{l:List Nat}{a:Act}{ds:List Deferred}:Same l a { a with defers:=ds }:=fun _ _=>rfl
variable {P:Program} {ops:Array Oper} {Q:Exit->Act->World->Prop} {l:List Nat} {a0:Act}
def Td(l:List Nat)(a0:Act)(Q:Exit->Act->World->Prop):Exit->Act->World->Prop:=fun e a w=>Q e a w/\(e=.normal->Same l a0 a)
theorem UD(h:LetsOut Q):LetsOut (Td l a0 Q):=let ⟨a,w,h⟩:=h;⟨a,w,h,fun e=>nomatch e⟩
theorem BaF{o : Oper}{a : Act}{w : World}{K K' : Act -> World -> Prop}(hd : ∀t, o.dst=some t -> l.contains t=true)(h : ∀a' w', Same l a a' -> K a' w' -> K' a' w')
  (hh:o.wp P a w K Q):o.wp P a w K' (Td l a0 Q):=by
 unfold Oper.wp at *
 generalize (execOp a.eval o).run P w=r at *
 cases r with
 |ok n w' =>
  cases n<;>simp only[Oper.upon] at hh ⊢
  case value=>exact h _ _ (E1 hd) hh
  case skip=>exact h _ _ (E1 hd) hh
  case defer=>exact h _ _ (Same.trans W4 (E1 hd)) hh
  case enter=>exact Calls.mono hh (fun e w'' he=>by
   cases e with
   |returned v=>exact h _ _ (E1 hd) he
   |panicked c=>exact⟨he,fun e=>nomatch e⟩
   |outgrown=>exact UD he)
  case row=>exact Rows.mono hh (fun _ _ he=>h _ _ (E1 hd) he)
  all_goals exact hh.elim
 |halt x w'=>cases x<;>simp only[Oper.upon] at hh ⊢<;>first | exact⟨hh,fun e=>nomatch e⟩ | exact hh.elim
theorem W9{i : Nat}{a : Act}{w : World}{K K' : Act -> World -> Prop}(hd : ∀(i : Nat) o, ops[i]? =some o -> ∀t, o.dst=some t -> l.contains t=true)(h : ∀a' w', Same l a a' -> K a' w' -> K' a' w')
  (hh:wpOp P ops Q i K a w):wpOp P ops (Td l a0 Q) i K' a w:=by
 unfold wpOp at *
 split
 ·exact h _ _ (.refl _ _) (by simpa[*] using hh)
 ·rename_i o ho
  simp only[ho] at hh
  split
  ·rename_i hw;simp only[hw,if_true] at hh;exact hh.imp (BaF (hd i o ho) h) fun x=>⟨x.1,UD x.2⟩
  ·rename_i hw;simp only[hw] at hh;exact h _ _ (E1 (hd i o ho)) hh
theorem Wf(hd:∀(i:Nat) o,ops[i]? =some o->∀t,o.dst=some t->l.contains t=true):∀(is:List Nat) (a:Act) (w:World),Same l a0 a->wpOps P ops Q is a w->wpOps P ops (Td l a0 Q) is a w
 | [],_,_,hs,h=>⟨h,fun _=>hs⟩
 |i::is,a,w,hs,h=>by
  rw[wpOps_cons] at h ⊢
  exact W9 hd (fun a' w' s k=>Wf hd is a' w' (hs.trans s) k) h
theorem Wd{md:Region.Mode}(hd:∀(i:Nat) o,ops[i]? =some o->∀t,o.dst=some t->l.contains t=true):∀(fuel:Nat) (listed:Array Bool) (a:Act) (w:World),Same l a0 a->wpAny P md ops Q fuel listed a w->wpAny P md ops (Td l a0 Q) fuel listed a w
 |0,_,_,_,hs,h=>⟨h.1,h.2,fun _=>hs⟩
 |fuel+1,_,_,_,hs,h=>⟨fun e=>⟨h.1 e,fun _=>hs⟩,fun i hi=>W9 hd (fun a' w' s k=>Wd hd fuel _ a' w' (hs.trans s) k) (h.2 i hi)⟩
theorem RC(ops:List Oper):∀(i:Nat) o,ops.toArray[i]? =some o->∀t,o.dst=some t->(Es ops).contains t=true:=by
 intro i o ho t ht
 have:o∈ops:=List.mem_of_getElem? (by simpa using ho)
 simp only[List.contains_eq_mem,decide_eq_true_eq,Es,List.mem_filterMap]
 exact⟨o,this,ht⟩
def AWpK(P:Program)(n:Nat)(dfs:List Deferred)(l:List Nat)(c:Code)(Q:APostT)(env:Env)(S:St):Prop :=
 ∀(C:Ctx) (F:St) (a:Act) (w:World),RepEnv C env a.tmps->a.tmps.size=n->a.defers=dfs->Sat C (S.add F) w->c.wp P (Td l a (APost C F n dfs Q)) a w
theorem AWpK.awp{n:Nat}{dfs:List Deferred}{c:Code}{Q:APostT}{env:Env}{S:St}(h:AWpK P n dfs l c Q env S):AWp P n dfs c Q env S :=
 fun C F a w h1 h2 h3 h4=>wp_mono (h C F a w h1 h2 h3 h4) fun _ _ _ x=>x.1
def Ij(acc:List Nat)(o:Oper):Nat:=o.after.toList.foldl (fun s e=>if Region.binds .any e then s ||| 2 ^ e.on ||| acc.getD e.on 0 else s) 0
def EA:List Oper->List Nat->List Nat
 | [],acc=>acc
 |o::r,acc=>EA r (acc++[Ij acc o])
def BQ(an:List Nat)(i k:Nat):Bool:=(an.getD i 0).testBit k
theorem I6(acc : List Nat)(k : Nat) : ∀(l : List Edge) (s : Nat), (l.foldl (fun s e=>if Region.binds .any e then s ||| 2 ^ e.on ||| acc.getD e.on 0 else s) s).testBit k=true ->
  s.testBit k=true\/∃e,e∈l/\Region.binds .any e=true/\(e.on=k\/BQ acc e.on k=true)
 | [],s,h=>.inl h
 |e::l,s,h=>by
  simp only[List.foldl_cons] at h
  rcases I6 acc k l _ h with h | ⟨e',h1,h2,h3⟩
  ·split at h
   ·rename_i hb
    simp only[Nat.testBit_or,Bool.or_eq_true] at h
    rcases h with (h | h) | h
    ·exact .inl h
    ·have:e.on=k:=by
      rw[Nat.testBit_two_pow] at h
      simpa using h
     exact .inr ⟨e,by simp,hb,.inl this⟩
    ·exact .inr ⟨e,by simp,hb,.inr h⟩
   ·exact .inl h
  ·exact .inr ⟨e',by simp[h1],h2,h3⟩
theorem MT:∀(l:List Oper) (acc:List Nat) (j:Nat),j<acc.length->(EA l acc)[j]? =acc[j]?
 | [],_,_,_=>rfl
 |o::r,acc,j,h=>by
  simp only[EA]
  rw[MT r _ j (by simp;omega),List.getElem?_append_left h]
theorem Rm : ∀(l : List Oper) (acc : List Nat) (i : Nat) (o : Oper), l[i]? =some o ->
  ∃acc',acc'.length=acc.length+i/\(∀j,j<acc.length+i->(EA l acc)[j]? =acc'[j]?)/\(EA l acc)[acc.length+i]? =some (Ij acc' o)
 | [],_,i,o,h=>by simp at h
 |p::r,acc,0,o,h=>by
  simp at h;subst h
  refine⟨acc,rfl,fun j hj=>?_,?_⟩
  ·exact MT (p::r) acc j hj
  ·simp only[EA,Nat.add_zero]
   rw[MT r _ _ (by simp)]
   simp
 |p::r,acc,i+1,o,h=>by
  obtain ⟨acc',h1,h2,h3⟩:=Rm r (acc++[Ij acc p]) i o (by simpa using h)
  have hl:(acc++[Ij acc p]).length+i=acc.length+(i+1):=by simp;omega
  rw[hl] at h1 h2 h3
  exact⟨acc',h1,h2,h3⟩
theorem Bb9{ops : List Oper}(hlt : ∀i o, ops[i]? =some o -> ∀e, e∈o.after.toList -> Region.binds .any e=true -> e.on<i){i k : Nat}(h : BQ (EA ops []) i k=true) :
  ∃o e,ops[i]? =some o/\e∈o.after.toList/\Region.binds .any e=true/\(e.on=k\/BQ (EA ops []) e.on k=true):=by
 unfold BQ at h
 cases ho:ops[i]? with
 |none =>
  have:(EA ops []).length=ops.length:=by
   have key:∀(l:List Oper) (acc:List Nat),(EA l acc).length=acc.length+l.length:=by
    intro l
    induction l with
    |nil=>intro acc;simp[EA]
    |cons p r ih=>intro acc;simp only[EA,ih];simp;omega
   simpa using key ops []
  have hn:(EA ops [])[i]? =none:=by
   rw[List.getElem?_eq_none_iff] at ho ⊢; omega
  rw[List.getD_eq_getElem?_getD,hn] at h
  simp at h
 |some o =>
  obtain ⟨acc',h1,h2,h3⟩:=Rm ops [] i o ho
  simp only[List.length_nil,Nat.zero_add] at h1 h2 h3
  rw[List.getD_eq_getElem?_getD,h3] at h
  simp only[Option.getD_some,Ij] at h
  rcases I6 acc' k _ 0 h with h | ⟨e,e1,e2,e3⟩
  ·simp at h
  ·refine⟨o,e,rfl,e1,e2,e3.imp id fun h=>?_⟩
   have:=hlt i o ho e e1 e2
   unfold BQ at h ⊢
   rwa [List.getD_eq_getElem?_getD,h2 e.on this,<- List.getD_eq_getElem?_getD]
def Closed(ops:List Oper)(L:Nat->Bool):Prop:=∀i o,ops[i]? =some o->L i=true->∀e,e∈o.after.toList->Region.binds .any e=true->L e.on=true
theorem Closed.anc{ops : List Oper}{L : Nat -> Bool}(hc : Closed ops L)(hlt : ∀i o, ops[i]? =some o -> ∀e, e∈o.after.toList -> Region.binds .any e=true -> e.on<i) :
  ∀(n i k:Nat),i<n->BQ (EA ops []) i k=true->(∀o,ops[i]? =some o->∀e,e∈o.after.toList->Region.binds .any e=true->L e.on=true)->L k=true
 |0,_,_,h,_,_=>by omega
 |n+1,i,k,hi,h,hp=>by
  obtain ⟨o,e,ho,h1,h2,h3⟩:=Bb9 hlt h
  have hL:=hp o ho e h1 h2
  rcases h3 with rfl | h3
  ·exact hL
  ·have:=hlt i o ho e h1 h2
   exact Closed.anc hc hlt n e.on k (by omega) h3 fun o' ho'=>hc e.on o' ho' hL
def Oa:Op->Bool
 |.move _ | .assign _ | .pick _ _ _ | .build _ _ | .load _ _ | .nilCheck _ | .binOp _ _ _ _ _ | .unOp _ _ _ | .makeInterface _ _ | .makeFunc _ _ _ | .slice _ _ _ _ none
 |.fieldAddr _ _ _ | .field _ _ _ | .indexAddr _ _ _ | .index _ _ _ | .extract _ _=>true
 |.call c=>match c.callee with
  |.builtin .len=>true
  |.builtin .min=>true
  |.builtin .max=>true
  |_=>false
 |_=>false
def steady(E:Senv)(op:Op)(env:Env):Bool:=match op with
 |.binOp op t x y _=>(Oe E.tt op t (evD env x) (evD env y)).isNone
 |_=>true
def Val(E:Senv)(op:Op)(env:Env)(S:St)(d:D):Prop:=C9 E op env S (fun d' S'=>d'=d/\S'=S) (fun _ _=>False)
theorem Bav{op:BinOp}{k k':IntKind}{a b:Int}{K:D->Prop}(h:Te op k a k' b K):∃d,K d/\∀J:D->Prop,J d->Te op k a k' b J:=by
 cases op<;>simp only[Te,Ba,Bc] at h ⊢
 case shl=>exact⟨_,h.2,fun J j=>⟨h.1,j⟩⟩
 case shr=>exact⟨_,h.2,fun J j=>⟨h.1,j⟩⟩
 case quo=>exact⟨_,h.2.2,fun J j=>⟨h.1,h.2.1,j⟩⟩
 case rem=>exact⟨_,h.2.2,fun J j=>⟨h.1,h.2.1,j⟩⟩
 all_goals exact⟨_,h.2,fun J j=>⟨h.1,j⟩⟩
theorem Bay{op:BinOp}{a b:List UInt8}{K:D->Prop}(h:OP op a b K):∃d,K d/\∀J:D->Prop,J d->OP op a b J:=by
 cases op<;>simp only[OP,Bc] at h ⊢
 case add=>exact⟨_,h.2,fun J j=>⟨h.1,j⟩⟩
 all_goals first
  |exact h.elim
  |exact⟨_,h,fun J j=>j⟩
theorem BaH{tt : Nat -> Option TI}{op : BinOp}{t : Nat}{x y : Operand}{a b : D}{S : St}{K : D -> St -> Prop}(h : GV tt op t x y a b S K) :
  ∃d,K d S/\∀(S':St) (J:D->St->Prop),J d S'->GV tt op t x y a b S' J:=by
 unfold GV at h
 split at h
 ·split at h
  ·obtain ⟨d,h1,h2⟩:=Bav h
   exact⟨d,h1,fun S' J j=>by simp only[GV];exact h2 (fun d=>J d S') j⟩
  ·exact h.elim
 ·split at h
  ·obtain ⟨d,h1,h2⟩:=Bay h
   exact⟨d,h1,fun S' J j=>by simp only[GV];exact h2 (fun d=>J d S') j⟩
  ·exact h.elim
 ·rename_i hni hns
  split at h
  ·rename_i ti ht
   split at h
   ·split at h
    ·rename_i r hr
     have h:=Ba.1 h
     refine⟨.bool r,h.2,fun S' J j=>?_⟩
     unfold GV
     split
     ·exact (hni _ _ rfl).elim
     ·exact (hns _ rfl).elim
     ·simp only[ht,hr];exact Ba.2 ⟨h.1,j⟩
    ·exact h.elim
   ·split at h
    ·rename_i r hr
     have h:=Ba.1 h
     refine⟨.bool !r,h.2,fun S' J j=>?_⟩
     unfold GV
     split
     ·exact (hni _ _ rfl).elim
     ·exact (hns _ rfl).elim
     ·simp only[ht,hr];exact Ba.2 ⟨h.1,j⟩
    ·exact h.elim
   ·exact h.elim
  ·exact h.elim
def Ef(op:Op)(env:Env):Bool :=
 match op with
 |.load _ a=>match evD env a with
  |.ref _ _ _=>true
  |.er _ _ _ _ _=>true
  |_=>false
 |.call c=>match c.args.toList.map (evD env) with
  | [.map _ _]=>true
  |_=>false
 |_=>false
def Has(V:St->(D->St->Prop)->Prop)(rd:Bool)(S:St)(K:D->St->Prop):Prop :=
 ∃d,K d S/\(∀J:D->St->Prop,J d S->V S J)/\(rd=false->∀(S':St) (J:D->St->Prop),J d S'->V S' J)
theorem Has.of{V:St->(D->St->Prop)->Prop}{rd:Bool}{S:St}{K:D->St->Prop}{d:D}(h:K d S)(h2:∀(S':St) (J:D->St->Prop),J d S'->V S' J):Has V rd S K :=
 ⟨d,h,h2 S,fun _=>h2⟩
theorem M2{E : Senv}{op : Op}{env : Env}{S : St}{K X : D -> St -> Prop}(hp : Oa op=true)(hst : steady E op env=true)(h : C9 E op env S K X) :
  Has (fun S K=>∀X,C9 E op env S K X) (Ef op env) S K:=by
 cases op<;>simp only[Oa,Bool.false_eq_true] at hp<;>simp only[C9] at h ⊢
 case move x=>exact .of h fun _ _ j _=>j
 case assign x=>exact .of h fun _ _ j _=>j
 case pick c x y =>
  split at h
  ·rename_i t ht
   try simp only[ht]
   split at h
   ·rename_i p q h1 h2
    try simp only[h1,h2]
    exact .of h fun _ _ j _=>j
   ·rename_i hno
    cases t
    ·exact .of (d:=evD env y) h fun S' J j _=>j
    ·exact .of (d:=evD env x) h fun S' J j _=>j
  ·exact h.elim
 case build t ps =>
  split at h
  ·rename_i ti ht
   try simp only[ht]
   unfold Mn at h ⊢
   split at h
   ·rename_i fs hd
    have h:=Ba.1 h
    obtain ⟨hc,h⟩:=h
    split at h
    ·rename_i cs hf
     refine .of (BT.1 h) fun S' J j _=>?_
     try simp only[hd,hf]
     exact Ba.2 ⟨hc,BT.2 j⟩
    ·exact h.elim
   ·rename_i n e hd
    split at h
    ·rename_i ei he
     split at h
     ·rename_i cs hf
      refine .of (BT.1 h) fun S' J j _=>?_
      try simp only[hd,he,hf]
      exact BT.2 j
     ·exact h.elim
    ·exact h.elim
   ·exact h.elim
  ·exact h.elim
 case load t x =>
  split at h
  ·rename_i ti ht
   simp only[Ef]
   unfold TG at h ⊢
   simp only[Bc] at h ⊢
   split at h
   ·rename_i k b o hx
    split at h
    ·rename_i y ds hg
     obtain ⟨h1,h2,h3⟩:=h
     refine⟨_,h3,fun J j _=>?_,fun hr=>by rw[hx] at hr;cases hr⟩
     simp only[hg];exact⟨h1,h2,j⟩
    ·rename_i y T E0 d hg
     obtain ⟨h0,h1,h3⟩:=Ba.1 h
     refine⟨_,h3,fun J j _=>?_,fun hr=>by rw[hx] at hr;cases hr⟩
     simp only[hg];exact Ba.2 ⟨h0,h1,j⟩
    ·rename_i y T E0 d ds hg
     obtain ⟨h1,h2,h3⟩:=h
     refine⟨_,h3,fun J j _=>?_,fun hr=>by rw[hx] at hr;cases hr⟩
     simp only[hg];exact⟨h1,h2,j⟩
    ·exact h.elim
   ·rename_i row hx
    refine .of h.2 fun S' J j _=>⟨h.1,j⟩
   ·rename_i k b i wd fo hx
    split at h
    ·rename_i y w' n c f hg
     obtain ⟨h0,h1,h2,h3⟩:=Ba.1 h
     refine⟨_,h3,fun J j _=>?_,fun hr=>by rw[hx] at hr;cases hr⟩
     simp only[hg];exact Ba.2 ⟨h0,h1,h2,j⟩
    ·exact h.elim
   ·exact h.elim
  ·exact h.elim
 case nilCheck x =>
  split at h
  ·rename_i k b o hx;(try simp only[hx]);exact .of h fun _ _ j _=>j
  ·rename_i k b i w o hx;(try simp only[hx]);exact .of h fun _ _ j _=>j
  ·rename_i r hx;(try simp only[hx]);exact .of h fun _ _ j _=>j
  ·rename_i k f c hx;(try simp only[hx]);exact .of h fun _ _ j _=>j
  ·exact h.elim
 case binOp op t x y yt =>
  simp only[steady,Option.isNone_iff_eq_none] at hst
  simp only[hst] at h ⊢
  unfold W1 at h ⊢
  split at h
  ·rename_i r hr
   (try simp only[hr])
   exact .of h fun _ _ j _=>j
  ·rename_i hr
   (try simp only[hr])
   obtain ⟨d,h1,h2⟩:=BaH h
   exact .of h1 fun S' J j _=>h2 S' J j
 case unOp op t x =>
  unfold Bc6 at h ⊢
  split at h
  ·rename_i b hx;(try simp only[hx]);exact .of h fun _ _ j _=>j
  ·rename_i k n hx;(try simp only[hx]);exact .of h fun _ _ j _=>j
  ·rename_i k n hx;(try simp only[hx]);exact .of h fun _ _ j _=>j
  ·exact h.elim
 case makeInterface t x =>
  split at h
  ·rename_i ti ht
   have h:=Ba.1 h
   try simp only[ht]
   exact .of h.2 fun _ _ j _=>Ba.2 ⟨h.1,j⟩
  ·exact h.elim
 case makeFunc f x c=>exact .of h fun _ _ j _=>j
 case slice t x lo hi mx =>
  cases mx with
  |some _=>cases hp
  |none =>
  simp only at h ⊢
  ·split at h
   ·rename_i ti ht
    try simp only[ht]
    split at h
    ·rename_i hd
     try simp only[hd]
     unfold E3 at h ⊢
     simp only[Bc,and_assoc] at h ⊢
     split at h
     ·rename_i s hx
      try simp only[hx]
      split at h
      ·rename_i l r e1 e2
       try simp only[e1,e2]
       obtain ⟨a1,a2,a3,a4⟩:=h
       exact .of a4 fun _ _ j _=>⟨a1,a2,a3,j⟩
      ·exact h.elim
     ·exact h.elim
    ·rename_i e hd
     try simp only[hd]
     split at h
     ·rename_i ei he
      try simp only[he]
      unfold GN at h ⊢
      simp only[Bc,and_assoc] at h ⊢
      split at h
      ·rename_i wd n f m hx
       try simp only[hx]
       split at h
       ·rename_i l r e1 e2
        try simp only[e1,e2]
        obtain ⟨a0,a1,a2,a3,a4⟩:=Ba.1 h
        exact .of a4 fun _ _ j _=>Ba.2 ⟨a0,a1,a2,a3,j⟩
       ·exact h.elim
      ·rename_i k b o len cap wd hx
       try simp only[hx]
       split at h
       ·rename_i l r e1 e2
        try simp only[e1,e2]
        obtain ⟨a0,a1,a2,a3,a4,a5⟩:=Ba.1 h
        exact .of a5 fun _ _ j _=>Ba.2 ⟨a0,a1,a2,a3,a4,j⟩
       ·exact h.elim
      ·rename_i k b len cap wd hx
       try simp only[hx]
       split at h
       ·rename_i l e1 e2
        try simp only[e1,e2]
        obtain ⟨a0,a1,a2,a3,a4⟩:=Ba.1 h
        exact .of a4 fun _ _ j _=>Ba.2 ⟨a0,a1,a2,a3,j⟩
       ·rename_i lo' hi' hn
        split at h
        ·rename_i l r e1 e2
         try simp only[e1,e2]
         obtain ⟨a0,a1,a2,a3⟩:=Ba.1 h
         exact .of a3 fun _ _ j _=>Ba.2 ⟨a0,a1,a2,j⟩
        ·exact h.elim
      ·exact h.elim
     ·exact h.elim
    ·rename_i n e hd
     try simp only[hd]
     split at h
     ·rename_i ei he
      try simp only[he]
      unfold Gd at h ⊢
      simp only[Bc,and_assoc] at h ⊢
      split at h
      ·rename_i k b o hx
       try simp only[hx]
       split at h
       ·rename_i l r e1 e2
        try simp only[e1,e2]
        obtain ⟨a0,a1,a2,a3,a4,a5⟩:=h
        exact .of a5 fun _ _ j _=>⟨a0,a1,a2,a3,a4,j⟩
       ·exact h.elim
      ·rename_i k b i0 wd fo hx
       try simp only[hx]
       split at h
       ·rename_i l r e1 e2
        try simp only[e1,e2]
        obtain ⟨c0,a1,a2,a3,a4,a5⟩:=Ba.1 h
        exact .of a5 fun _ _ j _=>Ba.2 ⟨c0,a1,a2,a3,a4,j⟩
       ·exact h.elim
      ·exact h.elim
     ·exact h.elim
    ·exact h.elim
   ·exact h.elim
 case fieldAddr t x f =>
  split at h
  ·rename_i ti ht
   try simp only[ht]
   split at h
   ·rename_i fd hf
    try simp only[hf]
    split at h
    ·rename_i fi hfi
     try simp only[hfi]
     obtain ⟨hc,h⟩:=Ba.1 h
     unfold EH at h ⊢
     split at h
     ·rename_i k b o hx;(try simp only[hx]);exact .of h fun _ _ j _=>Ba.2 ⟨hc,j⟩
     ·rename_i row hx;(try simp only[hx]);exact .of h fun _ _ j _=>Ba.2 ⟨hc,j⟩
     ·rename_i k b i w o hx;(try simp only[hx]);exact .of h fun _ _ j _=>Ba.2 ⟨hc,j⟩
     ·exact h.elim
    ·exact h.elim
   ·exact h.elim
  ·exact h.elim
 case field t x f =>
  split at h
  ·rename_i ti ht
   try simp only[ht]
   split at h
   ·rename_i fd hf
    try simp only[hf]
    split at h
    ·rename_i fi hfi
     try simp only[hfi]
     unfold Mh at h ⊢
     split at h
     ·rename_i cs hx
      try simp only[hx]
      have h:=Ba.1 h
      exact .of h.2 fun _ _ j _=>Ba.2 ⟨h.1,j⟩
     ·exact h.elim
    ·exact h.elim
   ·exact h.elim
  ·exact h.elim
 case indexAddr t x i =>
  split at h
  ·rename_i ti ht
   try simp only[ht]
   split at h
   ·rename_i e hd
    try simp only[hd]
    split at h
    ·rename_i ei he
     try simp only[he]
     unfold EL at h ⊢
     simp only[Bc,and_assoc] at h ⊢
     split at h
     ·rename_i wd n f m k j hx hi
      try simp only[hx,hi]
      obtain ⟨a0,a1,a2,a3⟩:=Ba.1 h
      exact .of a3 fun _ _ j _=>Ba.2 ⟨a0,a1,a2,j⟩
     ·rename_i t b o len cap wd k j hx hi
      try simp only[hx,hi]
      obtain ⟨a0,a1,a2,a3⟩:=Ba.1 h
      exact .of a3 fun _ _ j _=>Ba.2 ⟨a0,a1,a2,j⟩
     ·rename_i t b len cap wd k j hx hi
      try simp only[hx,hi]
      obtain ⟨a0,a1,a2,a3⟩:=Ba.1 h
      exact .of a3 fun _ _ j _=>Ba.2 ⟨a0,a1,a2,j⟩
     ·exact h.elim
    ·exact h.elim
   ·rename_i n e hd
    try simp only[hd]
    split at h
    ·rename_i ei he
     try simp only[he]
     unfold E4 at h ⊢
     simp only[Bc,and_assoc] at h ⊢
     split at h
     ·rename_i t b o k j hx hi
      try simp only[hx,hi]
      obtain ⟨a1,a2,a3⟩:=h
      exact .of a3 fun _ _ j _=>⟨a1,a2,j⟩
     ·rename_i t b i0 wd fo k j hx hi
      try simp only[hx,hi]
      obtain ⟨c0,a1,a2,a3⟩:=Ba.1 h
      exact .of a3 fun _ _ j _=>Ba.2 ⟨c0,a1,a2,j⟩
     ·rename_i row k j hx hi
      try simp only[hx,hi]
      obtain ⟨a1,a2,a3⟩:=h
      exact .of a3 fun _ _ j _=>⟨a1,a2,j⟩
     ·exact h.elim
    ·exact h.elim
   ·exact h.elim
  ·exact h.elim
 case index t x i =>
  split at h
  ·rename_i ti ht
   try simp only[ht]
   split at h
   ·rename_i hd
    try simp only[hd]
    unfold Gf at h ⊢
    simp only[Bc,and_assoc] at h ⊢
    split at h
    ·rename_i s k j hx hi
     try simp only[hx,hi]
     obtain ⟨a1,a2,a3⟩:=h
     exact .of a3 fun _ _ j _=>⟨a1,a2,j⟩
    ·exact h.elim
   ·rename_i n e hd
    try simp only[hd]
    split at h
    ·rename_i ei he
     try simp only[he]
     unfold Ga at h ⊢
     split at h
     ·rename_i cs k j hx hi
      try simp only[hx,hi]
      have h:=Ba.1 h
      simp only[Bc,and_assoc] at h
      obtain ⟨a0,a1,a2,a3⟩:=h
      exact .of a3 fun _ _ j _=>Ba.2 ⟨a0,by simp only[Bc,and_assoc];exact⟨a1,a2,j⟩⟩
     ·exact h.elim
    ·exact h.elim
   ·exact h.elim
  ·exact h.elim
 case extract x i =>
  unfold GQ at h ⊢
  split at h
  ·rename_i ds hx
   try simp only[hx]
   have h:=Ba.1 h
   exact .of h.2 fun _ _ j _=>Ba.2 ⟨h.1,j⟩
  ·exact h.elim
 case call c =>
  split at hp
  ·rename_i hc
   simp only[hc] at h
   simp only[Ef,hc]
   unfold Ek at h ⊢
   simp only at h ⊢
   split at h
   ·rename_i t x h1 h2
    simp only[h2]
    split at h
    ·rename_i ti ht
     try simp only[ht]
     obtain ⟨hl,h⟩:=Ba.1 h
     unfold RR at h ⊢
     split at h
     ·exact .of h fun _ _ j _=>Ba.2 ⟨hl,j⟩
     ·exact .of h fun _ _ j _=>Ba.2 ⟨hl,j⟩
     ·exact .of h fun _ _ j _=>Ba.2 ⟨hl,j⟩
     ·exact .of h fun _ _ j _=>Ba.2 ⟨hl,j⟩
     ·exact .of h fun _ _ j _=>Ba.2 ⟨hl,j⟩
     ·split at h
      ·rename_i y es hg
       exact⟨_,h.2,fun J j _=>Ba.2 ⟨hl,by simp only[hg];exact⟨h.1,j⟩⟩,fun hr=>by simp at hr⟩
      ·exact h.elim
     ·exact h.elim
    ·exact h.elim
   ·exact h.elim
  ·rename_i hc
   simp only[hc] at h
   simp only[hc]
   unfold Ek at h ⊢
   simp only at h ⊢
   split at h
   ·rename_i d hd;(try simp only[hd]);exact .of h fun _ _ j _=>j
   ·exact h.elim
  ·rename_i hc
   simp only[hc] at h
   simp only[hc]
   unfold Ek at h ⊢
   simp only at h ⊢
   split at h
   ·rename_i d hd;(try simp only[hd]);exact .of h fun _ _ j _=>j
   ·exact h.elim
  ·cases hp
abbrev Bm (ops:List Oper) (o:Oper):List Nat:=o.looksAt ops.toArray
def BZ(l:List Nat)(env:Env):Env:=l.map fun t=>(t,look env t)
theorem EV(env:Env)(t:Nat):∀l,look (BZ l env) t=if t∈l then look env t else .unk
 | []=>by simp[BZ,look]
 |s::l=>by
  have ih:=EV env t l
  simp only[BZ,List.map_cons,look,List.mem_cons] at ih ⊢
  by_cases e:s=t
  ·subst e;simp
  ·have e':¬t=s:=fun h=>e h.symm
   simp only[e,e',if_false,false_or];exact ih
structure Pend where
 i:Nat
 o:Oper
 e:Env
 run:Bool
 d:D
def Bbx(E:Senv):List Pend->St->Prop->Prop
 | [],_,X=>X
 |p::ps,S,X=>match p.run&&Ef p.o.op p.e with
  |true=>C9 E p.o.op p.e S (fun d _=>d=p.d) (fun _ _=>False)/\Bbx E ps S X
  |false=>Bbx E ps S X
def Mi(an:List Nat)(rest:List Nat)(j:Nat):Bool:=rest.all fun k=>!BQ an j k
def IE(an:List Nat)(ch:Nat->Bool)(rest:List Nat):Option Nat:=rest.find? fun j=>!ch j&&Mi an rest j
def BcC(f:Nat->Prop):List Nat->Prop
 | []=>True
 |j::l=>match l with
  | []=>f j
  |_=>f j/\BcC f l
theorem Ue{f:Nat->Prop}:∀ {l:List Nat},BcC f l->∀j,j∈l->f j
 | [],_,j,hj=>by cases hj
 | [i],h,j,hj=>by
  simp only[BcC] at h
  rw[List.mem_singleton] at hj;subst hj;exact h
 |i::k::l,h,j,hj=>by
  have h:f i/\BcC f (k::l):=h
  rcases List.mem_cons.1 hj with rfl | hj
  ·exact h.1
  ·exact Ue h.2 j hj
def Bea(t t':Nat):D->D
 |.ref k x o=>match Nat.beq k t with
  |true=>.ref t' x o
  |false=>.ref k x o
 |.ms k x o l c w=>match Nat.beq k t with
  |true=>.ms t' x o l c w
  |false=>.ms k x o l c w
 |.vs k x l c w=>match Nat.beq k t with
  |true=>.vs t' x l c w
  |false=>.vs k x l c w
 |.er k x i w o=>match Nat.beq k t with
  |true=>.er t' x i w o
  |false=>.er k x i w o
 |.map k x=>match Nat.beq k t with
  |true=>.map t' x
  |false=>.map k x
 |d=>d
def reT(t':Nat)(S:St)(d:D)(S':St)(K:D->St->Prop):Prop :=
 match S'.objs with
 |(t,x,o)::r=>match Nat.beq r.length S.objs.length with
  |true=>K (Bea t t' d) ⟨(t',x,o)::r,S'.toks⟩
  |false=>K d S'
 | []=>K d S'
theorem BbE{t t':Nat}{C:Ctx}{d:D}{v:Value}(h:Rep C d v):Rep C (Bea t t' d) v:=by
 unfold Bea
 split
 ·split
  ·simpa[Rep] using h
  ·exact h
 ·split
  ·simpa[Rep] using h
  ·exact h
 ·split
  ·simpa[Rep] using h
  ·exact h
 ·split
  ·simpa[Rep] using h
  ·exact h
 ·split
  ·simpa[Rep] using h
  ·exact h
 ·exact h
theorem Sat.retag{C:Ctx}{t t' x:Nat}{o:AObj}{r:List (Nat×Nat×AObj)}{k:List (Nat×Nat)}{F:St}{w:World}(H:Sat C (St.add ⟨(t,x,o)::r,k⟩ F) w):Sat C (St.add ⟨(t',x,o)::r,k⟩ F) w:=by
 obtain ⟨h1,h2,h3,h4,h5,h6,h7,h8,h9⟩:=H
 have key:∀p,p∈(St.add ⟨(t',x,o)::r,k⟩ F).objs->∃q,q∈(St.add ⟨(t,x,o)::r,k⟩ F).objs/\q.2=p.2:=by
  intro p hp
  simp only[St.add,List.cons_append,List.mem_cons] at hp ⊢
  rcases hp with rfl | hp
  ·exact⟨_,.inl rfl,rfl⟩
  ·exact⟨p,.inr hp,rfl⟩
 refine⟨h1,h2,h3,fun p hp=>?_,by simpa[St.add] using h5,fun q hq=>?_,by simpa[St.add] using h7,h8,by simpa[St.add] using h9⟩
 ·obtain ⟨q,hq,e⟩:=key p hp
  rw[<- e];exact h4 q hq
 ·obtain ⟨y,e1,e2,e3⟩:=h6 q (by simpa[St.add] using hq)
  refine⟨y,e1,e2,fun p hp=>?_⟩
  obtain ⟨q',hq',e⟩:=key p hp
  rw[<- e];exact e3 q' hq'
theorem BcE{t':Nat}{S:St}{d:D}{S':St}{K:D->St->Prop}(h:reT t' S d S' K):∃d' S'',K d' S''/\(∀C v,Rep C d v->Rep C d' v)/\∀C F w,Sat C (S'.add F) w->Sat C (S''.add F) w:=by
 unfold reT at h
 split at h
 ·rename_i t x o r ho
  split at h
  ·refine⟨_,_,h,fun C v hv=>BbE hv,fun C F w hs=>?_⟩
   have hs':Sat C (St.add ⟨(t,x,o)::r,S'.toks⟩ F) w:=by rw[<- ho];exact hs
   exact hs'.retag
  ·exact⟨d,S',h,fun _ _ h=>h,fun _ _ _ h=>h⟩
 ·exact⟨d,S',h,fun _ _ h=>h,fun _ _ _ h=>h⟩
def BeY:Op->Bool
 |.call c=>match c.callee with
  |.value _=>true
  |_=>false
 |_=>false
def reC(b:Bool)(t':Nat)(S:St)(d:D)(S':St)(K:D->St->Prop):Prop:=match b with
 |true=>K d S'
 |false=>reT t' S d S' K
theorem BaQ{b:Bool}{t':Nat}{S:St}{d:D}{S':St}{K:D->St->Prop}(h:reC b t' S d S' K):∃d' S'',K d' S''/\(∀C v,Rep C d v->Rep C d' v)/\∀C F w,Sat C (S'.add F) w->Sat C (S''.add F) w:=by
 cases b with
 |true=>exact⟨d,S',h,fun _ _ h=>h,fun _ _ _ h=>h⟩
 |false=>exact BcE h
def Cl(E:Senv)(ops:List Oper)(an:List Nat)(ch:Nat->Bool)(Q:APostT)(tb:Nat):Nat->List Nat->List Pend->Env->St->Prop
 |0,rest,_,env,S=>match rest with
  | []=>Q .normal env S
  |_=>False
 |fuel+1,rest,ps,env,S=>match IE an ch rest with
  |some i=>match ops[i]? with
   |none=>False
   |some o=>chk (Oa o.op) (C3 ops o env
     (fun env=>chk (steady E o.op (BZ (Bm ops o) env)) (C9 E o.op (BZ (Bm ops o) env) S
      (fun d S'=>Cl E ops an ch Q tb fuel (rest.erase i) (⟨i,o,BZ (Bm ops o) env,true,d⟩::ps) (putD env o.dst d) S')
      (fun _ _=>False)))
     (fun env=>Cl E ops an ch Q tb fuel (rest.erase i) (⟨i,o,BZ (Bm ops o) env,false,.tup []⟩::ps) (putD env o.dst (.tup [])) S))
  |none=>match rest with
   | []=>Q .normal env S
   |_=>BcC (fun i=>match ops[i]? with
    |none=>False
    |some o=>C3 ops o env
     (fun env=>C9 E o.op (BZ (Bm ops o) env) S
      (fun d S'=>reC (BeY o.op) (tb+i) S d S' fun d S'=>Bbx E (ps.filter fun p=>!BQ an i p.i) S' (Cl E ops an ch Q tb fuel (rest.erase i) (ps.filter fun p=>!BQ an i p.i) (putD env o.dst d) S'))
      (fun d S'=>Q (.panic d) [] S'))
     (fun env=>Cl E ops an ch Q tb fuel (rest.erase i) (ps.filter fun p=>!BQ an i p.i) (putD env o.dst (.tup [])) S)) (rest.filter fun i=>ch i&&Mi an rest i)
def Rb(o:Oper)(l:List Nat):Bool:=match o.dst with
 |some d=>l.contains d
 |none=>false
def Mq(x y:Oper):Bool:=match x.dst,y.dst with
 |some a,some b=>a==b
 |_,_=>false
def Ie:Nat->List Oper->Bool
 |_,[]=>true
 |i,o::l=>o.after.toList.all (fun e=>!Region.binds .any e||decide (e.on<i))&&Ie (i+1) l
def Ba4(x y:Oper)(ops:List Oper):Bool:=!Rb x (Bm ops y)&&!Rb y (Bm ops x)
def Bcb(ops:List Oper)(an:List Nat)(i j:Nat):Bool :=
 match ops[i]?,ops[j]? with
 |some x,some y=>Nat.beq i j||BQ an j i||BQ an i j||Ba4 x y ops
 |_,_=>false
def Ro(ops:List Oper):List Nat->Bool
 | []=>true
 |i::l=>(match ops[i]? with
  |some o=>l.all fun j=>match ops[j]? with
   |some o'=>!Mq o o'
   |none=>false
  |none=>false)&&!l.contains i&&Ro ops l
def RE(ops:List Oper)(an:List Nat)(n:Nat):Bool :=
 (List.range ops.length).all (fun i=>(List.range ops.length).all fun j=>Bcb ops an i j)&&Ro ops (List.range ops.length)&&ops.all (fun o=>Cq n o.dst)&&Ie 0 ops
theorem U7:∀ {l:List Oper} {k:Nat},Ie k l=true->∀i o,l[i]? =some o->∀e,e∈o.after.toList->Region.binds .any e=true->e.on<k+i
 | [],_,_,i,o,ho=>by simp at ho
 |p::l,k,h,0,o,ho=>by
  simp only[Ie,Bool.and_eq_true] at h
  simp at ho;subst ho
  intro e he hb
  have:=List.all_eq_true.1 h.1 e he
  simpa[hb] using this
 |p::l,k,h,i+1,o,ho=>by
  simp only[Ie,Bool.and_eq_true] at h
  intro e he hb
  have:=U7 h.2 i o (by simpa using ho) e he hb
  omega
def GuardIs(ops:List Oper)(o:Oper)(env:Env)(run:Bool):Prop :=
 match o.guard with
 |none=>run=true
 |some (j,want)=>∃oj d,ops[j]? =some oj/\oj.dst=some d/\((∃b,look env d=.bool b/\run=(b==want))\/(look env d=.tup []/\run=false))
theorem MP{ops : List Oper}{o : Oper}{env : Env}{run skip : Env -> Prop}(h : C3 ops o env run skip) :
  ∃env' r,(∀t,look env' t=look env t)/\GuardIs ops o env' r/\((r=true/\run env')\/(r=false/\skip env')):=by
 unfold C3 at h
 unfold GuardIs
 split at h
 ·rename_i hg;(try simp only[hg]);exact⟨env,true,fun _=>rfl,rfl,.inl ⟨rfl,h⟩⟩
 ·rename_i j want hg
  (try simp only[hg])
  split at h
  ·rename_i oj hj
   split at h
   ·rename_i d hd
    split at h
    ·rename_i b hl
     have hlk:∀t,look ((d,D.bool b)::env) t=look env t:=by
      intro t;simp only[look];split
      ·rename_i e;subst e;exact hl.symm
      ·rfl
     refine⟨(d,.bool b)::env,b==want,hlk,⟨oj,d,hj,hd,.inl ⟨b,by simp[look],rfl⟩⟩,?_⟩
     cases want<;>simp only at h<;>have h:=Ck h<;>cases b
     ·exact .inl ⟨rfl,h.2 rfl⟩
     ·exact .inr ⟨rfl,h.1 rfl⟩
     ·exact .inr ⟨rfl,h.2 rfl⟩
     ·exact .inl ⟨rfl,h.1 rfl⟩
    ·rename_i hl
     exact⟨env,false,fun _=>rfl,⟨oj,d,hj,hd,.inr ⟨hl,rfl⟩⟩,.inr ⟨rfl,h⟩⟩
    ·exact h.elim
   ·exact h.elim
  ·exact h.elim
theorem I4{ops:List Oper}{o:Oper}{env:Env}{r:Bool}(h:GuardIs ops o env r):GuardIs ops o (BZ (Bm ops o) env) r:=by
 unfold GuardIs at h ⊢
 split
 ·rename_i hg;simp only[hg] at h;exact h
 ·rename_i j want hg
  simp only[hg] at h
  obtain ⟨oj,d,h1,h2,h3⟩:=h
  have hm:d∈Bm ops o:=by
   unfold Bm Oper.looksAt
   rw[hg]
   simp[h1,h2]
  have:=EV env d (Bm ops o)
  rw[if_pos hm] at this
  exact⟨oj,d,h1,h2,by rw[this];exact h3⟩
theorem Ih{ops:List Oper}{o:Oper}{env:Env}{r:Bool}{C:Ctx}{tmps:Array Value}(h:GuardIs ops o env r)(he:RepEnv C env tmps):Region.wanted o (yielded ops.toArray tmps)=r:=by
 unfold GuardIs at h
 unfold Region.wanted
 split
 ·rename_i hg;simp only[hg] at h;exact h.symm
 ·rename_i j want hg
  simp only[hg] at h
  obtain ⟨oj,d,h1,h2,h3⟩:=h
  have hr:=he d
  rcases h3 with ⟨b,hl,rfl⟩ | ⟨hl,rfl⟩
  ·rw[hl] at hr
   simp only[Rep] at hr
   have ht:tmps[d]? =some (.bool b):=by
    cases hq:tmps[d]? with
    |none=>simp[Array.getD_eq_getD_getElem?,hq,undef] at hr
    |some v=>simp[Array.getD_eq_getD_getElem?,hq] at hr;rw[hr]
   have:yielded ops.toArray tmps j=some b:=by simp[yielded,h1,h2,ht]
   rw[this]
   cases b<;>cases want<;>rfl
  ·rw[hl] at hr
   simp only[Rep,RepL] at hr
   obtain ⟨vs,hr,_⟩:=hr
   have:yielded ops.toArray tmps j=none:=by
    cases hq:tmps[d]? with
    |none=>simp[yielded,h1,h2,hq]
    |some v=>simp[Array.getD_eq_getD_getElem?,hq] at hr;simp[yielded,h1,h2,hq,hr]
   simp[this]
section
variable {E:Senv} {ops:List Oper} {an:List Nat} {ch:Nat->Bool} {Q:APostT}
structure PendOk (E:Senv) (ops:List Oper) (C:Ctx) (L:Nat->Bool) (tm:Nat->Value) (S:St) (p:Pend) (qs:List Pend):Prop where
 op:ops[p.i]? =some p.o
 pure:Oa p.o.op=true
 steady:p.run=true->steady E p.o.op p.e=true
 guard:GuardIs ops p.o p.e p.run
 val:p.run=true->C9 E p.o.op p.e S (fun d S'=>d=p.d/\S'=S) (fun _ _=>False)
 free:p.run=true->Ef p.o.op p.e=false->∀S',C9 E p.o.op p.e S' (fun d S''=>d=p.d/\S''=S') (fun _ _=>False)
 skip:p.run=false->p.d=.tup []
 out:∀t,t ∉ Bm ops p.o->look p.e t=.unk
 rep:∀t,(∀q,q∈qs->L q.i=false->q.o.dst≠some t)->Rep C (look p.e t) (tm t)
 old:∀q,q∈qs->L q.i=false->∀t,q.o.dst=some t->t∈Bm ops p.o->look p.e t=q.d
def AllPend(E:Senv)(ops:List Oper)(C:Ctx)(L:Nat->Bool)(tm:Nat->Value)(S:St):List Pend->Prop
 | []=>True
 |p::ps=>(L p.i=false->PendOk E ops C L tm S p ps)/\AllPend E ops C L tm S ps
structure Inv (E:Senv) (ops:List Oper) (an:List Nat) (ch:Nat->Bool) (Q:APostT) (tb n:Nat) (C:Ctx) (L:Nat->Bool) (tm:Nat->Value) (rest:List Nat) (ps:List Pend) (env:Env) (S:St):Prop where
 can:Cl E ops an ch Q tb n rest ps env S
 un:∀i,i∈rest->L i=false
 all:∀i,i<ops.length->L i=false->i∈rest\/∃p,p∈ps/\p.i=i
 rep:∀t,(∀q,q∈ps->L q.i=false->q.o.dst≠some t)->Rep C (look env t) (tm t)
 cur:∀q,q∈ps->L q.i=false->∀t,q.o.dst=some t->look env t=q.d
 ok:AllPend E ops C L tm S ps
 pp:(ps.map (·.i)).Pairwise fun j i=>BQ an i j=false
 pr:∀p,p∈ps->∀j,j∈rest->BQ an p.i j=false
 lt:∀i,i∈rest->i<ops.length
 nd:∀p,p∈ps->p.i ∉ rest
 ndp:(ps.map (·.i)).Nodup
 ndr:rest.Nodup
 op:∀p,p∈ps->ops[p.i]? =some p.o
 plt:∀p,p∈ps->p.i<ops.length
def Apart(ops:List Oper)(an:List Nat):Prop:=∀i j x y,i≠j->ops[i]? =some x->ops[j]? =some y->BQ an i j=false->BQ an j i=false->(∀t,x.dst=some t->t ∉ Bm ops y)/\(∀t,y.dst=some t->t ∉ Bm ops x)
theorem AllPend.mem{C:Ctx}{L:Nat->Bool}{tm:Nat->Value}{S:St}:∀ {ps:List Pend},AllPend E ops C L tm S ps->∀p,p∈ps->L p.i=false->∃pre qs,PendOk E ops C L tm S p qs/\ps=pre++p::qs
 | [],_,p,hp,_=>by cases hp
 |q::ps,h,p,hp,hl=>by
  rcases List.mem_cons.1 hp with rfl | hp
  ·exact⟨[],ps,h.1 hl,rfl⟩
  ·obtain ⟨pre,qs,h1,h2⟩:=AllPend.mem h.2 p hp hl
   exact⟨q::pre,qs,h1,by rw[h2];rfl⟩
theorem AllPend.imp{C C' : Ctx}{L L' : Nat -> Bool}{tm tm' : Nat -> Value}{S S' : St} : ∀ {ps : List Pend}, AllPend E ops C L tm S ps ->
  (∀pre p qs,ps=pre++p::qs->L' p.i=false->L p.i=false/\(PendOk E ops C L tm S p qs->PendOk E ops C' L' tm' S' p qs))->AllPend E ops C' L' tm' S' ps
 | [],_,_=>trivial
 |p::ps,h,k=>⟨fun hl=>let ⟨h1,h2⟩:=k [] p ps rfl hl;h2 (h.1 h1),AllPend.imp h.2 fun pre q qs hs=>k (p::pre) q qs (by rw[hs];rfl)⟩
theorem AllPend.filter{C:Ctx}{L:Nat->Bool}{tm:Nat->Value}{S:St}(f:Pend->Bool):∀ {ps:List Pend},(∀p,p∈ps->f p=false->L p.i=true)->AllPend E ops C L tm S ps->AllPend E ops C L tm S (ps.filter f)
 | [],_,_=>trivial
 |p::ps,hf,h=>by
  have ih:=AllPend.filter f (fun p hp=>hf p (by simp[hp])) h.2
  simp only[List.filter_cons]
  split
  ·refine⟨fun hl=>?_,ih⟩
   have H:=h.1 hl
   refine⟨H.op,H.pure,H.steady,H.guard,H.val,H.free,H.skip,H.out,fun t ht=>H.rep t fun q hq hql=>?_,fun q hq=>H.old q (List.mem_filter.1 hq).1⟩
   by_cases hfq:f q=true
   ·exact ht q (List.mem_filter.2 ⟨hq,hfq⟩) hql
   ·have:=hf q (by simp[hq]) (by simpa using hfq)
    rw[this] at hql;cases hql
  ·exact ih
theorem GJ(env:Env)(dst:Option Nat)(d:D)(t:Nat):look (putD env dst d) t=if dst=some t then d else look env t:=by
 cases dst with
 |none=>simp[putD]
 |some s=>simp[putD,look]
theorem Rt:∀ {l:List Nat},Ro ops l=true->∀i j x y,i∈l->j∈l->i≠j->ops[i]? =some x->ops[j]? =some y->∀d,x.dst=some d->y.dst≠some d
 | [],_,i,_,_,_,h,_,_,_,_=>by cases h
 |k::l,h,i,j,x,y,hi,hj,hne,hx,hy=>by
  simp only[Ro,Bool.and_eq_true] at h
  obtain ⟨⟨h1,_⟩,h3⟩:=h
  have key:∀(j:Nat) (o x y:Oper),ops[k]? =some o->j∈l->ops[j]? =some y->Mq o y=false:=by
   intro j o x y ho hj hy
   rw[ho] at h1
   have:=List.all_eq_true.1 h1 j hj
   rw[hy] at this
   simpa using this
  rcases List.mem_cons.1 hi with rfl | hi1<;>rcases List.mem_cons.1 hj with rfl | hj1
  ·exact (hne rfl).elim
  ·have:=key j x x y hx hj1 hy
   intro d hd hd'
   simp[Mq,hd,hd'] at this
  ·have:=key i y x x hy hi1 hx
   intro d hd hd'
   simp[Mq,hd,hd'] at this
  ·exact Rt h3 i j x y hi1 hj1 hne hx hy
theorem Closed.no{L : Nat -> Bool}(hc : Closed ops L)(hlt : ∀i o, ops[i]? =some o -> ∀e, e∈o.after.toList -> Region.binds .any e=true -> e.on<i){i k : Nat}(hr : ∀o, ops[i]? =some o -> ∀e, e∈o.after.toList -> Region.binds .any e=true -> L e.on=true)
  (hk:L k=false):BQ (EA ops []) i k=false:=by
 cases h:BQ (EA ops []) i k with
 |false=>rfl
 |true=>rw[Closed.anc hc hlt (i+1) i k (by omega) h hr] at hk;cases hk
theorem Tz{tb : Nat}{C : Ctx}{L : Nat -> Bool}{tm : Nat -> Value}{S : St} : ∀(n : Nat) (rest : List Nat) (ps : List Pend) (env : Env), Inv E ops an ch Q tb n C L tm rest ps env S ->
  (hnew:∀i j x y,i<ops.length->j<ops.length->i≠j->ops[i]? =some x->ops[j]? =some y->∀d,x.dst=some d->y.dst≠some d) ->
  ∃n' rest' ps' env',Inv E ops an ch Q tb n' C L tm rest' ps' env' S/\IE an ch rest'=none
 |0,rest,ps,env,H,_=>by
  refine⟨0,rest,ps,env,H,?_⟩
  have hcan:=H.can
  simp only[Cl] at hcan
  split at hcan
  ·rfl
  ·exact hcan.elim
 |n+1,rest,ps,env,H,hnew=>by
  cases hpk:IE an ch rest with
  |none=>exact⟨n+1,rest,ps,env,H,hpk⟩
  |some i =>
   have hcan:=H.can
   simp only[Cl,hpk] at hcan
   have him:i∈rest:=List.mem_of_find?_eq_some hpk
   have hrd:=List.find?_some hpk
   simp only[Bool.and_eq_true,Bool.not_eq_true'] at hrd
   have hra:∀k,k∈rest->BQ an i k=false:=fun k hk=>by
    have:=List.all_eq_true.1 hrd.2 k hk
    simpa using this
   have hmem:∀j,j∈rest.erase i->j∈rest/\j≠i:=fun j hj=>⟨List.mem_of_mem_erase hj,fun e=>by
    subst e;exact (H.ndr.not_mem_erase) hj⟩
   split at hcan
   ·exact hcan.elim
   ·rename_i o ho
    obtain ⟨hp,hg⟩:=Ba.1 hcan
    obtain ⟨env',r,hl,hG,hcase⟩:=MP hg
    have hG':=I4 hG
    have hlk:∀t,look (BZ (Bm ops o) env') t=if t∈Bm ops o then look env t else .unk:=by
     intro t;rw[EV];split
     ·exact hl t
     ·rfl
    have mk : ∀(d : D), (r=true -> steady E o.op (BZ (Bm ops o) env')=true) -> (r=true -> C9 E o.op (BZ (Bm ops o) env') S (fun d' S'=>d'=d /\ S'=S) (fun _ _=>False)) ->
      (r=true->Ef o.op (BZ (Bm ops o) env')=false->∀S',C9 E o.op (BZ (Bm ops o) env') S' (fun d' S''=>d'=d/\S''=S') (fun _ _=>False)) ->
      (r=false->d=.tup [])->Cl E ops an ch Q tb n (rest.erase i) (⟨i,o,BZ (Bm ops o) env',r,d⟩::ps) (putD env' o.dst d) S ->
      Inv E ops an ch Q tb n C L tm (rest.erase i) (⟨i,o,BZ (Bm ops o) env',r,d⟩::ps) (putD env' o.dst d) S:=by
     intro d hsd hv hf hs hc
     have hiL:L i=false:=H.un i him
     have hilt:=H.lt i him
     refine⟨hc,fun j hj=>H.un j (hmem j hj).1,?_,?_,?_,⟨fun _=>⟨ho,hp,hsd,hG',hv,hf,hs,?_,?_,?_⟩,H.ok⟩,?_,?_,fun j hj=>H.lt j (hmem j hj).1,?_,?_,H.ndr.erase i,?_,?_⟩
     ·intro j hj hjl
      rcases H.all j hj hjl with h | ⟨p,h1,h2⟩
      ·by_cases e:j=i
       ·subst e;exact .inr ⟨_,List.mem_cons_self ..,rfl⟩
       ·exact .inl ((List.mem_erase_of_ne e).2 h)
      ·exact .inr ⟨p,List.mem_cons_of_mem _ h1,h2⟩
     ·intro t ht
      rw[GJ,if_neg (ht _ (List.mem_cons_self ..) hiL),hl]
      exact H.rep t fun q hq=>ht q (List.mem_cons_of_mem _ hq)
     ·intro q hq hql t ht
      rw[GJ]
      rcases List.mem_cons.1 hq with rfl | hq
      ·rw[if_pos ht]
      ·have hne:i≠q.i:=fun e=>H.nd q hq (by rw[<- e];exact him)
       have:o.dst≠some t:=hnew q.i i q.o o (H.plt q hq) hilt (Ne.symm hne) (H.op q hq) ho t ht
       rw[if_neg this,hl];exact H.cur q hq hql t ht
     ·intro t ht
      show look (BZ (Bm ops o) env') t=.unk
      rw[hlk,if_neg ht]
     ·intro t ht
      show Rep C (look (BZ (Bm ops o) env') t) (tm t)
      rw[hlk];split
      ·exact H.rep t fun q hq=>ht q hq
      ·simp[Rep]
     ·intro q hq hql t ht htr
      show look (BZ (Bm ops o) env') t=q.d
      rw[hlk,if_pos htr];exact H.cur q hq hql t ht
     ·simp only[List.map_cons]
      exact List.pairwise_cons.2 ⟨fun j hj=>by
       obtain ⟨p,hp,rfl⟩:=List.mem_map.1 hj
       exact H.pr p hp i him,H.pp⟩
     ·intro p hp j hj
      rcases List.mem_cons.1 hp with rfl | hp
      ·exact hra j (hmem j hj).1
      ·exact H.pr p hp j (hmem j hj).1
     ·intro p hp
      rcases List.mem_cons.1 hp with rfl | hp
      ·exact fun h=>(hmem _ h).2 rfl
      ·exact fun h=>H.nd p hp (hmem _ h).1
     ·simp only[List.map_cons,List.nodup_cons]
      refine⟨fun h=>?_,H.ndp⟩
      obtain ⟨p,hp,e⟩:=List.mem_map.1 h
      exact H.nd p hp (by rw[e];exact him)
     ·intro p hp
      rcases List.mem_cons.1 hp with rfl | hp
      ·exact ho
      ·exact H.op p hp
     ·intro p hp
      rcases List.mem_cons.1 hp with rfl | hp
      ·exact hilt
      ·exact H.plt p hp
    rcases hcase with ⟨rfl,hrun⟩ | ⟨rfl,hskip⟩
    ·obtain ⟨hsd,hrun⟩:=Ba.1 hrun
     obtain ⟨d,hk,hv,hf⟩:=M2 hp hsd hrun
     exact Tz n _ _ _ (mk d (fun _=>hsd) (fun _=>hv (fun d' S'=>d'=d/\S'=S) ⟨rfl,rfl⟩ _) (fun _ hr S'=>hf hr S' (fun d' S''=>d'=d/\S''=S') ⟨rfl,rfl⟩ _) (fun h=>by cases h) hk) hnew
    ·exact Tz n _ _ _ (mk (.tup []) (fun h=>by cases h) (fun h=>by cases h) (fun h=>by cases h) (fun _=>rfl) hskip) hnew
end
section
variable {E:Senv} {ops:List Oper} {ch:Nat->Bool} {Q:APostT} {C0 C C':Ctx} {F S:St} {dfs:List Deferred}
def more(L:Nat->Bool)(i:Nat):Nat->Bool:=fun j=>(j==i)||L j
theorem Cc{L:Nat->Bool}{i j:Nat}(h:more L i j=false):j≠i/\L j=false:=by
 simpa[more] using h
def OF(a:Act):Nat->Value:=fun t=>a.tmps.getD t undef
theorem TY{a:Act}{o:Oper}{v:Value}(hok:Cq a.tmps.size o.dst=true)(t:Nat):OF (a.put o.dst v) t=if o.dst=some t then v else OF a t:=by
 unfold OF
 cases h:o.dst with
 |none=>simp[Act.put]
 |some d =>
  have hlt:d<a.tmps.size:=by rw[h] at hok;simpa[Cq] using hok
  by_cases e:d=t
  ·subst e;simp[Act.put,hlt]
  ·simp[Act.put,e]
theorem IX{X:Prop}:∀ {ps:List Pend} {S:St},Bbx E ps S X->X/\∀p,p∈ps->p.run=true->Ef p.o.op p.e=true->C9 E p.o.op p.e S (fun d _=>d=p.d) (fun _ _=>False)
 | [],_,h=>⟨h,fun _ hp=>by cases hp⟩
 |q::ps,S,h=>by
  simp only[Bbx] at h
  split at h
  ·obtain ⟨h1,h2⟩:=IX h.2
   refine⟨h1,fun p hp hr hs=>?_⟩
   rcases List.mem_cons.1 hp with rfl | hp
   ·exact h.1
   ·exact h2 p hp hr hs
  ·rename_i hf
   obtain ⟨h1,h2⟩:=IX h
   refine⟨h1,fun p hp hr hs=>?_⟩
   rcases List.mem_cons.1 hp with rfl | hp
   ·rw[hr,hs] at hf;cases hf
   ·exact h2 p hp hr hs
theorem RQ{α β:Type}{f:α->β}:∀ {l:List α},(l.map f).Nodup->∀ {a b},a∈l->b∈l->f a=f b->a=b
 | [],_,_,_,h,_,_=>by cases h
 |x::l,h,a,b,ha,hb,e=>by
  simp only[List.map_cons,List.nodup_cons] at h
  rcases List.mem_cons.1 ha with q1 | q1<;>rcases List.mem_cons.1 hb with q2 | q2
  ·rw[q1,q2]
  ·exact (h.1 (List.mem_map.2 ⟨b,q2,by rw[<- e,q1]⟩)).elim
  ·exact (h.1 (List.mem_map.2 ⟨a,q1,by rw[e,q2]⟩)).elim
  ·exact RQ h.2 q1 q2 e
theorem Inv.done{an : List Nat}{tb n : Nat}{L : Nat -> Bool}{a : Act}{rest : List Nat}{ps : List Pend}{env : Env}(hap : Apart ops an)(H : Inv E ops an ch Q tb n C L (OF a) rest ps env S)(hle : C.le C'){p : Pend}(hp : p∈ps)(hl : L p.i=false)
  (hna:∀k,L k=false->BQ an p.i k=false) (hok:Cq a.tmps.size p.o.dst=true) {v:Value} (hv:Rep C' p.d v) :
  Inv E ops an ch Q tb n C' (more L p.i) (OF (a.put p.o.dst v)) rest ps env S:=by
 have uniq:∀q,q∈ps->q.i=p.i->q=p:=by
  intro q hq e
  exact RQ H.ndp hq hp e
 refine⟨H.can,?_,?_,?_,?_,?_,H.pp,H.pr,H.lt,H.nd,H.ndp,H.ndr,H.op,H.plt⟩
 ·intro i hi
  have:i≠p.i:=fun e=>H.nd p hp (e ▸ hi)
  simp[more,this,H.un i hi]
 ·intro i hi hil
  exact H.all i hi (Cc hil).2
 ·intro t ht
  rw[TY hok]
  split
  ·rename_i hd
   rw[H.cur p hp hl t hd];exact hv
  ·rename_i hd
   refine Rep.mono hle _ _ (H.rep t fun q hq hql=>?_)
   by_cases e:q.i=p.i
   ·rw[uniq q hq e];exact hd
   ·exact ht q hq (by simp[more,e,hql])
 ·intro q hq hql
  exact H.cur q hq (Cc hql).2
 ·refine H.ok.imp ?_
  intro pre p' qs hps hl'
  obtain ⟨hne,hl0⟩:=Cc hl'
  refine⟨hl0,fun P=>⟨P.op,P.pure,P.steady,P.guard,P.val,P.free,P.skip,P.out,?_,?_⟩⟩
  ·intro t ht
   rw[TY hok]
   by_cases htr:t∈Bm ops p'.o
   ·split
    ·rename_i hd
     have hp':p∈pre++p'::qs:=hps ▸ hp
     rcases List.mem_append.1 hp' with h | h
     ·have hpw:=H.pp
      rw[hps,List.map_append,List.pairwise_append] at hpw
      have hpair:=hpw.2.2 p.i (List.mem_map.2 ⟨p,h,rfl⟩) p'.i (by simp)
      have hpo:=H.op p hp
      have:=(hap p'.i p.i p'.o p.o hne P.op hpo hpair (hna _ hl0)).2 t hd
      exact (this htr).elim
     ·rcases List.mem_cons.1 h with rfl | h
      ·exact (hne rfl).elim
      ·rw[P.old p h hl t hd htr];exact hv
    ·rename_i hd
     refine Rep.mono hle _ _ (P.rep t fun q hq hql=>?_)
     by_cases e:q.i=p.i
     ·rw[uniq q (by rw[hps];simp[hq]) e];exact hd
     ·exact ht q hq (by simp[more,e,hql])
   ·rw[P.out t htr];simp[Rep]
  ·intro q hq hql
   exact P.old q hq (Cc hql).2
theorem Inv.chain{an : List Nat}{tb n n' : Nat}{L : Nat -> Bool}{a : Act}{c : Nat}{rest : List Nat}{ps : List Pend}{env env' : Env}{S' : St}{o : Oper}(hap : Apart ops an)(H : Inv E ops an ch Q tb n C L (OF a) rest ps env S)(hcr : c∈rest)(hle : C.le C')(ho : ops[c]? =some o)
  (hna:∀k,L k=false->BQ an c k=false) (hok:Cq a.tmps.size o.dst=true) {d:D} {v:Value} (hv:Rep C' d v) (hlk:∀t,look env' t=look env t)
  (hnew:∀i j x y,i<ops.length->j<ops.length->i≠j->ops[i]? =some x->ops[j]? =some y->∀d,x.dst=some d->y.dst≠some d)
  (hcan:Cl E ops an ch Q tb n' (rest.erase c) (ps.filter fun p=>!BQ an c p.i) (putD env' o.dst d) S')
  (hst:∀p,p∈ps.filter (fun p=>!BQ an c p.i)->p.run=true->S'=S\/(Ef p.o.op p.e=true->C9 E p.o.op p.e S' (fun d _=>d=p.d) (fun _ _=>False))) :
  Inv E ops an ch Q tb n' C' (more L c) (OF (a.put o.dst v)) (rest.erase c) (ps.filter fun p=>!BQ an c p.i) (putD env' o.dst d) S':=by
 have hclt:c<ops.length:=H.lt c hcr
 have hmem:∀j,j∈rest.erase c->j∈rest/\j≠c:=fun j hj=>⟨List.mem_of_mem_erase hj,fun e=>by
  subst e;exact (H.ndr.not_mem_erase) hj⟩
 have mem:∀p,p∈ps->L p.i=false->p∈ps.filter (fun p=>!BQ an c p.i):=fun p hp hl=>List.mem_filter.2 ⟨hp,by simp[hna _ hl]⟩
 have neq:∀p,p∈ps->p.i≠c:=fun p hp e=>H.nd p hp (by rw[e];exact hcr)
 have hsub:(ps.filter fun p=>!BQ an c p.i).Sublist ps:=List.filter_sublist
 refine⟨hcan,?_,?_,?_,?_,?_,H.pp.sublist (hsub.map _),fun p hp j hj=>H.pr p (hsub.subset hp) j (hmem j hj).1,fun i hi=>H.lt i (hmem i hi).1,fun p hp h=>H.nd p (hsub.subset hp) (hmem _ h).1,(hsub.map _).nodup H.ndp,H.ndr.erase c,fun p hp=>H.op p (hsub.subset hp),fun p hp=>H.plt p (hsub.subset hp)⟩
 ·intro i hi
  simp[more,(hmem i hi).2,H.un i (hmem i hi).1]
 ·intro i hi hil
  obtain ⟨hne,hl⟩:=Cc hil
  rcases H.all i hi hl with h | ⟨p,h1,h2⟩
  ·exact .inl ((List.mem_erase_of_ne hne).2 h)
  ·exact .inr ⟨p,mem p h1 (h2 ▸ hl),h2⟩
 ·intro t ht
  rw[TY hok,GJ]
  split
  ·exact hv
  ·rw[hlk]
   exact Rep.mono hle _ _ (H.rep t fun q hq hql=>ht q (mem q hq hql) (by simp[more,neq q hq,hql]))
 ·intro q hq hql t ht
  have hq':=hsub.subset hq
  have hqo:=H.op q hq'
  have hqlt:q.i<ops.length:=H.plt q hq'
  rw[GJ,if_neg (hnew q.i c q.o o hqlt hclt (neq q hq') hqo ho t ht),hlk]
  exact H.cur q hq' (Cc hql).2 t ht
 ·have h1:AllPend E ops C L (OF a) S (ps.filter fun p=>!BQ an c p.i):=by
   refine H.ok.filter _ fun p hp hf=>?_
   cases hl:L p.i with
   |true=>rfl
   |false=>rw[hna _ hl] at hf;cases hf
  refine h1.imp ?_
  intro pre p qs hps hl'
  obtain ⟨hne,hl0⟩:=Cc hl'
  have hpm:p∈ps.filter (fun p=>!BQ an c p.i):=by rw[hps];simp
  refine⟨hl0,fun P=>⟨P.op,P.pure,P.steady,P.guard,?_,P.free,P.skip,P.out,?_,?_⟩⟩
  ·intro hr
   rcases hst p hpm hr with rfl | h
   ·exact P.val hr
   ·cases hs:Ef p.o.op p.e with
    |false=>exact P.free hr hs S'
    |true =>
     obtain ⟨d',e1,e2,_⟩:=M2 P.pure (P.steady hr) (h hs)
     exact e2 (fun d S''=>d=p.d/\S''=S') ⟨e1,rfl⟩ _
  ·intro t ht
   rw[TY hok]
   by_cases htr:t∈Bm ops p.o
   ·split
    ·rename_i hd
     have hpair:=H.pr p (hsub.subset hpm) c hcr
     exact ((hap p.i c p.o o hne P.op ho hpair (hna _ hl0)).2 t hd htr).elim
    ·refine Rep.mono hle _ _ (P.rep t fun q hq hql=>ht q hq ?_)
     have hqm:q∈ps:=hsub.subset (by rw[hps];simp[hq])
     simp[more,neq q hqm,hql]
   ·rw[P.out t htr];simp[Rep]
  ·intro q hq hql
   exact P.old q hq (Cc hql).2
end
section
variable {E:Senv} {ops:List Oper} {ch:Nat->Bool} {Q:APostT} {C0:Ctx} {F:St} {dfs:List Deferred}
abbrev lst (listed:Array Bool):Nat->Bool:=fun i=>listed.getD i false
theorem BcQ{listed:Array Bool}{i:Nat}(h:i<listed.size):lst (listed.setIfInBounds i true)=more (lst listed) i:=by
 funext j
 unfold lst more
 by_cases e:i=j
 ·subst e;simp[h]
 ·have e':¬j=i:=fun h=>e h.symm
  simp[e,e']
def left(n:Nat)(L:Nat->Bool):Nat:=(List.range n).countP fun i=>!L i
theorem BaE{n:Nat}{L:Nat->Bool}{i:Nat}(hi:i<n)(hl:L i=false):left n (more L i)<left n L:=by
 have key:∀(l:List Nat),l.countP (fun j=>!more L i j)<=l.countP (fun j=>!L j)/\(i∈l->l.countP (fun j=>!more L i j)<l.countP (fun j=>!L j)):=by
  intro l
  induction l with
  |nil=>simp
  |cons k l ih =>
   simp only[List.countP_cons]
   by_cases e:k=i
   ·subst e
    simp only[more,beq_self_eq_true,Bool.true_or,Bool.not_true,Bool.false_eq_true,if_false,hl,Bool.not_false,if_true]
    have:=ih.1
    simp only[more] at this
    refine⟨by omega,fun _=>by omega⟩
   ·have e':¬i=k:=fun h=>e h.symm
    have hm:more L i k=L k:=by simp[more,e]
    rw[hm]
    refine⟨by have:=ih.1;omega,fun h=>?_⟩
    rcases List.mem_cons.1 h with h | h
    ·exact (e' h).elim
    ·have:=ih.2 h;omega
 exact (key (List.range n)).2 (List.mem_range.2 hi)
theorem Closed.more{L:Nat->Bool}(h:Closed ops L){i:Nat}(hi:∀o,ops[i]? =some o->∀e,e∈o.after.toList->Region.binds .any e=true->L e.on=true):Closed ops (more L i):=by
 intro j o hj hl e he hb
 by_cases hji:j=i
 ·subst hji;simp[Ab.more,hi o hj e he hb]
 ·have:L j=true:=by simpa[Ab.more,hji] using hl
  simp[Ab.more,h j o hj this e he hb]
theorem RO{an:List Nat}{tb n:Nat}{ps:List Pend}{env:Env}{S:St}(h:Cl E ops an ch Q tb n [] ps env S):Q .normal env S:=by
 cases n with
 |zero=>simpa[Cl] using h
 |succ n=>simpa[Cl,IE] using h
theorem Bal(hT : EnvOk E)(hdst : ops.all (fun o=>Cq E.n o.dst)=true)
  (hlt:∀i o,ops[i]? =some o->∀e,e∈o.after.toList->Region.binds .any e=true->e.on<i)
  (hap:Apart ops (EA ops [])) (tb:Nat) (hnew:∀i j x y,i<ops.length->j<ops.length->i≠j->ops[i]? =some x->ops[j]? =some y->∀d,x.dst=some d->y.dst≠some d) :
  ∀(fuel:Nat) (listed:Array Bool) (C:Ctx) (n:Nat) (rest:List Nat) (ps:List Pend) (env:Env) (S:St) (a:Act) (w:World),listed.size=ops.length->left ops.length (lst listed)<=fuel->Closed ops (lst listed) ->
   C0.le C->a.tmps.size=E.n->a.defers=dfs->Sat C (S.add F) w->Inv E ops (EA ops []) ch Q tb n C (lst listed) (OF a) rest ps env S ->
   wpAny E.P .any ops.toArray (APost C0 F E.n dfs Q) fuel listed a w:=by
 intro fuel
 induction fuel with
 |zero =>
  intro listed C n rest ps env S a w hsz hleft hcl h0 h2 h3 h4 H
  have hall:∀i,i<ops.length->lst listed i=true:=by
   intro i hi
   have:left ops.length (lst listed)=0:=by omega
   have:=List.countP_eq_zero.1 this i (List.mem_range.2 hi)
   simpa using this
  refine⟨?_,?_⟩
  ·apply List.eq_nil_iff_forall_not_mem.2
   intro i hi
   obtain ⟨h1,o,ho,_⟩:=mem_ready.1 hi
   have hlt':i<ops.length:=by
    have:=(Array.getElem?_eq_some_iff.1 ho).1
    simpa using this
   have:=hall i hlt'
   unfold lst at this
   rw[<- hsz] at hlt'
   simp[hlt'] at h1 this
   rw[h1] at this;cases this
  ·cases rest with
   |nil =>
    have hc:=RO H.can
    refine⟨C,.normal,env,S,h0,fun t=>H.rep t fun q hq hql=>?_,h2,h3,h4,trivial,hc⟩
    have hqo:=H.op q hq
    have hqlt:q.i<ops.length:=by
     rcases Nat.lt_or_ge q.i ops.length with h | h
     ·exact h
     ·rw[List.getElem?_eq_none_iff.2 h] at hqo;cases hqo
    rw[hall _ hqlt] at hql;cases hql
   |cons i l =>
    have:=H.un i (by simp)
    rw[hall i (H.lt i (by simp))] at this;cases this
 |succ fuel ih =>
  intro listed C n rest ps env S a w hsz hleft hcl h0 h2 h3 h4 H
  obtain ⟨n,rest,ps,env,H,hpos⟩:=Tz n rest ps env H hnew
  refine⟨fun hr=>?_,fun i hi=>?_⟩
  ·-- all are done
   have hall:∀n i,i<n->i<ops.length->lst listed i=true:=by
    intro n
    induction n with
    |zero=>intro i hi;omega
    |succ n ihn =>
     intro i hi hil
     cases hL:lst listed i with
     |true=>rfl
     |false =>
      have hm:i∈Region.ready .any ops.toArray listed:=by
       refine mem_ready.2 ⟨?_,ops[i],by simp[hil],?_⟩
       ·unfold lst at hL
        have hil':i<listed.size:=by omega
        simp[hil'] at hL ⊢; exact hL
       ·intro e he hb
        have hlt':=hlt i ops[i] (by simp[hil]) e (by simpa using he) hb
        exact ihn e.on (by omega) (by omega)
      rw[hr] at hm;cases hm
   have hall:=fun i h=>hall (i+1) i (by omega) h
   cases rest with
   |nil =>
    have hc:=RO H.can
    refine⟨C,.normal,env,S,h0,fun t=>H.rep t fun q hq hql=>?_,h2,h3,h4,trivial,hc⟩
    have hqo:=H.op q hq
    have hqlt:q.i<ops.length:=by
     rcases Nat.lt_or_ge q.i ops.length with h | h
     ·exact h
     ·rw[List.getElem?_eq_none_iff.2 h] at hqo;cases hqo
    rw[hall _ hqlt] at hql;cases hql
   |cons i l =>
    have:=H.un i (by simp)
    rw[hall i (H.lt i (by simp))] at this;cases this
  ·obtain ⟨hi1,o,ho,hedge⟩:=mem_ready.1 hi
   have hilt:i<ops.length:=by
    have:=(Array.getElem?_eq_some_iff.1 ho).1
    simpa using this
   have ho':ops[i]? =some o:=by simpa using ho
   have hL:lst listed i=false:=by
    unfold lst
    have hil':i<listed.size:=by omega
    simp[hil'] at hi1 ⊢; exact hi1
   have hedge':∀o',ops[i]? =some o'->∀e,e∈o'.after.toList->Region.binds .any e=true->lst listed e.on=true:=by
    intro o' h e he hb
    rw[ho'] at h;injection h with h;subst h
    exact hedge e (by simpa using he) hb
   have hna:∀k,lst listed k=false->BQ (EA ops []) i k=false:=fun k hk=>hcl.no hlt hedge' hk
   have hset:lst (listed.setIfInBounds i true)=more (lst listed) i:=BcQ (by omega)
   have hokd:Cq a.tmps.size o.dst=true:=by
    rw[h2];exact List.all_eq_true.1 hdst o (List.mem_of_getElem? ho')
   have goOn : ∀(C' : Ctx) (v : Value) (w' : World) (n' : Nat) (rest' : List Nat) (ps' : List Pend) (env' : Env) (S' : St), C.le C' -> Sat C' (S'.add F) w' -> Inv E ops (EA ops []) ch Q tb n' C' (more (lst listed) i) (OF (a.put o.dst v)) rest' ps' env' S' ->
     wpAny E.P .any ops.toArray (APost C0 F E.n dfs Q) fuel (listed.setIfInBounds i true) (a.put o.dst v) w':=by
    intro C' v w' n' rest' ps' env' S' hle hs' H'
    refine ih _ C' n' rest' ps' env' S' _ w' (by simpa using hsz) ?_ ?_ (h0.trans hle) (by rw[Ex,h2]) (by rw[Co,h3]) hs' (by rw[hset];exact H')
    ·rw[hset];have:=BaE hilt hL;omega
    ·rw[hset];exact hcl.more hedge'
   unfold wpOp
   rw[ho]
   simp only
   rcases H.all i hilt hL with hir | ⟨p,hp,rfl⟩
   ·-- an operation of the chain
    have hrd:Mi (EA ops []) rest i=true:=List.all_eq_true.2 fun k hk=>by
     simp[hna k (H.un k hk)]
    have hch:ch i=true:=by
     cases h:ch i with
     |true=>rfl
     |false =>
      have:=List.find?_eq_none.1 hpos i hir
      simp[h,hrd] at this
    have hcan:=H.can
    cases n with
    |zero =>
     simp only[Cl] at hcan
     split at hcan
     ·cases hir
     ·exact hcan.elim
    |succ n =>
    simp only[Cl,hpos] at hcan
    split at hcan
    ·cases hir
    have hcan:=Ue hcan i (List.mem_filter.2 ⟨hir,by simp[hch,hrd]⟩)
    simp only[ho'] at hcan
    obtain ⟨env',r,hlk,hG,hcase⟩:=MP hcan
    have hG':=I4 hG
    have he:RepEnv C (BZ (Bm ops o) env') a.tmps:=by
     intro t
     rw[EV]
     split
     ·rename_i htr
      rw[hlk]
      refine H.rep t fun q hq hql hd=>?_
      have hpair:=H.pr q hq i hir
      have hne:q.i≠i:=fun e=>H.nd q hq (by rw[e];exact hir)
      exact (hap q.i i q.o o hne (H.op q hq) ho' hpair (hna _ hql)).1 t hd htr
     ·simp[Rep]
    have hw:=Ih hG' he
    rw[hw]
    rcases hcase with ⟨rfl,hrun⟩ | ⟨rfl,hskip⟩
    ·simp only[if_true]
     refine .inl (Mv (GF hT he h4 o hrun) ?_ ?_)
     ·intro C' d S' v w' k1 k2 k3 k4
      obtain ⟨d',S'',k4,r1,r2⟩:=BaQ k4
      obtain ⟨k5,k6⟩:=IX k4
      exact goOn C' v w' _ _ _ _ S'' k1 (r2 _ _ _ k3) (H.chain hap hir k1 ho' hna hokd (r1 _ _ k2) hlk hnew k5 fun p hp hr=>.inr (k6 p hp hr))
     ·intro C' d S' v w' k1 k2 k3 k4
      exact⟨C',.panic d,[],S',h0.trans k1,fun t=>by simp[look,Rep],h2,h3,k3,⟨v,rfl,k2⟩,k4⟩
    ·simp only[Bool.false_eq_true,if_false]
     exact goOn C undef w _ _ _ _ S (.refl C) h4 (H.chain hap hir (.refl C) ho' hna hokd (Em C) hlk hnew hskip fun p hp hr=>.inl rfl)
   ·-- a pending one
    have hpo:=H.op p hp
    rw[ho'] at hpo;injection hpo with hpo;subst hpo
    obtain ⟨pre,qs,P,hps⟩:=H.ok.mem p hp hL
    have he:RepEnv C p.e a.tmps:=by
     intro t
     by_cases htr:t∈Bm ops p.o
     ·refine P.rep t fun q hq hql hd=>?_
      have hpw:=H.pp
      rw[hps,List.map_append,List.pairwise_append] at hpw
      have hpair:=(List.pairwise_cons.1 hpw.2.1).1 q.i (List.mem_map.2 ⟨q,hq,rfl⟩)
      have hqm:q∈ps:=by rw[hps];simp[hq]
      have hne:q.i≠p.i:=fun e=>by
       have hnd:=H.ndp
       rw[hps,List.map_append,List.nodup_append] at hnd
       exact (List.nodup_cons.1 hnd.2.1).1 (List.mem_map.2 ⟨q,hq,e⟩)
      exact (hap q.i p.i q.o p.o hne (H.op q hqm) ho' hpair (hna _ hql)).1 t hd htr
     ·rw[P.out t htr];simp[Rep]
    have hw:=Ih P.guard he
    rw[hw]
    cases hr:p.run with
    |true =>
     simp only[if_true]
     refine .inl (Mv (GF hT he h4 p.o (P.val hr)) ?_ ?_)
     ·rintro C' d S' v w' k1 k2 k3 ⟨rfl,rfl⟩
      exact goOn C' v w' _ _ _ _ S' k1 k3 (H.done hap k1 hp hL hna hokd k2)
     ·intro C' d S' v w' _ _ _ k4
      exact k4.elim
    |false =>
     simp only[Bool.false_eq_true,if_false]
     exact goOn C undef w _ _ _ _ S (.refl C) h4 (H.done hap (.refl C) hp hL hna hokd (by rw[P.skip hr];exact Em C))
def Gx(E:Senv)(ops:List Oper)(_:List Nat)(chain:List Nat)(Q:APostT)(env:Env)(S:St):Prop :=
 chk (RE ops (EA ops []) E.n) (Cl E ops (EA ops []) (fun i=>chain.contains i) Q (BJ S.objs) ops.length (List.range ops.length) [] env S)
theorem BaY{an:List Nat}{n:Nat}(h:RE ops an n=true):Apart ops an:=by
 intro i j x y hne hx hy h1 h2
 simp only[RE,Bool.and_eq_true] at h
 have hi:i<ops.length:=(List.getElem?_eq_some_iff.1 hx).1
 have hj:j<ops.length:=(List.getElem?_eq_some_iff.1 hy).1
 have:=List.all_eq_true.1 (List.all_eq_true.1 h.1.1.1 i (List.mem_range.2 hi)) j (List.mem_range.2 hj)
 unfold Bcb at this
 rw[hx,hy] at this
 have hb:Nat.beq i j=false:=by
  cases hb:Nat.beq i j with
  |false=>rfl
  |true=>exact (hne (Nat.eq_of_beq_eq_true hb)).elim
 simp only[hb,h1,h2,Bool.false_or,Ba4,Bool.and_eq_true,Bool.not_eq_true'] at this
 refine⟨fun t ht hm=>?_,fun t ht hm=>?_⟩
 ·have:=this.1;simp[Rb,ht] at this;exact this hm
 ·have:=this.2;simp[Rb,ht] at this;exact this hm
theorem W3(hT:EnvOk E){id:Nat}{ord chain:List Nat}{env:Env}{S:St}(h:Gx E ops ord chain Q env S):AWpK E.P E.n dfs (Es ops) (.region id ops.toArray true) Q env S:=by
 obtain ⟨hc,hcan⟩:=Ba.1 h
 have hap:=BaY hc
 simp only[RE,Bool.and_eq_true] at hc
 obtain ⟨⟨⟨c1,c2⟩,c5⟩,c6⟩:=hc
 intro C F a w h1 h2 h3 h4
 refine wp_region_any hT.mix (Wd (RC ops) _ _ _ _ (.refl _ _) ?_)
 have hnl:∀i,lst (Array.replicate ops.toArray.size false) i=false:=by
  intro i;simp only[lst]
  by_cases hi:i<ops.length
  ·simp[hi]
  ·simp[hi]
 refine Bal (ch:=fun i=>chain.contains i) (C0:=C) hT c5 (fun i o ho e he hb=>by have:=U7 c6 i o ho e he hb;omega) hap (BJ S.objs) (fun i j x y hi hj hne hx hy=>Rt c2 i j x y (List.mem_range.2 hi) (List.mem_range.2 hj) hne hx hy)
  _ _ C ops.length (List.range ops.length) [] env S a _ (by simp) ?_ ?_ (.refl C) h2 h3 (by exact h4.drew) ?_
 ·unfold left
  refine Nat.le_trans (List.countP_le_length) ?_
  simp
 ·intro i o hi hl
  rw[hnl] at hl;cases hl
 ·exact {
   can:=hcan,un:=fun i _=>hnl i,all:=fun i hi _=>.inl (List.mem_range.2 hi),rep:=fun t _=>h1 t,cur:=fun _ hq=>(by cases hq),ok:=trivial,pp:=List.Pairwise.nil,pr:=fun _ hp=>(by cases hp),
   lt:=fun i hi=>List.mem_range.1 hi,nd:=fun _ hp=>(by cases hp),ndp:=List.Pairwise.nil,ndr:=List.nodup_range,op:=fun _ hp=>(by cases hp),plt:=fun _ hp=>(by cases hp) }
end
def BeE(op:BinOp)(k:IntKind)(a b:Int):D :=
 match op with
 |.add=>.int k (k.wrap (a+b))
 |.sub=>.int k (k.wrap (a-b))
 |.mul=>.int k (k.wrap (a*b))
 |.quo=>.int k (k.wrap (a.tdiv b))
 |.rem=>.int k (a.tmod b)
 |.and=>.int k (BdR k a b)
 |.or=>.int k (orI k a b)
 |.xor=>.int k (Bee k a b)
 |.eql=>.bool (a==b)
 |.neq=>.bool (a != b)
 |.lss=>.bool (decide (a<b))
 |.leq=>.bool (decide (a<=b))
 |.gtr=>.bool (decide (b<a))
 |.geq=>.bool (decide (b<=a))
 |_=>.unk
def BeB(op:BinOp)(a b:List UInt8):D :=
 match op with
 |.add=>.str (a++b)
 |.eql=>.bool (a==b)
 |.neq=>.bool (a != b)
 |.lss=>.bool (Op.bytesLess a b)
 |_=>.unk
def pvOf(op:BinOp):Option Bool->D
 |some r=>match op with
  |.eql=>.bool r
  |.neq=>.bool !r
  |_=>.unk
 |none=>.unk
def BeM(S:St):D->D
 |.str s=>.int .i64 s.length
 |.sl _ n _ _=>.int .i64 n
 |.ms _ _ _ len _ _=>.int .i64 len
 |.vs _ _ len _ _=>.int .i64 len
 |.nmap=>.int .i64 0
 |.map k _=>match Bx S.objs k with
  |some (_,.amap _ es)=>.int .i64 es.length
  |_=>.unk
 |_=>.unk
def BdW(ti:TI)(S:St):D->D
 |.ref k _ o=>match Bx S.objs k with
  |some (_,.cells ds)=>BU ti ds o
  |_=>.unk
 |.pt row=>BU ti row 0
 |.er k _ i _ fo=>match Bx S.objs k with
  |some (_,.vec _ _ _ f)=>BU ti (f i) fo
  |_=>.unk
 |_=>.unk
def pvOp(E:Senv)(env:Env)(S:St)(o:Op):D :=
 match o with
 |.move x=>evD env x
 |.assign x=>evD env x
 |.pick c a b=>match evD env c with
  |.bool t=>match evD env a,evD env b with
   |.bool p,.bool q=>.bool (bif t then p else q)
   |.int k p,.int _ q=>.int k (bif t then p else q)
   |.str p,.str q=>.str (bif t then p else q)
   |_,_=>.unk
  |_=>.unk
 |.load t a=>match E.tt t with
  |some ti=>BdW ti S (evD env a)
  |none=>.unk
 |.nilCheck x=>evD env x
 |.binOp op t x y _=>match evD env x with
  |.int k n=>match evD env y with
   |.int _ m=>BeE op k n m
   |_=>.unk
  |.str s=>match evD env y with
   |.str r=>BeB op s r
   |_=>.unk
  |a=>match R0 E.tt E.eqs op t a (evD env y) with
   |some r=>.bool r
   |none=>match E.tt t with
    |some ti=>pvOf op (eqT ti.desc a (evD env y))
    |none=>.unk
 |.unOp op _ x=>match op,evD env x with
  |.not,.bool b=>.bool !b
  |.neg,.int k n=>.int k (k.wrap (0-n))
  |.xor,.int k n=>.int k (Ben k n)
  |_,_=>.unk
 |.convert _ d x=>match E.tt d with
  |some di=>match di.desc,evD env x with
   |.int k,.int _ n=>.int k (k.wrap n)
   |.string,.str s=>.str s
   |_,_=>.unk
  |none=>.unk
 |.fieldAddr t x f=>match E.tt t with
  |some ti=>match Ed ti.desc f with
   |some fd=>match evD env x with
    |.ref k b o=>.ref k b (o+fd.offset)
    |.pt row=>.pt (row.drop fd.offset)
    |.er k b i w o=>.er k b i w (o+fd.offset)
    |_=>.unk
   |none=>.unk
  |none=>.unk
 |.field t x f=>match E.tt t with
  |some ti=>match Ed ti.desc f with
   |some fd=>match E.tt fd.type with
    |some fi=>match evD env x with
     |.agg cs=>BU fi cs fd.offset
     |_=>.unk
    |none=>.unk
   |none=>.unk
  |none=>.unk
 |.indexAddr _ x i=>match evD env x,evD env i with
  |.sl _ _ f _,.int _ i=>.pt (f i.toNat)
  |.vs k b _ _ wd,.int _ i=>.er k b i.toNat wd 0
  |.ms k b o _ _ wd,.int _ i=>.ref k b (o+i.toNat*wd)
  |_,_=>.unk
 |.index _ x i=>match evD env x,evD env i with
  |.str s,.int _ i=>.int .u8 ((s.getD i.toNat 0).toNat:Int)
  |_,_=>.unk
 |.slice _ x lo hi _=>match evD env x with
  |.str s=>match ET (evO env lo) 0,ET (evO env hi) s.length with
   |some l,some h=>.str ((s.take h.toNat).drop l.toNat)
   |_,_=>.unk
  |_=>.unk
 |.makeInterface t x=>.iface t (evD env x)
 |.makeFunc f a c=>.fn f (a.toList.map (evD env)) (c.toList.map (evD env))
 |.extract x i=>match evD env x with
  |.tup ds=>ds.getD i .unk
  |_=>.unk
 |.call c=>match c.callee with
  |.builtin .len=>BeM S (evD env (c.args.getD 0 (.const undef)))
  |.value f=>match evD env f with
   |.fn (.func k) first cap=>E.pvt k (first++c.args.toList.map (evD env)++cap)
   |_=>.unk
  |_=>.unk
 |_=>.unk
def BdM(E:Senv)(S:St):List Oper->Env->Env
 | [],env=>env
 |o::r,env=>BdM E S r (match o.dst with
  |some t=>(t,pvOp E env S o.op)::env
  |none=>env)
def IM(E:Senv)(o:Op):Bool :=
 Oa o||match o with
  |.convert _ d _=>match E.tt d with
   |some di=>match di.desc with
    |.int _=>true
    |_=>false
   |none=>false
  |_=>false
theorem Rc{E:Senv}{op:Op}{env:Env}{S:St}{K X:D->St->Prop}(hp:IM E op=true)(h:C9 E op env S K X):∃d,K d S/\∀J X',(∀r,K r S->J r S)->C9 E op env S J X':=by
 unfold IM at hp
 rw[Bool.or_eq_true] at hp
 rcases hp with hp | hp
 ·by_cases hst:steady E op env=true
  ·obtain ⟨d,h1,h2,_⟩:=M2 hp hst h
   exact⟨d,h1,fun J X' hj=>h2 J (hj d h1) X'⟩
  ·unfold steady at hst
   split at hst
   ·rename_i op t x y yt
    simp only[C9] at h ⊢
    cases hq:Oe E.tt op t (evD env x) (evD env y) with
    |none=>simp[hq] at hst
    |some q =>
     obtain ⟨n,pos⟩:=q
     simp only[hq] at h ⊢
     cases pos with
     |true=>exact⟨_,h false (fun e=>nomatch e),fun J _ hj r hr=>hj _ (h r hr)⟩
     |false=>exact⟨_,h false (fun e=>nomatch e),fun J _ hj r hr=>hj _ (h r hr)⟩
   ·simp at hst
 ·split at hp
  ·rename_i s d x
   simp only[C9] at h ⊢
   split at hp
   ·rename_i di hdi
    split at hp
    ·rename_i k hk
     cases hs:E.tt s with
     |none=>simp only[hs] at h
     |some si =>
      simp only[hs,hdi] at h ⊢
      cases hx:evD env x with
      |int k' n =>
       simp only[hx,Ms,Eo,hk] at h ⊢
       exact⟨_,h,fun J _ hj=>hj _ h⟩
      |sl w n f m =>
       simp only[hx] at h
       exfalso
       revert h
       unfold Ms
       cases m<;>simp only[IY,Eo,hk]<;>(repeat' split)<;>simp_all[Bdl]
      |_ =>
       simp only[hx,Ms,Eo,hk] at h
       (try exact h.elim)
       (try (exfalso;revert h;(repeat' split)<;>simp_all))
    ·cases hp
   ·cases hp
  ·cases hp
theorem Ia{E:Senv}{ops:List Oper}(hops:∀(i:Nat) o,ops[i]? =some o->IM E o.op=true){Q:APostT}{S:St}:∀(l:List Nat) (env:Env),CO E ops Q l env S->CO E ops (fun e env' S'=>S'=S/\Q e env' S) l env S
 | [],env,h=>⟨rfl,h⟩
 |i::rest,env,h=>by
  simp only[CO] at h ⊢
  split at h
  ·rename_i hi;(try simp only[hi]);exact Ia hops rest env h
  ·rename_i o hi
   (try simp only[hi])
   have run:∀env,C9 E o.op env S (fun d S'=>CO E ops Q rest (putD env o.dst d) S') (fun d S'=>Q (.panic d) env S')->C9 E o.op env S (fun d S'=>CO E ops (fun e env' S'=>S'=S/\Q e env' S) rest (putD env o.dst d) S') (fun d S'=>S'=S/\Q (.panic d) env S):=by
    intro env h
    obtain ⟨d,h1,h2⟩:=Rc (hops i o hi) h
    exact h2 _ _ fun r hr=>Ia hops rest _ hr
   have skip:∀env,CO E ops Q rest (putD env o.dst (.tup [])) S->CO E ops (fun e env' S'=>S'=S/\Q e env' S) rest (putD env o.dst (.tup [])) S:=fun env h=>Ia hops rest _ h
   unfold C3 at h ⊢
   split at h
   ·exact run _ h
   ·split at h
    ·split at h
     ·split at h
      ·split at h
       ·have h:=Ck h
        exact Tw (fun e=>run _ (h.1 e)) (fun e=>skip _ (h.2 e))
       ·have h:=Ck h
        exact Tw (fun e=>skip _ (h.1 e)) (fun e=>run _ (h.2 e))
      ·exact skip _ h
      ·exact h.elim
     ·exact h.elim
    ·exact h.elim
theorem Gj{E:Senv}{ops:List Oper}{an:List Nat}{tb:Nat}{Q:APostT}{S:St}:∀(fuel:Nat) (rest:List Nat) (ps:List Pend) (env:Env),Cl E ops an (fun _=>false) Q tb fuel rest ps env S->Cl E ops an (fun _=>false) (fun e env' S'=>S'=S/\Q e env' S) tb fuel rest ps env S
 |0,rest,ps,env,h=>by
  simp only[Cl] at h ⊢
  split at h
  ·exact⟨trivial,h⟩
  ·exact h.elim
 |fuel+1,rest,ps,env,h=>by
  simp only[Cl] at h ⊢
  split at h
  ·rename_i i hp
   (try simp only[hp])
   split at h
   ·exact h.elim
   ·rename_i o ho
    (try simp only[ho])
    obtain ⟨hpu,h⟩:=Ba.1 h
    refine Ba.2 ⟨hpu,?_⟩
    have run : ∀env, chk (steady E o.op (BZ (Bm ops o) env)) (C9 E o.op (BZ (Bm ops o) env) S (fun d S'=>Cl E ops an (fun _=>false) Q tb fuel (rest.erase i) (⟨i, o, BZ (Bm ops o) env, true, d⟩::ps) (putD env o.dst d) S') (fun _ _=>False)) ->
      chk (steady E o.op (BZ (Bm ops o) env)) (C9 E o.op (BZ (Bm ops o) env) S (fun d S'=>Cl E ops an (fun _=>false) (fun e env' S'=>S'=S/\Q e env' S) tb fuel (rest.erase i) (⟨i,o,BZ (Bm ops o) env,true,d⟩::ps) (putD env o.dst d) S') (fun _ _=>False)):=by
     intro env h
     obtain ⟨hst,h⟩:=Ba.1 h
     refine Ba.2 ⟨hst,?_⟩
     obtain ⟨d,h1,h2⟩:=Rc (by simp[IM,hpu]) h
     exact h2 _ _ fun r hr=>Gj fuel _ _ _ hr
    unfold C3 at h ⊢
    split at h
    ·exact run _ h
    ·split at h
     ·split at h
      ·split at h
       ·split at h
        ·have h:=Ck h
         exact Tw (fun e=>run _ (h.1 e)) (fun e=>Gj fuel _ _ _ (h.2 e))
        ·have h:=Ck h
         exact Tw (fun e=>Gj fuel _ _ _ (h.1 e)) (fun e=>run _ (h.2 e))
       ·exact Gj fuel _ _ _ h
       ·exact h.elim
      ·exact h.elim
     ·exact h.elim
  ·split at h
   ·exact⟨trivial,h⟩
   ·have e:∀l:List Nat,l.filter (fun i=>false&&Mi an rest i)=[]:=fun l=>by simp
    rw[e]
    trivial
theorem R7{E:Senv}{ops:List Oper}{l:List Nat}{Q:APostT}{env:Env}{S:St}(h:Gx E ops l [] Q env S):Gx E ops l [] (fun e env' S'=>S'=S/\Q e env' S) env S:=by
 unfold Gx at h ⊢
 obtain ⟨h1,h2⟩:=Ba.1 h
 exact Ba.2 ⟨h1,Gj _ _ _ _ h2⟩
def Wv(E:Senv)(id:Nat)(d:Bool)(ops:List Oper):Bool :=
 (match E.mg id with
  |0=>E.auto&&(ops.any fun o=>o.guard.isSome)
  |1=>true
  |_=>false)&&(match d with
  |true=>(E.ord id).2.isEmpty
  |false=>ops.all fun o=>IM E o.op)
def ML(E:Senv)(ops:List Oper):List Nat:=((Es ops).filter fun t=>decide (t<E.V)||E.cross.contains t).eraseDups
def R4(E:Senv)(ops:List Oper)(env:Env)(S:St):List D:=(ML E ops).map (look (BdM E S ops env))
def prune(V:Nat)(cross:List Nat)(env:Env):Env:=env.filter fun p=>decide (p.1<V)||cross.contains p.1
theorem EK(f:Nat->Bool):∀(env:Env) (t:Nat),look (env.filter fun p=>f p.1) t=.unk\/look (env.filter fun p=>f p.1) t=look env t
 | [],t=>.inl rfl
 |(s,d)::r,t=>by
  simp only[List.filter_cons]
  split
  ·simp only[look]
   split
   ·exact .inr rfl
   ·exact EK f r t
  ·rename_i hf
   by_cases e:s=t
   ·subst e
    left
    have key:∀(l:Env),look (l.filter fun p=>f p.1) s=.unk:=by
     intro l
     induction l with
     |nil=>rfl
     |cons p l ih =>
      simp only[List.filter_cons]
      split
      ·rename_i hp
       simp only[look]
       split
       ·rename_i e;rw[e] at hp;exact (hf hp).elim
       ·exact ih
      ·exact ih
    exact key r
   ·simp only[look,if_neg e];exact EK f r t
theorem I1(V:Nat)(cross:List Nat)(env:Env):BbP (prune V cross env) env:=fun t=>EK (fun s=>decide (s<V)||cross.contains s) env t
def Ghost(env:Env)(S:St)(J:Env->St->Prop):Prop :=
 ∀(C:Ctx) (F:St) (tmps:Array Value) (w:World),RepEnv C env tmps->Sat C (S.add F) w->∃C' env' S',C.le C'/\RepEnv C' env' tmps/\Sat C' (S'.add F) w/\J env' S'
theorem Ghost.none{env:Env}{S:St}{J:Env->St->Prop}(h:J env S):Ghost env S J:=fun C _ _ _ h1 h2=>⟨C,env,S,.refl C,h1,h2,h⟩
theorem Ghost.bind{env:Env}{S:St}{J J':Env->St->Prop}(h:Ghost env S J)(k:∀env S,J env S->Ghost env S J'):Ghost env S J':=by
 intro C F tmps w h1 h2
 obtain ⟨C1,e1,S1,a1,a2,a3,a4⟩:=h C F tmps w h1 h2
 obtain ⟨C2,e2,S2,b1,b2,b3,b4⟩:=k e1 S1 a4 C1 F tmps w a2 a3
 exact⟨C2,e2,S2,a1.trans b1,b2,b3,b4⟩
def MY:Place->Bool
 |.cell _ _=>false
 |_=>true
def lone:D->Bool
 |.sl _ _ _ .nil=>true
 |.sl _ _ _ .full=>true
 |_=>false
def E5(wd k t:Nat):D->D
 |.sl w n f m=>match wd with
  |0=>.sl w n f (.tok k t)
  |wd+1=>match n,m with
   |0,.nil=>.sl (wd+1) 0 (fun _=>[]) (.tok k t)
   |n,_=>.sl w n f (.tok k t)
 |d=>d
def On:Place->Nat
 |.cell _ o=>o / 100
 |.slot t=>t / 100000
 |_=>0
theorem GH{C:Ctx}{w n:Nat}{f:Nat->List D}{m:Mode}{v:Value}{k t:Nat}(hl:lone (.sl w n f m)=true)(ht:C.tok t=none)(hte:CN t=0)(h:Rep C (.sl w n f m) v):Rep (C.tokd t .no) (.sl w n f (.tok k t)) v:=by
 have hle:=Ctx.tokd_le (C:=C) (x:=.no) ht
 ·simp only[Rep] at h ⊢
  obtain ⟨a,len,cap,e,hh,hr⟩:=h
  refine⟨a,len,cap,e,⟨hh.1,hh.2.1,hh.2.2.1,hh.2.2.2.1,hh.2.2.2.2.1,?_⟩,fun x hx i hi=>⟨(hr x hx i hi).1,RepCells.mono hle _ _ _ (hr x hx i hi).2⟩⟩
  simp only[Ctx.tokd,if_true]
  cases m with
  |nil =>
   have h6:a=none:=hh.2.2.2.2.2
   have h4:=hh.2.2.2.1 h6
   exact⟨by omega,fun h=>(h hte).elim⟩
  |full=>exact⟨hh.2.2.2.2.2.1,fun h=>(h hte).elim⟩
  |any=>simp[lone] at hl
  |tok k t=>simp[lone] at hl
theorem BbN{C:Ctx}{d:D}{v:Value}{wd k t:Nat}(hl:lone d=true)(ht:C.tok t=none)(hte:CN t=0)(h:Rep C d v):Rep (C.tokd t .no) (E5 wd k t d) v:=by
 cases d with
 |sl w n f m =>
  cases wd with
  |zero=>exact GH hl ht hte h
  |succ wd =>
   cases n with
   |succ n=>exact GH hl ht hte h
   |zero =>
    cases m with
    |nil =>
     have h':=GH (k:=k) hl ht hte h
     simp only[E5,Rep] at h' ⊢
     obtain ⟨a,len,cap,e,hh,hr⟩:=h'
     refine⟨a,len,cap,e,⟨hh.1,hh.2.1,hh.2.2.1,hh.2.2.2.1,hh.2.2.2.2.1,?_⟩,fun x _ i hi=>absurd hi (Nat.not_lt_zero i)⟩
     have h6:=hh.2.2.2.2.2
     simp only[Ctx.tokd,if_true] at h6 ⊢
     exact h6
    |full=>exact GH hl ht hte h
    |any=>simp[lone] at hl
    |tok _ _=>simp[lone] at hl
 |_=>simp[lone] at hl
def BE(env:Env)(S:St):Place->D
 |.slot t=>look env (t % 100000)
 |.part t o=>match look env t with
  |.agg ds=>ds.getD o .unk
  |_=>.unk
 |.cell k o=>match Bx S.objs k with
  |some (_,.cells ds)=>ds.getD (o % 100) .unk
  |_=>.unk
def Cg(env:Env)(d:D):Place->Env
 |.slot t=>(t % 100000,d)::env
 |.part t o=>match look env t with
  |.agg ds=>(t,.agg (ds.set o d))::env
  |_=>env
 |.cell _ _=>env
def Ei(S:St)(d:D):Place->St
 |.cell k o=>match Bx S.objs k with
  |some (_,.cells ds)=>S.set k (.cells (ds.set (o % 100) d))
  |_=>S
 |_=>S
def RN(p:Place)(k:Nat):Bool:=match p with
 |.cell k0 _=>!(Nat.beq k0 k)
 |_=>true
def BR(J:Env->St->Prop):List Place->Env->St->Prop
 | [],env,S=>J env S
 |p::ps,env,S=>match BE env S p with
  |.vs k x len cap w=>match Bx S.objs k with
   |some (y, .vec w' n c f)=>chk (decide (w=w')&&RN p k) (y=x /\ c=cap /\ Bd (len<=n) ((∀i, i<len -> (f i).all B4=true) /\
     ∀t,BR J ps (Cg env (.sl w len f (.tok (Bi S.toks) t)) p) ⟨(Ei ⟨BN S.objs k,(Bi S.toks,t)::S.toks⟩ (.sl w len f (.tok (Bi S.toks) t)) p).objs,(Bi S.toks,t)::S.toks⟩))
   |_=>False
  |.sl _ _ _ .any=>BR J ps env S
  |_=>chk (lone (BE env S p)) (∀t,BR J ps (Cg env (E5 (On p) (Bi S.toks) t (BE env S p)) p)
   ⟨(Ei S (E5 (On p) (Bi S.toks) t (BE env S p)) p).objs,(Bi S.toks,t)::S.toks⟩)
theorem RepL.weak_set{C C':Ctx}(hle:C.le C'){d':D}:∀ {ds:List D} {vs:List Value} (o:Nat),RepL C ds vs->(∀v,Rep C (ds.getD o .unk) v->Rep C' d' v)->RepL C' (ds.set o d') vs
 | [],vs,o,h,_=>RepL.mono hle _ _ h
 |d::ds,vs,0,h,k=>by
  simp only[RepL] at h
  obtain ⟨x,xs,rfl,r1,r2⟩:=h
  simp only[List.set_cons_zero,RepL]
  exact⟨x,xs,rfl,k x (by simpa using r1),RepL.mono hle _ _ r2⟩
 |d::ds,vs,o+1,h,k=>by
  simp only[RepL] at h
  obtain ⟨x,xs,rfl,r1,r2⟩:=h
  simp only[List.set_cons_succ,RepL]
  exact⟨x,xs,rfl,Rep.mono hle _ _ r1,RepL.weak_set hle o r2 (by simpa using k)⟩
theorem UT{env : Env}{S : St}{J : Env -> St -> Prop}(p : Place)(hl : lone (BE env S p)=true)
  (h:∀t,J (Cg env (E5 (On p) (Bi S.toks) t (BE env S p)) p) ⟨(Ei S (E5 (On p) (Bi S.toks) t (BE env S p)) p).objs,(Bi S.toks,t)::S.toks⟩):Ghost env S J:=by
 intro C F tmps w h1 h2
 obtain ⟨t,ht,hm,hte⟩:=h2.tok_free
 have hle:=Ctx.tokd_le (C:=C) (x:=.no) ht
 have hsat:=h2.tok_no (Bi S.toks) ht hm
 have hsat:Sat (C.tokd t .no) (St.add ⟨S.objs,(Bi S.toks,t)::S.toks⟩ F) w:=Sat.cons_frame hsat
 have hd:∀v,Rep C (BE env S p) v->Rep (C.tokd t .no) (E5 (On p) (Bi S.toks) t (BE env S p)) v:=fun v hv=>BbN hl ht hte hv
 refine⟨C.tokd t .no,_,_,hle,?_,?_,h t⟩
 ·cases p with
  |slot s =>
   intro u
   simp only[Cg,look]
   split
   ·rename_i e;subst e;exact hd _ (h1 (s % 100000))
   ·exact (h1.mono hle) u
  |part s o =>
   simp only[Cg]
   split
   ·rename_i ds hds
    intro u
    simp only[look]
    split
    ·rename_i e;subst e
     have hr:=h1 s
     rw[hds] at hr
     simp only[Rep] at hr ⊢
     obtain ⟨vs,e,r⟩:=hr
     refine⟨vs,e,RepL.weak_set hle o r fun v hv=>hd v ?_⟩
     simpa[BE,hds] using hv
    ·exact (h1.mono hle) u
   ·exact h1.mono hle
  |cell k o=>exact h1.mono hle
 ·cases p with
  |slot s=>exact hsat
  |part s o=>exact hsat
  |cell k o =>
   simp only[Ei]
   split
   ·rename_i x ds hg
    refine hsat.replace (S:=⟨S.objs,(Bi S.toks,t)::S.toks⟩) (t:=k) hg rfl (fun _ _=>rfl) rfl rfl rfl ?_
    obtain ⟨arr,E,fz,q1,q2,q3⟩:=(h2.obj_of hg).2.2
    refine⟨arr,E,fz,q1,q2,RepL.weak_set hle (o % 100) q3 fun v hv=>hd v ?_⟩
    simpa[BE,hg] using hv
   ·exact hsat
theorem Bca{C C':Ctx}(hle:C.le C'){env:Env}{S:St}{tmps:Array Value}(h1:RepEnv C env tmps){d:D}:∀(p:Place),MY p=true->(∀v,Rep C (BE env S p) v->Rep C' d v)->RepEnv C' (Cg env d p) tmps
 |.slot s,_,hd=>by
  intro u
  simp only[Cg,look]
  split
  ·rename_i e;subst e;exact hd _ (h1 (s % 100000))
  ·exact (h1.mono hle) u
 |.part s o,_,hd=>by
  simp only[Cg]
  split
  ·rename_i ds hds
   intro u
   simp only[look]
   split
   ·rename_i e;subst e
    have hr:=h1 s
    rw[hds] at hr
    simp only[Rep] at hr ⊢
    obtain ⟨vs,e,r⟩:=hr
    refine⟨vs,e,RepL.weak_set hle o r fun v hv=>hd v ?_⟩
    simpa[BE,hds] using hv
   ·exact (h1.mono hle) u
  ·exact h1.mono hle
 |.cell _ _,h,_=>by cases h
theorem Up{C:Ctx}{env:Env}{S:St}{tmps:Array Value}(h1:RepEnv C env tmps){d:D}:∀(p:Place),MY p=true->BE env S p=d->(∃v,Rep C d v) 
 |.slot s,_,e=>by subst e;exact⟨_,h1 (s % 100000)⟩
 |.part s o,_,e=>by
  subst e
  simp only[BE]
  split
  ·rename_i ds hds
   have hr:=h1 s
   rw[hds] at hr
   simp only[Rep] at hr
   obtain ⟨vs,_,r⟩:=hr
   by_cases ho:o<ds.length
   ·obtain ⟨v,_,h2⟩:=RepL.get r o (ds.getD o .unk) (by simp[List.getD_eq_getElem?_getD,ho])
    exact⟨v,h2⟩
   ·refine⟨undef,?_⟩
    rw[List.getD_eq_getElem?_getD,List.getElem?_eq_none (by omega)]
    simp[Rep]
  ·exact⟨undef,by simp[Rep]⟩
 |.cell _ _,h,_=>by cases h
theorem Ig{env : Env}{S : St}{J : Env -> St -> Prop}(p : Place){k x len cap w n : Nat}{f : Nat -> List D}(hp : MY p=true)(hv : BE env S p=.vs k x len cap w)(hg : Bx S.objs k=some (x, .vec w n cap f))(hl : len<=n)
  (hok:∀i,i<len->(f i).all B4=true) (h:∀t,J (Cg env (.sl w len f (.tok (Bi S.toks) t)) p) ⟨BN S.objs k,(Bi S.toks,t)::S.toks⟩):Ghost env S J:=by
 intro C F tmps W h1 h2
 obtain ⟨t,ht,hm,hte⟩:=h2.tok_free
 obtain ⟨v,hr⟩:=Up h1 p hp hv
 simp only[Rep] at hr
 obtain ⟨arr,⟨hle,hs,hd⟩ | hbad⟩:=Sat.settle h2 hg hl hok (Bi S.toks) ht hm hte
 ·refine⟨_,_,_,hle,Bca (S:=S) hle h1 p hp ?_,hs,h t⟩
  intro u hu
  rw[hv] at hu
  simp only[Rep] at hu
  rw[hu.1];exact hd
 ·omega
theorem Ma{k k0:Nat}(h:k0≠k):∀(l:List (Nat×Nat×AObj)),Bx (BN l k) k0=Bx l k0
 | []=>rfl
 |(s,x,o)::l=>by
  have ih:=Ma h l
  simp only[BN]
  split
  ·rename_i e
   subst e
   simp only[Bx]
   rw[if_neg (fun e=>h e.symm)]
  ·simp only[Bx]
   rw[ih]
theorem ID{env : Env}{S : St}{J : Env -> St -> Prop}(k0 o : Nat){k x len cap w n : Nat}{f : Nat -> List D}(hp : k0≠k)(hv : BE env S (.cell k0 o)=.vs k x len cap w)(hg : Bx S.objs k=some (x, .vec w n cap f))(hl : len<=n)
  (hok:∀i,i<len->(f i).all B4=true) (h:∀t,J env ⟨(Ei ⟨BN S.objs k,(Bi S.toks,t)::S.toks⟩ (.sl w len f (.tok (Bi S.toks) t)) (.cell k0 o)).objs,(Bi S.toks,t)::S.toks⟩):Ghost env S J:=by
 intro C F tmps W h1 h2
 obtain ⟨t,ht,hm,hte⟩:=h2.tok_free
 simp only[BE] at hv
 split at hv
 ·rename_i x0 ds hg0
  obtain ⟨a1,a2,arr0,E,fz,q1,q2,q3⟩:=h2.obj_of hg0
  have hlt:o % 100<ds.length:=by
   by_cases hc:o % 100<ds.length
   ·exact hc
   ·rw[List.getD_eq_getElem?_getD,List.getElem?_eq_none (by omega)] at hv;cases hv
  obtain ⟨v,hv1,hv2⟩:=RepL.get q3 (o % 100) (ds.getD (o % 100) .unk) (by simp[List.getD_eq_getElem?_getD,hlt])
  have hr:=hv2
  rw[hv] at hr
  simp only[Rep] at hr
  obtain ⟨arr,⟨hle,hs,hd⟩ | hbad⟩:=Sat.settle h2 hg hl hok (Bi S.toks) ht hm hte
  ·refine⟨_,_,_,hle,h1.mono hle,?_,h t⟩
   have hg1:Bx (BN S.objs k) k0=some (x0,.cells ds):=by rw[Ma hp];exact hg0
   simp only[Ei,hg1]
   refine hs.replace (S:=⟨BN S.objs k,(Bi S.toks,t)::S.toks⟩) (t:=k0) hg1 rfl (fun _ _=>rfl) rfl rfl rfl ?_
   refine⟨arr0,E,fz,q1,q2,RepL.weak_set hle (o % 100) q3 fun u hu=>?_⟩
   rw[hv] at hu
   simp only[Rep] at hu
   rw[hu.1];exact hd
  ·omega
 ·cases hv
theorem BI{J:Env->St->Prop}:∀(ps:List Place) (env:Env) (S:St),BR J ps env S->Ghost env S J
 | [],_,_,h=>.none h
 |p::ps,env,S,h=>by
  simp only[BR] at h
  split at h
  ·rename_i k x len cap w hv
   split at h
   ·rename_i y w' n c f hg
    obtain ⟨hc,rfl,rfl,hk⟩:=Ba.1 h
    simp only[Bool.and_eq_true,decide_eq_true_eq] at hc
    obtain ⟨rfl,hp⟩:=hc
    obtain ⟨hl,hok,hk⟩:=Bc.1 hk
    cases p with
    |cell k0 o =>
     have hne:k0≠k:=fun e=>by subst e;simp[RN] at hp
     exact (ID (J:=fun env S=>BR J ps env S) k0 o hne hv hg hl hok hk).bind fun env S h=>BI ps env S h
    |slot s=>exact (Ig (J:=fun env S=>BR J ps env S) (.slot s) rfl hv hg hl hok hk).bind fun env S h=>BI ps env S h
    |part s o=>exact (Ig (J:=fun env S=>BR J ps env S) (.part s o) rfl hv hg hl hok hk).bind fun env S h=>BI ps env S h
   ·exact h.elim
  ·exact BI ps env S h
  obtain ⟨h1,h2⟩:=Ba.1 h
  exact (UT (J:=fun env S=>BR J ps env S) p h1 h2).bind fun env S h=>BI ps env S h
def Uz:Env->Env->Prop
 | [],_=>True
 |(t,d)::r,env=>look env t=d/\Uz r env
theorem GG{C:Ctx}{tmps:Array Value}{env:Env}(he:RepEnv C env tmps):∀ {l:Env},Uz l env->RepEnv C l tmps
 | [],_=>fun t=>by simp[look,Rep]
 |(s,d)::r,h=>by
  intro t
  simp only[look]
  split
  ·rename_i e;subst e;rw[<- h.1];exact he s
  ·exact GG he h.2 t
theorem UK{C:Ctx}{tmps:Array Value}{env:Env}(he:RepEnv C env tmps)(l:List Nat):RepEnv C (BZ l env) tmps:=by
 intro t
 rw[EV]
 split
 ·exact he t
 ·simp[Rep]
theorem CE{C:Ctx}{tmps:Array Value}{env rest:Env}(he:RepEnv C env tmps)(hr:RepEnv C rest tmps):∀(slots:List Nat) (ds:List D),Bo (slots.map (look env)) ds->RepEnv C (slots.zip ds++rest) tmps
 | [],ds,_=>by simpa using hr
 |s::slots,[],_=>by simpa using hr
 |s::slots,d::ds,h=>by
  simp only[List.map_cons,Bo] at h
  intro t
  simp only[List.zip_cons_cons,List.cons_append,look]
  split
  ·rename_i e;subst e;exact Bk _ _ h.1 _ _ (he s)
  ·exact CE he hr slots ds h.2 t
theorem AWp.weak{P:Program}{n:Nat}{dfs:List Deferred}{c:Code}{Q:APostT}{env env':Env}{S S':St}(h:AWp P n dfs c Q env' S')(he:EnvTo env env')(hs:StTo S S'):AWp P n dfs c Q env S :=
 fun C F a w h1 h2 h3 h4=>h C F a w (he _ _ h1) h2 h3 (hs _ _ _ h4)
theorem AWp.ghost{P:Program}{n:Nat}{dfs:List Deferred}{c:Code}{Q:APostT}{env:Env}{S:St}(h:Ghost env S fun env S=>AWp P n dfs c Q env S):AWp P n dfs c Q env S:=by
 intro C F a w h1 h2 h3 h4
 obtain ⟨C1,env1,S1,g1,g2,g3,g4⟩:=h C F a.tmps w h1 h4
 exact wp_mono (g4 C1 F a w g2 h2 h3 g3) fun _ _ _ H=>H.up g1
def Ww(A:Option LoopAnn)(V:APostT->Env->St->Prop)(Q:APostT)(env:Env)(S:St):Prop :=
 match A with
 |none=>False
 |some A=>(∃x,A.inv x/\Bo (A.slots.map (look env)) (A.st x).1/\leS (A.st x).2 S) /\
  ∀x,A.inv x->V (Gr (fun env' S'=>Uz (BZ A.keep env) env'/\∃y,A.inv y/\A.mu y<A.mu x/\Bo (A.slots.map (look env')) (A.st y).1/\leS (A.st y).2 S') Q)
   (A.slots.zip (A.st x).1++BZ A.keep env) (A.st x).2
theorem T4{P : Program}{n : Nat}{dfs : List Deferred}{c : Code}{A : Option LoopAnn}{V : APostT -> Env -> St -> Prop}(hV : ∀Q env S, V Q env S -> AWp P n dfs c Q env S){Q : APostT}{env : Env}{S : St}(h : Ww A V Q env S) :
  AWp P n dfs (.loop c) Q env S:=by
 unfold Ww at h
 split at h
 ·exact h.elim
 ·rename_i A
  obtain ⟨⟨x,hx,hw,hl⟩,hr⟩:=h
  refine AWp.weak (env':=A.slots.zip (A.st x).1++BZ A.keep env) (S':=(A.st x).2) ?_ (fun C tmps he=>CE he (UK he _) _ _ hw) (BbF hl)
  refine AWp.loop (fun k env' S'=>∃x,A.inv x/\A.mu x=k/\env'=A.slots.zip (A.st x).1++BZ A.keep env/\S'=(A.st x).2) (A.mu x) ⟨x,hx,rfl,rfl,rfl⟩ ?_
  rintro k env' S' ⟨x,hx,rfl,rfl,rfl⟩
  refine (hV _ _ _ (hr x hx)).mono ?_
  intro e env' S' hq
  cases e with
  |normal =>
   obtain ⟨ha,y,hy,hm,hw,hl⟩:=hq
   exact⟨A.mu y,hm,_,_,fun C tmps he=>CE he (GG he ha) _ _ hw,BbF hl,y,hy,rfl,rfl,rfl⟩
  |_=>exact hq
def Bdp(Q:APostT):APostT:=fun e env S=>match e with
 |.goto _=>False
 |e=>Q e env S
def Iq(V:APostT->Env->St->Prop)(Q:APostT):Nat->Env->St->Prop
 |0,_,_=>False
 |n+1,env,S=>V (Gr (fun env S=>Iq V Q n env S) Q) env S
theorem MV{P : Program}{n : Nat}{dfs : List Deferred}{c : Code}{V : APostT -> Env -> St -> Prop}(hV : ∀Q env S, V Q env S -> AWp P n dfs c Q env S){Q : APostT}{k : Nat}{env : Env}{S : St}(h : Iq V Q k env S) :
  AWp P n dfs (.loop c) Q env S:=by
 refine AWp.loop (fun k env S=>Iq V Q k env S) k h ?_
 intro k env S hk
 cases k with
 |zero=>exact hk.elim
 |succ k =>
  refine (hV _ _ _ hk).mono ?_
  intro e env' S' hq
  cases e with
  |normal=>exact⟨k,by omega,env',S',fun _ _ h=>h,StTo.refl _,hq⟩
  |_=>exact hq
theorem AWp.frame{P:Program}{n:Nat}{dfs:List Deferred}{c:Code}{Q:APostT}{env:Env}{S:St}(G:St)(h:AWp P n dfs c Q env S):AWp P n dfs c (fun e env S'=>∃S0,S'=S0.add G/\Q e env S0) env (S.add G):=by
 intro C F a w h1 h2 h3 h4
 refine wp_mono (h C (G.add F) a w h1 h2 h3 (by rw[<- St.add_assoc];exact h4)) ?_
 rintro e a' w' ⟨C',x,env',S',b1,b2,b3,b4,b5,b6,b7⟩
 exact⟨C',x,env',S'.add G,b1,b2,b3,b4,by rw[St.add_assoc];exact b5,b6,S',rfl,b7⟩
def IL(A:LoopAnn)(k:Option Nat)(env:Env)(S:St):Prop:=∃x,A.inv x/\(match k with
 |none=>True
 |some k=>A.mu x<k)/\Bo (A.slots.map (look env)) (A.st x).1/\StTo S ((A.st x).2.add (A.fr x))
def WB(A B:LoopAnn)(V:APostT->Env->St->Prop)(Q:APostT)(keep:Env)(X:LoopAnn):Prop :=
 ∀x,X.inv x->V (fun e env' S'=>match e with
  |.normal=>Uz keep env'/\(IL A (some (X.mu x)) env' (S'.add (X.fr x))\/IL B (some (X.mu x)) env' (S'.add (X.fr x)))
  |e=>Q e env' (S'.add (X.fr x))) (X.slots.zip (X.st x).1++keep) (X.st x).2
def RW(A B:LoopAnn)(V:APostT->Env->St->Prop)(Q:APostT)(env:Env)(S:St):Prop :=
 (IL A none env S\/IL B none env S)/\WB A B V Q (BZ A.keep env) A/\WB A B V Q (BZ A.keep env) B
theorem OD{P : Program}{n : Nat}{dfs : List Deferred}{c : Code}{A B : LoopAnn}{V : APostT -> Env -> St -> Prop}(hV : ∀Q env S, V Q env S -> AWp P n dfs c Q env S){Q : APostT}{env : Env}{S : St}(h : RW A B V Q env S) :
  AWp P n dfs (.loop c) Q env S:=by
 obtain ⟨h0,hA,hB⟩:=h
 let I:Nat->Env->St->Prop:=fun k env' S'=>∃X,(X=A\/X=B)/\∃x,X.inv x/\X.mu x=k/\env'=X.slots.zip (X.st x).1++BZ A.keep env/\S'=(X.st x).2.add (X.fr x)
 have start:∃X,(X=A\/X=B)/\IL X none env S:=by
  rcases h0 with h | h
  ·exact⟨A,.inl rfl,h⟩
  ·exact⟨B,.inr rfl,h⟩
 obtain ⟨X,hX,x,hx,_,hw,hl⟩:=start
 refine AWp.weak (env':=X.slots.zip (X.st x).1++BZ A.keep env) (S':=(X.st x).2.add (X.fr x)) ?_ (fun C tmps he=>CE he (UK he _) _ _ hw) hl
 refine AWp.loop I (X.mu x) ⟨X,hX,x,hx,rfl,rfl,rfl⟩ ?_
 rintro k env' S' ⟨Y,hY,y,hy,rfl,rfl,rfl⟩
 have hb:WB A B V Q (BZ A.keep env) Y:=by rcases hY with rfl | rfl<;>assumption
 refine ((hV _ _ _ (hb y hy)).frame (Y.fr y)).mono ?_
 rintro e env' S' ⟨S0,rfl,hq⟩
 cases e with
 |normal =>
  obtain ⟨ha,hq⟩:=hq
  have:∃Z,(Z=A\/Z=B)/\IL Z (some (Y.mu y)) env' (S0.add (Y.fr y)):=by
   rcases hq with h | h
   ·exact⟨A,.inl rfl,h⟩
   ·exact⟨B,.inr rfl,h⟩
  obtain ⟨Z,hZ,z,hz,hm,hw,hl⟩:=this
  exact⟨Z.mu z,hm,_,_,fun C tmps he=>CE he (GG he ha) _ _ hw,hl,Z,hZ,z,hz,rfl,rfl,rfl⟩
 |_=>exact hq
def BbB(A:Option LoopAnn)(l:List Nat)(V:APostT->St->Prop)(Q:APostT)(env:Env)(S:St):Prop :=
 match A with
 |none=>V Q S
 |some A=>match A.dry with
  |true=>V (fun e env' _=>match e with
   |.normal=>∃x,A.inv x/\Bo (A.slots.map (look env')) (A.st x).1
   |_=>False) ⟨[],[]⟩/\∀x,A.inv x->Q .normal (A.slots.zip (A.st x).1++env.filter fun p=>!l.contains p.1) S
  |false=>V (fun e env' S'=>match e with
   |.normal=>∃x,A.inv x/\Bo (A.slots.map (look env')) (A.st x).1/\leS (A.st x).2 S'
   |e=>Q e env' S') S/\∀x,A.inv x->Q .normal (A.slots.zip (A.st x).1++env.filter fun p=>!l.contains p.1) (A.st x).2
theorem Gi{C:Ctx}{l:List Nat}{env:Env}{a a':Act}(he:RepEnv C env a.tmps)(hs:Same l a a'):RepEnv C (env.filter fun p=>!l.contains p.1) a'.tmps:=by
 intro t
 by_cases ht:l.contains t=true
 ·have:look (env.filter fun p=>!l.contains p.1) t=.unk:=by
   have key:∀env:Env,look (env.filter fun p=>!l.contains p.1) t=.unk:=by
    intro env
    induction env with
    |nil=>rfl
    |cons p env ih =>
     simp only[List.filter_cons]
     split
     ·rename_i hp
      simp only[look]
      split
      ·rename_i e;rw[e,ht] at hp;cases hp
      ·exact ih
     ·exact ih
   exact key env
  rw[this];simp[Rep]
 ·rw[hs t (by simpa using ht)]
  rcases EK (fun s=>!l.contains s) env t with h | h<;>rw[h]
  ·simp[Rep]
  ·exact he t
theorem UR{P : Program}{n : Nat}{dfs : List Deferred}{c : Code}{A : Option LoopAnn}{l : List Nat}{V : APostT -> St -> Prop}{Q : APostT}{env : Env}{S : St}
  (hV:∀Q S,V Q S->AWpK P n dfs l c Q env S) (h:BbB A l V Q env S):AWp P n dfs c Q env S:=by
 unfold BbB at h
 split at h
 ·exact (hV _ _ h).awp
 ·rename_i A
  split at h
  ·obtain ⟨h1,h2⟩:=h
   intro C F a w k1 k2 k3 k4
   refine wp_mono (hV _ _ h1 C (S.add F) a w k1 k2 k3 (by simpa[St.add] using k4)) ?_
   rintro e a' w' ⟨⟨C',x,env',S',b1,b2,b3,b4,b5,b6,b7⟩,hs⟩
   cases x with
   |normal =>
    obtain ⟨x,hx,hw⟩:=b7
    have hs:=hs (by cases e<;>first | rfl | exact b6.elim)
    refine⟨C',.normal,_,_,b1,CE b2 (Gi (k1.mono b1) hs) _ _ hw,b3,b4,?_,b6,h2 x hx⟩
    have:=b5.leS (S':=⟨[],[]⟩) (by simp[Ab.leS,chk,nodupB,leO,leT])
    simpa[St.add] using this
   |_=>exact b7.elim
  ·obtain ⟨h1,h2⟩:=h
   intro C F a w k1 k2 k3 k4
   refine wp_mono (hV _ _ h1 C F a w k1 k2 k3 k4) ?_
   rintro e a' w' ⟨⟨C',x,env',S',b1,b2,b3,b4,b5,b6,b7⟩,hs⟩
   cases x with
   |normal =>
    obtain ⟨x,hx,hw,hl⟩:=b7
    have hs:=hs (by cases e<;>first | rfl | exact b6.elim)
    exact⟨C',.normal,_,_,b1,CE b2 (Gi (k1.mono b1) hs) _ _ hw,b3,b4,b5.leS hl,b6,h2 x hx⟩
   |_=>exact⟨C',_,env',S',b1,b2,b3,b4,b5,b6,b7⟩
def Wm(A:Option (LoopAnn×LoopAnn))(l:List Nat)(V:APostT->St->Prop)(W:Prop)(Q:APostT)(env:Env)(S:St):Prop :=
 match A with
 |none=>W
 |some (A, B)=>V (fun e env' _=>match e with
   |.normal=>(∃x,A.inv x/\Bo (A.slots.map (look env')) (A.st x).1)\/∃x,B.inv x/\Bo (B.slots.map (look env')) (B.st x).1
   |_=>False) ⟨[],[]⟩/\(∀x,A.inv x->Q .normal (A.slots.zip (A.st x).1++env.filter fun p=>!l.contains p.1) S)/\∀x,B.inv x->Q .normal (B.slots.zip (B.st x).1++env.filter fun p=>!l.contains p.1) S
theorem Ua{P : Program}{n : Nat}{dfs : List Deferred}{c : Code}{A : Option (LoopAnn×LoopAnn)}{l : List Nat}{V : APostT -> St -> Prop}{W : Prop}{Q : APostT}{env : Env}{S : St}
  (hV:∀Q S,V Q S->AWpK P n dfs l c Q env S) (hW:W->AWp P n dfs c Q env S) (h:Wm A l V W Q env S):AWp P n dfs c Q env S:=by
 unfold Wm at h
 split at h
 ·exact hW h
 ·rename_i A B
  obtain ⟨h1,h2,h3⟩:=h
  intro C F a w k1 k2 k3 k4
  refine wp_mono (hV _ _ h1 C (S.add F) a w k1 k2 k3 (by simpa[St.add] using k4)) ?_
  rintro e a' w' ⟨⟨C',x,env',S',b1,b2,b3,b4,b5,b6,b7⟩,hs⟩
  cases x with
  |normal =>
   have hs:=hs (by cases e<;>first | rfl | exact b6.elim)
   have hst:Sat C' (S.add F) w':=by
    have:=b5.leS (S':=⟨[],[]⟩) (by simp[Ab.leS,chk,nodupB,leO,leT])
    simpa[St.add] using this
   rcases b7 with ⟨x,hx,hw⟩ | ⟨x,hx,hw⟩
   ·exact⟨C',.normal,_,_,b1,CE b2 (Gi (k1.mono b1) hs) _ _ hw,b3,b4,hst,b6,h2 x hx⟩
   ·exact⟨C',.normal,_,_,b1,CE b2 (Gi (k1.mono b1) hs) _ _ hw,b3,b4,hst,b6,h3 x hx⟩
  |_=>exact b7.elim
def T1(E:Senv)(id:Nat)(d:Bool)(ops:List Oper)(V:APostT->St->Prop)(Q:APostT)(env:Env)(S:St)(W:Prop):Prop :=
 match Wv E id d ops with
 |true=>V (fun e env' _=>match e with
   |.normal=>Bo ((ML E ops).map (look env')) (R4 E ops env S)
   |_=>False) S/\Q .normal ((ML E ops).zip (R4 E ops env S)++env.filter fun p=>!(Es ops).contains p.1) S
 |false=>W
theorem OE{E : Senv}{n : Nat}{dfs : List Deferred}{c : Code}{id : Nat}{d : Bool}{ops : List Oper}{V : APostT -> St -> Prop}{Q : APostT}{env : Env}{S : St}{W : Prop}
  (hV:∀Q S,V Q S->AWpK E.P n dfs (Es ops) c Q env S) (hk:Wv E id d ops=true->∀Q S,V Q S->V (fun e env' S'=>S'=S/\Q e env' S) S) (hW:W->AWp E.P n dfs c Q env S) (h:T1 E id d ops V Q env S W):AWp E.P n dfs c Q env S:=by
 unfold T1 at h
 split at h
 ·rename_i hm
  obtain ⟨h1,h2⟩:=h
  intro C F a w k1 k2 k3 k4
  refine wp_mono (hV _ _ (hk hm _ _ h1) C F a w k1 k2 k3 k4) ?_
  rintro e a' w' ⟨⟨C',x,env',S',b1,b2,b3,b4,b5,b6,b7⟩,hs⟩
  cases x with
  |normal =>
   obtain ⟨rfl,hw⟩:=b7
   have hs:=hs (by cases e<;>first | rfl | exact b6.elim)
   exact⟨C',.normal,_,_,b1,CE b2 (Gi (k1.mono b1) hs) _ _ hw,b3,b4,b5,b6,h2⟩
  |_=>exact b7.2.elim
 ·exact hW h
def TK(A:Option LoopAnn)(V:APostT->Prop)(Q:APostT)(env:Env):Prop :=
 match A with
 |none=>V Q
 |some A=>V (fun e env' S'=>match e with
   |.normal=>Uz (BZ A.keep env) env'/\∃x,A.inv x/\Bo (A.slots.map (look env')) (A.st x).1/\leS (A.st x).2 S'
   |e=>Q e env' S')/\∀x,A.inv x->Q .normal (A.slots.zip (A.st x).1++BZ A.keep env) (A.st x).2
theorem OM{P : Program}{n : Nat}{dfs : List Deferred}{c : Code}{A : Option LoopAnn}{V : APostT -> Prop}{Q : APostT}{env : Env}{S : St}
  (hV:∀Q,V Q->AWp P n dfs c Q env S) (h:TK A V Q env):AWp P n dfs c Q env S:=by
 unfold TK at h
 split at h
 ·exact hV _ h
 ·rename_i A
  obtain ⟨h1,h2⟩:=h
  intro C F a w k1 k2 k3 k4
  refine wp_mono (hV _ h1 C F a w k1 k2 k3 k4) ?_
  rintro e a' w' ⟨C',x,env',S',b1,b2,b3,b4,b5,b6,b7⟩
  cases x with
  |normal =>
   obtain ⟨ha,x,hx,hw,hl⟩:=b7
   exact⟨C',.normal,_,_,b1,CE b2 (GG b2 ha) _ _ hw,b3,b4,b5.leS hl,b6,h2 x hx⟩
  |_=>exact⟨C',_,env',S',b1,b2,b3,b4,b5,b6,b7⟩
def vc(E:Senv):Code->Nat->APostT->Env->St->Prop
 |.skip,_,Q,env,S=>Q .normal env S
 |.label _,_,Q,env,S=>Q .normal env S
 |.exit i,_,Q,env,S=>Q (.exit i) env S
 |.goto i,_,Q,env,S=>Q (.goto i) env S
 |.ret,_,Q,env,S=>Q .ret env S
 |.region id ops d,_,Q,env,S=>BR (fun env S=>T1 E id d ops.toList (fun Q S=>match d with
  |true=>Gx E ops.toList (E.ord id).1 (E.ord id).2 (fun e env S=>Q e (prune E.V E.cross env) S) env S
  |false=>chk (ops.toList.all fun o=>Cq E.n o.dst) (CO E ops.toList (fun e env S=>Q e (prune E.V E.cross env) S) (List.range ops.size) env S)) Q env S <|
  Wm (E.cut2 id env S) (Es ops.toList) (fun Q S=>match d with
  |true=>Gx E ops.toList (E.ord id).1 (E.ord id).2 (fun e env S=>Q e (prune E.V E.cross env) S) env S
  |false=>chk (ops.toList.all fun o=>Cq E.n o.dst) (CO E ops.toList (fun e env S=>Q e (prune E.V E.cross env) S) (List.range ops.size) env S))
  (BbB (E.cut id env S) (Es ops.toList) (fun Q S=>match d with
  |true=>Gx E ops.toList (E.ord id).1 (E.ord id).2 (fun e env S=>Q e (prune E.V E.cross env) S) env S
  |false=>chk (ops.toList.all fun o=>Cq E.n o.dst) (CO E ops.toList (fun e env S=>Q e (prune E.V E.cross env) S) (List.range ops.size) env S)) Q env S) Q env S) (E.gz id) env S
 |.seq x y,b,Q,env,S=>vc E x b (Gr (fun env S=>vc E y b Q env S) Q) env S
 |.cond c x y,b,Q,env,S=>match evD env c with
  |.bool t=>ifB t (vc E x b Q env S) (vc E y b Q env S)
  |_=>False
 |.block id c,_,Q,env,S=>TK (E.bcut id env S) (fun Q=>vc E c id (WR id Q) env S) Q env
 |.loop c,b,Q,env,S=>match E.unr b with
  |0=>BR (fun env S=>match E.ann2 b env S with
   |some (A,B)=>RW A B (fun Q env S=>vc E c b Q env S) Q env S
   |none=>Ww (E.ann b env S) (fun Q env S=>vc E c b Q env S) Q env S) (E.gh b) env S
  |k+1=>Iq (fun Q env S=>vc E c b Q env S) Q (k+1) env S
 |.scope c,b,Q,env,S=>vc E c b (Bdp Q) env S
 |_,_,_,_,_=>False
section
variable {E:Senv} {dfs:List Deferred}
theorem BF(hT : EnvOk E) :
  ∀(c:Code) (b:Nat) (Q:APostT) (env:Env) (S:St),vc E c b Q env S->AWp E.P E.n dfs c Q env S
 |.skip,_,_,_,_,h=>.skip h
 |.label _,_,_,_,_,h=>.label h
 |.exit _,_,_,_,_,h=>.exit h
 |.goto _,_,_,_,_,h=>.goto h
 |.ret,_,_,_,_,h=>.ret h
 |.region id ops d,_,Q,env0,S0,h=>by
  simp only[vc] at h
  refine .ghost ((BI _ _ _ h).bind fun env S h=>.none ?_)
  have pr:∀Q S,AWpK E.P E.n dfs (Es ops.toList) (.region id ops d) (fun e env S=>Q e (prune E.V E.cross env) S) env S->AWpK E.P E.n dfs (Es ops.toList) (.region id ops d) Q env S:=by
   intro Q S H C F a w h1 h2 h3 h4
   refine wp_mono (H C F a w h1 h2 h3 h4) ?_
   rintro e a' w' ⟨⟨C',x,env',S',b1,b2,b3,b4,b5,b6,b7⟩,hs⟩
   exact⟨⟨C',x,_,S',b1,b2.sub (I1 E.V E.cross env'),b3,b4,b5,b6,b7⟩,hs⟩
  have one : ∀(Q : APostT) (S : St), (match d with
    |true=>Gx E ops.toList (E.ord id).1 (E.ord id).2 (fun e env S=>Q e (prune E.V E.cross env) S) env S
    |false=>chk (ops.toList.all fun o=>Cq E.n o.dst) (CO E ops.toList (fun e env S=>Q e (prune E.V E.cross env) S) (List.range ops.size) env S))->AWpK E.P E.n dfs (Es ops.toList) (.region id ops d) Q env S:=by
   intro Q S h
   cases d with
   |true =>
    have:=W3 (dfs:=dfs) (id:=id) hT h
    exact pr Q S (by simpa using this)
   |false =>
    obtain ⟨hc,h⟩:=Ba.1 h
    refine pr Q S ?_
    intro C F a w h1 h2 h3 h4
    refine wp_region (Wf (by have:=RC ops.toList;simpa using this) _ _ _ (.refl _ _) ?_)
    have:=En (dfs:=dfs) hT hc (List.range ops.size) C C F env S a w (.refl C) h1 h2 h3 h4 h
    simpa using this
  refine OE one (fun hm Q S hv=>?_) (fun h=>Ua one (fun h=>UR one h) h) h
  unfold Wv at hm
  rw[Bool.and_eq_true] at hm
  cases d with
  |true =>
   have h2:(E.ord id).2=[]:=by simpa using hm.2
   simp only[h2] at hv ⊢
   exact R7 hv
  |false =>
   obtain ⟨hc,hv⟩:=Ba.1 hv
   refine Ba.2 ⟨hc,?_⟩
   have hall:ops.toList.all (fun o=>IM E o.op)=true:=hm.2
   exact Ia (fun i o ho=>List.all_eq_true.1 hall o (List.mem_of_getElem? ho)) _ _ hv
 |.seq x y,b,Q,env,S,h=>by
  simp only[vc] at h
  refine .seq ((BF hT x b _ env S h).mono ?_)
  intro e env S hq
  cases e with
  |normal=>exact BF hT y b Q env S hq
  |_=>exact hq
 |.cond c x y,b,Q,env,S,h=>by
  simp only[vc] at h
  split at h
  ·have h:=Ck h
   exact .cond ‹_› (fun e=>BF hT x b Q env S (by first | exact h.1 e | exact h.2 e)) (fun e=>BF hT y b Q env S (by first | exact h.1 e | exact h.2 e))
  ·exact h.elim
 |.block id c,_,Q,env,S,h=>by
  simp only[vc] at h
  exact OM (fun Q h=>.block (BF hT c id _ env S h)) h
 |.loop c,b,Q,env,S,h=>by
  simp only[vc] at h
  split at h
  ·refine .ghost ((BI _ _ _ h).bind fun env S h=>.none ?_)
   split at h
   ·exact OD (fun Q env S h=>BF hT c b Q env S h) h
   ·exact T4 (fun Q env S h=>BF hT c b Q env S h) h
  ·exact MV (fun Q env S h=>BF hT c b Q env S h) h
 |.rangeFunc ..,_,_,_,_,h=>h.elim
 |.scope c,b,Q,env,S,h=>by
  simp only[vc] at h
  have:=BF hT c b _ env S h
  intro C F a w h1 h2 h3 h4
  refine wp_scope_straight (wp_mono (this C F a w h1 h2 h3 h4) ?_)
  rintro e a' w' ⟨C',x,env',S',b1,b2,b3,b4,b5,b6,b7⟩
  cases e<;>cases x<;>simp only[RepExit] at b6
  case goto.goto=>exact b7.elim
  all_goals exact⟨C',_,env',S',b1,b2,b3,b4,b5,(by simp only[RepExit];try exact b6),b7⟩
 |.refuse _,_,_,_,_,h=>h.elim
end
def TZ(tt:Nat->Option TI)(r:ResultVar)(env:Env)(S:St):Option D :=
 match r with
 |.tmp t=>some (look env t)
 |.cell t ty=>match look env t with
  |.ref b _ o=>match tt ty with
   |some ti=>match Bx S.objs b with
    |some (_,.cells ds)=>if o+CH ti<=ds.length then some (BU ti ds o) else none
    |_=>none
   |none=>none
  |_=>none
def Cn:List ResultVar->Env->St->Prop
 | [],_,_=>True
 |.tmp _::rs,env,S=>Cn rs env S
 |.cell t _::rs,env,S=>match look env t with
  |.ref k x _=>match Bx S.objs k with
   |some (y,_)=>y=x/\Cn rs env S
   |none=>False
  |_=>False
def Ez(tt:Nat->Option TI):List ResultVar->Env->St->Option (List D)
 | [],_,_=>some []
 |r::rs,env,S=>match TZ tt r env S with
  |some d=>match Ez tt rs env S with
   |some ds=>some (d::ds)
   |none=>none
  |none=>none
def OH:List D->D
 | [d]=>d
 |ds=>.tup ds
def TX(A:FnSpec)(x:A.β)(tt:Nat->Option TI)(rs:List ResultVar)(env:Env)(S:St):Prop :=
 match Ez tt rs env S with
 |some ds=>Cn rs env S/\∃y,A.post x y/\(match A.res x y with
  |.ret d=>Bp (OH ds) d
  |.pan _=>False)/\leS (A.out x y) S
 |none=>False
def Bdi(A:FnSpec)(x:A.β)(tt:Nat->Option TI)(gr:List Place)(rs:List ResultVar):APostT:=fun e env S=>match e with
 |.normal=>BR (fun env S=>TX A x tt rs env S) gr env S
 |.ret=>BR (fun env S=>TX A x tt rs env S) gr env S
 |.panic d=>∃y,A.post x y/\(match A.res x y with
  |.ret _=>False
  |.pan d'=>Bp d d')/\leS (A.out x y) S
 |_=>False
def MK(tmps:Array Value):ResultVar->Sem Value
 |.tmp t=>pure (tmps.getD t undef)
 |.cell a t=>do loadVar t (<- asAddr (tmps.getD a undef))
theorem WS{P : Program}{tt : Nat -> Option TI}{C : Ctx}{F S : St}{w : World}{env : Env}{tmps : Array Value}(hT : TabOk P tt)(he : RepEnv C env tmps)(hs : Sat C (S.add F) w){r : ResultVar}{d : D}
  (h:TZ tt r env S=some d) (heq:Cn [r] env S):∃v,(MK tmps r).run P w=.ok v w/\Rep C d v:=by
 cases r with
 |tmp t =>
  simp only[TZ,Option.some.injEq] at h;subst h
  exact⟨_,rfl,he t⟩
 |cell t ty =>
  simp only[TZ] at h
  split at h
  ·rename_i b o hl
   split at h
   ·rename_i ti ht
    split at h
    ·rename_i ds hg
     split at h
     ·rename_i hn
      simp only[Option.some.injEq] at h;subst h
      have hr:=he t
      simp only[Cn,hl,hg] at heq
      obtain ⟨rfl,_⟩:=heq
      rw[hl] at hr
      simp only[Rep] at hr
      have hn':if Ci ti.desc then ti.size<=(ds.drop o).length else 0<(ds.drop o).length:=by
       simp only[CH] at hn
       split at hn<;>simp_all<;>omega
      obtain ⟨u,h1,h2⟩:=Cu (P:=P) hT ht (El hs hg o) hn'
      rw[G7] at h2
      refine⟨u,?_,h2⟩
      simp[MK,hr,asAddr,h1]
     ·cases h
    ·cases h
   ·cases h
  ·cases h
theorem MR{P:Program}{tt:Nat->Option TI}{C:Ctx}{F S:St}{w:World}{env:Env}{tmps:Array Value}(hT:TabOk P tt)(he:RepEnv C env tmps)(hs:Sat C (S.add F) w):∀ {rs:List ResultVar} {ds:List D},
  Ez tt rs env S=some ds->Cn rs env S->∃vs:List Value,(rs.mapM (MK tmps)).run P w=.ok vs w/\RepL C ds vs
 | [],ds,h,_=>by simp only[Ez,Option.some.injEq] at h;subst h;exact⟨[],by simp,by simp[RepL]⟩
 |r::rs,ds,h,heq=>by
  have h0:Cn [r] env S/\Cn rs env S:=by
   cases r with
   |tmp t=>exact⟨trivial,heq⟩
   |cell t ty =>
    simp only[Cn] at heq ⊢
    split at heq
    ·split at heq
     ·exact⟨⟨heq.1,trivial⟩,heq.2⟩
     ·exact heq.elim
    ·exact heq.elim
  simp only[Ez] at h
  split at h
  ·rename_i d hd
   split at h
   ·rename_i ds' hds
    simp only[Option.some.injEq] at h;subst h
    obtain ⟨v,h1,h2⟩:=WS (P:=P) hT he hs hd h0.1
    obtain ⟨vs,h3,h4⟩:=MR hT he hs hds h0.2
    refine⟨v::vs,?_,by simp only[RepL];exact⟨v,vs,rfl,h2,h4⟩⟩
    simp[List.mapM_cons,h1,h3]
   ·cases h
  ·cases h
theorem ED{P : Program}{tt : Nat -> Option TI}{C : Ctx}{F S : St}{w : World}{env : Env}{tmps : Array Value}(hT : TabOk P tt)(he : RepEnv C env tmps)(hs : Sat C (S.add F) w){fn : Func}{ds : List D}
  (h:Ez tt fn.results.toList env S=some ds) (heq:Cn fn.results.toList env S):∃v,(results fn tmps).run P w=.ok v w/\Rep C (OH ds) v:=by
 obtain ⟨vs,h1,h2⟩:=MR (P:=P) hT he hs h heq
 have hf:results fn tmps=(do let vs <- fn.results.mapM (MK tmps);pure (if h:vs.size=1 then vs[0] else .tuple vs)):=by
  unfold results
  congr 1
 have hm:(fn.results.mapM (MK tmps)).run P w=.ok vs.toArray w:=by
  rw[Array.mapM_eq_mapM_toList]
  simp only[Sem.run_map,h1,Result.andThen_ok]
 have hr:(results fn tmps).run P w=.ok (if h:vs.toArray.size=1 then vs.toArray[0] else .tuple vs.toArray) w:=by
  rw[hf]
  simp only[Sem.run_bind,hm,Result.andThen_ok,Sem.run_pure]
 refine⟨_,hr,?_⟩
 have hl:=RepL.length h2
 cases ds with
 |nil =>
  simp only[RepL] at h2;subst h2
  simp[OH,Rep,RepL]
 |cons d r =>
  cases r with
  |nil =>
   simp only[RepL] at h2
   obtain ⟨x,xs,rfl,hx,rfl⟩:=h2
   simpa[OH] using hx
  |cons d' r =>
   have hne:vs.toArray.size≠1:=by simp[hl]
   rw[dif_neg hne]
   simp only[OH,Rep]
   exact⟨_,rfl,by simpa using h2⟩
def BB:Nat->List D->Env
 |_,[]=>[]
 |i,d::ds=>(i,d)::BB (i+1) ds
theorem EN{C:Ctx}:∀ {ds:List D} {vs:List Value} (k:Nat),RepL C ds vs->∀t,k<=t->Rep C (look (BB k ds) t) (vs.getD (t-k) undef)\/look (BB k ds) t=.unk
 | [],vs,k,_,t,_=>.inr rfl
 |d::ds,vs,k,h,t,ht=>by
  simp only[RepL] at h
  obtain ⟨x,xs,rfl,r1,r2⟩:=h
  simp only[BB,look]
  split
  ·rename_i e;subst e;left;simpa using r1
  ·rename_i e
   rcases EN (k+1) r2 t (by omega) with h' | h'
   ·left
    have:t-k=(t-(k+1))+1:=by omega
    rw[this];simpa using h'
   ·exact .inr h'
theorem OY{P : Program}{tt : Nat -> Option TI}{gr : List Place}{f n : Nat}{fn : Func}{c : Code}{A : FnSpec}{x : A.β}(hT : TabOk P tt)(hf : P.funcs[f]? =some fn)(hb : fn.body=some c)
  (hname : (fn.name == "runtime.NumGoroutine") = false) (hn : fn.ntmps = n) (hl : (A.args x).length ≤ n)
  (h:AWp P n [] c (Bdi A x tt gr fn.results.toList) (BB 0 (A.args x)) (A.st x)):ACalls P f (A.args x) (A.st x) (SpecR A x):=by
 refine⟨⟨fn,hf,hname,by simp[hb]⟩,fun C F args w ha hs=>?_⟩
 have hal:args.size=(A.args x).length:=by have:=RepL.length ha;simpa using this
 have hret : ∀ {C' : Ctx} {env' : Env} {S' : St} {a' : Act} {w' : World}, C.le C' -> RepEnv C' env' a'.tmps -> Sat C' (S'.add F) w' -> BR (fun env S=>TX A x tt fn.results.toList env S) gr env' S' ->
   ∃v,(results fn a'.tmps).run P w'=.ok v w'/\∃C' r S',C.le C'/\Sat C' (S'.add F) w'/\RepEnd C' r (.returned v)/\SpecR A x r S':=by
  intro C0 env0 S0 a' w' b1 b2 b5 b7
  obtain ⟨C',env',S',b0,b2,b5,b7⟩:=BI _ _ _ b7 C0 F a'.tmps w' b2 b5
  have b1:=b1.trans b0
  unfold TX at b7
  split at b7
  ·rename_i ds' hds
   obtain ⟨q0,y,q1,q2,q3⟩:=b7
   split at q2
   ·rename_i d hd
    obtain ⟨v,r1,r2⟩:=ED (P:=P) hT b2 b5 hds q0
    exact⟨v,r1,C',.ret d,_,b1,b5.leS q3,Bk _ _ q2 _ _ r2,y,q1,hd.symm,rfl⟩
   ·exact q2.elim
  ·exact b7.elim
 refine calls_of_wp hf hb (wp_mono (h C F _ w ?_ ?_ rfl hs) ?_)
 ·intro t
  rcases EN 0 ha t (Nat.zero_le _) with h' | h'
  ·by_cases ht:t<args.size
   ·have:(args++Array.replicate (fn.ntmps-args.size) undef).getD t undef=args.toList.getD (t-0) undef:=by
     simp[Array.getD_eq_getD_getElem?,Array.getElem?_append_left ht,List.getD_eq_getElem?_getD]
    rw[this];exact h'
   ·have hu:look (BB 0 (A.args x)) t=.unk:=by
     have key:∀(l:List D) (k t:Nat),k+l.length<=t->look (BB k l) t=.unk:=by
      intro l
      induction l with
      |nil=>intros;rfl
      |cons d l ih=>intro k t ht;simp only[List.length_cons] at ht;simp only[BB,look];rw[if_neg (by omega)];exact ih (k+1) t (by omega)
     exact key _ 0 t (by omega)
    rw[hu];simp[Rep]
  ·rw[h'];simp[Rep]
 ·simp only[Array.size_append,Array.size_replicate];omega
 ·rintro e a' w' ⟨C',x',env',S',b1,b2,b3,b4,b5,b6,b7⟩
  cases e<;>cases x'<;>simp only[RepExit] at b6<;>simp only[Bdi] at b7
  case normal.normal =>
   obtain ⟨v,r1,r2⟩:=hret b1 b2 b5 b7
   exact⟨b4,v,r1,r2⟩
  case ret.ret =>
   obtain ⟨v,r1,r2⟩:=hret b1 b2 b5 b7
   exact⟨b4,v,r1,r2⟩
  case panic.panic ch d =>
   obtain ⟨y,q1,q2,q3⟩:=b7
   split at q2
   ·exact q2.elim
   ·rename_i d' hd
    obtain ⟨v,e,hv⟩:=b6
    exact⟨b4,C',.pan d',_,b1,b5.leS q3,⟨v,e,Bk _ _ q2 _ _ hv⟩,y,q1,hd.symm,rfl⟩
  all_goals exact b7.elim
theorem Bl{X T:Prop}(h:X=T)(t:T):X:=h ▸ t
theorem Bg{E : Senv}{f : Nat}{fn : Func}{c : Code}{A : FnSpec}{x : A.β}(hE : EnvOk E)(hf : E.P.funcs[f]? =some fn)(hb : fn.body=some c)
  (hname : (fn.name == "runtime.NumGoroutine") = false) (hn : fn.ntmps = E.n) (hl : (A.args x).length ≤ E.n)
  (h:vc E c 0 (Bdi A x E.tt E.gr fn.results.toList) (BB 0 (A.args x)) (A.st x)):ACalls E.P f (A.args x) (A.st x) (SpecR A x) :=
 OY hE.tab hf hb hname hn hl (BF hE c 0 _ _ _ h)
def WI(R:AEnd->St->Prop)(tt:Nat->Option TI)(rs:List ResultVar):APostT:=fun e env S=>match e with
 |.normal=>match Ez tt rs env S with
  |some ds=>Cn rs env S/\R (.ret (OH ds)) S
  |none=>False
 |.ret=>match Ez tt rs env S with
  |some ds=>Cn rs env S/\R (.ret (OH ds)) S
  |none=>False
 |.panic d=>R (.pan d) S
 |_=>False
theorem Ou{P : Program}{tt : Nat -> Option TI}{f n : Nat}{fn : Func}{c : Code}{ds : List D}{S : St}{R : AEnd -> St -> Prop}(hT : TabOk P tt)(hf : P.funcs[f]? =some fn)(hb : fn.body=some c)
  (hname : (fn.name == "runtime.NumGoroutine") = false) (hn : fn.ntmps = n) (hl : ds.length ≤ n)
  (h:AWp P n [] c (WI R tt fn.results.toList) (BB 0 ds) S):ACalls P f ds S R:=by
 refine⟨⟨fn,hf,hname,by simp[hb]⟩,fun C F args w ha hs=>?_⟩
 have hal:args.size=ds.length:=by have:=RepL.length ha;simpa using this
 have hret : ∀ {C' : Ctx} {env' : Env} {S' : St} {a' : Act} {w' : World}, C.le C' -> RepEnv C' env' a'.tmps -> Sat C' (S'.add F) w' -> (match Ez tt fn.results.toList env' S' with
    |some ds=>Cn fn.results.toList env' S'/\R (.ret (OH ds)) S'
    |none=>False) ->
   ∃v,(results fn a'.tmps).run P w'=.ok v w'/\∃C' r S',C.le C'/\Sat C' (S'.add F) w'/\RepEnd C' r (.returned v)/\R r S':=by
  intro C0 env0 S0 a' w' b1 b2 b5 b7
  split at b7
  ·rename_i ds' hds
   obtain ⟨v,r1,r2⟩:=ED (P:=P) hT b2 b5 hds b7.1
   exact⟨v,r1,C0,.ret _,_,b1,b5,r2,b7.2⟩
  ·exact b7.elim
 refine calls_of_wp hf hb (wp_mono (h C F _ w ?_ ?_ rfl hs) ?_)
 ·intro t
  rcases EN 0 ha t (Nat.zero_le _) with h' | h'
  ·by_cases ht:t<args.size
   ·have:(args++Array.replicate (fn.ntmps-args.size) undef).getD t undef=args.toList.getD (t-0) undef:=by
     simp[Array.getD_eq_getD_getElem?,Array.getElem?_append_left ht,List.getD_eq_getElem?_getD]
    rw[this];exact h'
   ·have hu:look (BB 0 ds) t=.unk:=by
     have key:∀(l:List D) (k t:Nat),k+l.length<=t->look (BB k l) t=.unk:=by
      intro l
      induction l with
      |nil=>intros;rfl
      |cons d l ih=>intro k t ht;simp only[List.length_cons] at ht;simp only[BB,look];rw[if_neg (by omega)];exact ih (k+1) t (by omega)
     exact key _ 0 t (by omega)
    rw[hu];simp[Rep]
  ·rw[h'];simp[Rep]
 ·simp only[Array.size_append,Array.size_replicate];omega
 ·rintro e a' w' ⟨C',x',env',S',b1,b2,b3,b4,b5,b6,b7⟩
  cases e<;>cases x'<;>simp only[RepExit] at b6<;>simp only[WI] at b7
  case normal.normal =>
   obtain ⟨v,r1,r2⟩:=hret b1 b2 b5 b7
   exact⟨b4,v,r1,r2⟩
  case ret.ret =>
   obtain ⟨v,r1,r2⟩:=hret b1 b2 b5 b7
   exact⟨b4,v,r1,r2⟩
  case panic.panic ch d =>
   obtain ⟨v,e,hv⟩:=b6
   exact⟨b4,C',.pan d,_,b1,b5,⟨v,e,hv⟩,b7⟩
  all_goals exact b7.elim
structure Frm where
 fn:Func
 n:Nat
 V:Nat
 cross:List Nat
 ord:Nat->List Nat×List Nat
 unr:Nat->Nat:=fun _=>5000
 own:Nat->Bool:=fun _=>false
 mg:Nat->Nat:=fun _=>0
def G2:List (Nat×Frm)->Nat->Option Frm
 | [],_=>none
 |(s,i)::r,t=>match Nat.beq s t with
  |true=>some i
  |false=>G2 r t
def FrmOk(P : Program)(fr : Nat → Option Frm) : Prop := ∀ k A, fr k = some A → P.funcs[k]? = some A.fn ∧ A.fn.ntmps = A.n ∧ (A.fn.name == "runtime.NumGoroutine") = false
theorem FrmOk.nil(P:Program):FrmOk P (G2 []):=by intro k A h;cases h
theorem FrmOk.cons{P : Program}{l : List (Nat × Frm)}{k : Nat}{A : Frm}(h1 : P.funcs[k]? = some A.fn)(h2 : A.fn.ntmps = A.n)(h3 : (A.fn.name == "runtime.NumGoroutine") = false)(h : FrmOk P (G2 l)) : FrmOk P (G2 ((k, A) :: l)) := by
 intro j B hj
 simp only[G2] at hj
 split at hj
 ·rename_i e
  have e:=Nat.eq_of_beq_eq_true e
  subst e
  injection hj with hj;subst hj
  exact⟨h1,h2,h3⟩
 ·exact h j B hj
theorem ACalls.to{P:Program}{k:FuncId}{ds:List D}{S:St}{R R':AEnd->St->Prop}(h:ACalls P k ds S R)(hr:∀r S',R r S'->∃S'',StTo S' S''/\R' r S''):ACalls P k ds S R' :=
 ⟨h.1,fun C F args w ha hs=>(h.2 C F args w ha hs).mono fun _ _ ⟨C',r,_S',h1,h2,h3,h4⟩=>let ⟨S'',q1,q2⟩:=hr _ _ h4;⟨C',r,S'',h1,q1 _ _ _ h2,h3,q2⟩⟩
theorem RH{E : Senv}{f : Nat}{fn : Func}{c : Code}{ds : List D}{S : St}{R : AEnd -> St -> Prop}(hE : EnvOk E)(hf : E.P.funcs[f]? =some fn)(hb : fn.body=some c)
  (hname : (fn.name == "runtime.NumGoroutine") = false) (hn : fn.ntmps = E.n) (hl : ds.length ≤ E.n) (h : vc E c 0 (WI R E.tt fn.results.toList) (BB 0 ds) S) : ACalls E.P f ds S R :=
 Ou hE.tab hf hb hname hn hl (BF hE c 0 _ _ _ h)
theorem ACalls.from{P:Program}{k:FuncId}{ds:List D}{S S0:St}{R:AEnd->St->Prop}(h:ACalls P k ds S0 R)(hs:StTo S S0):ACalls P k ds S R :=
 ⟨h.1,fun C F args w ha h0=>h.2 C F args w ha (hs _ _ _ h0)⟩
abbrev C8 (α:Type) (a b:α):Prop:=a=b
theorem Oq(m:Mode):BH m m:=by cases m<;>simp[BH]
mutual
theorem Eu:∀(d:D),Bp d d
 |.unk=>by simp[Bp]
 |.bool b=>by simp[Bp]
 |.int k n=>by simp[Bp,Ba,kEq]
 |.str s=>by simp[Bp]
 |.nilp=>by simp[Bp]
 |.ref _ x o=>by simp[Bp,Ba]
 |.pt row=>by simp[Bp]
 |.sl w n f m=>by simp[Bp,Ba,Oq]
 |.ms _ x o len cap w=>by simp[Bp,Ba]
 |.vs _ x len cap w=>by simp[Bp,Ba]
 |.er _ x i w fo=>by simp[Bp,Ba]
 |.nmap=>by simp[Bp]
 |.map _ x=>by simp[Bp]
 |.fn f a c=>by simp[Bp]
 |.nilf=>by simp[Bp]
 |.iface t d=>by simp only[Bp];exact⟨trivial,Eu d⟩
 |.nili=>by simp[Bp]
 |.agg cs=>by simp only[Bp];exact Bq cs
 |.tup cs=>by simp only[Bp];exact Bq cs
theorem Bq:∀(ds:List D),Bo ds ds
 | []=>by simp[Bo]
 |d::ds=>by simp only[Bo];exact⟨Eu d,Bq ds⟩
end
theorem Bh{b:Bool}{X Y:Prop}:ifB b X Y↔(b=true->X)/\(b=false->Y):=by cases b<;>simp[ifB]
def Bdq:List (Nat×Nat×AObj)->List (Nat×Nat×AObj)->Prop
 | [],[]=>True
 |(_,x,o)::r,(_,y,o')::r'=>x=y/\GX o o'/\Bdq r r'
 |_,_=>False
def Bem:List (Nat×Nat)->List (Nat×Nat)->Prop
 | [],[]=>True
 |(_,t)::r,(_,t')::r'=>t=t'/\Bem r r'
 |_,_=>False
def posS(S S':St):Prop:=Bdq S.objs S'.objs/\Bem S.toks S'.toks
theorem I3:∀ {l l':List (Nat×Nat×AObj)},Bdq l l'->l.map (·.2.1)=l'.map (·.2.1)
 | [],[],_=>rfl
 |(_,x,o)::r,(_,y,o')::r',h=>by
  obtain ⟨h1,_,h3⟩:=h
  simp only[List.map_cons,I3 h3,h1]
 | [],_::_,h=>h.elim
 |_::_,[],h=>h.elim
theorem UU:∀ {l l':List (Nat×Nat×AObj)},Bdq l l'->∀p,p∈l'->∃q,q∈l/\q.2.1=p.2.1/\GX q.2.2 p.2.2
 | [],[],_,_,hp=>by cases hp
 |(k,x,o)::r,(_,y,o')::r',h,p,hp=>by
  obtain ⟨h1,h2,h3⟩:=h
  rcases List.mem_cons.1 hp with rfl | hp
  ·exact⟨(k,x,o),by simp,h1,h2⟩
  ·obtain ⟨q,q1,q2,q3⟩:=UU h3 p hp
   exact⟨q,by simp[q1],q2,q3⟩
 | [],_::_,h,_,_=>h.elim
 |_::_,[],h,_,_=>h.elim
theorem O8:∀ {l l':List (Nat×Nat)},Bem l l'->l.map (·.2)=l'.map (·.2)
 | [],[],_=>rfl
 |(_,x)::r,(_,y)::r',h=>by
  obtain ⟨h1,h3⟩:=h
  simp only[List.map_cons,O8 h3,h1]
 | [],_::_,h=>h.elim
 |_::_,[],h=>h.elim
theorem Sat.pos{C:Ctx}{S S' F:St}{w:World}(H:Sat C (S.add F) w)(h:posS S S'):Sat C (S'.add F) w:=by
 obtain ⟨hO,hT⟩:=h
 have b1:=I3 hO
 have b2:=O8 hT
 have mem:∀p,p∈(S'.add F).objs->∃q,q∈(S.add F).objs/\q.2.1=p.2.1/\(GX q.2.2 p.2.2\/q=p):=by
  intro p hp
  rcases List.mem_append.1 hp with hp | hp
  ·obtain ⟨q,q1,q2,q3⟩:=UU hO p hp
   exact⟨q,by simp[St.add,q1],q2,.inl q3⟩
  ·exact⟨p,by simp[St.add,hp],rfl,.inr rfl⟩
 have tk:∀t,t∈(S'.add F).toks->∃s,s∈(S.add F).toks/\s.2=t.2:=by
  intro t ht
  rcases List.mem_append.1 ht with ht | ht
  ·have:t.2∈S.toks.map (·.2):=by rw[b2];exact List.mem_map.2 ⟨t,ht,rfl⟩
   obtain ⟨s,hs,e⟩:=List.mem_map.1 this
   exact⟨s,by simp[St.add,hs],e⟩
  ·exact⟨t,by simp[St.add,ht],rfl⟩
 refine⟨H.below,H.imm,H.one,?_,?_,?_,?_,H.tfin,?_⟩
 ·intro p hp
  obtain ⟨q,q1,q2,q3⟩:=mem p hp
  obtain ⟨c1,c2,c3⟩:=H.objs q q1
  rw[q2] at c1 c2 c3
  rcases q3 with q3 | rfl
  ·exact⟨c1,IN q3 c2,MH q3 c3⟩
  ·exact⟨c1,c2,c3⟩
 ·have:=H.nodup
  simp only[St.add,List.map_append,b1] at this ⊢
  exact this
 ·intro t ht
  obtain ⟨s,s1,s2⟩:=tk t ht
  obtain ⟨x,k1,k2,k3⟩:=H.toks s s1
  rw[s2] at k1 k2
  refine⟨x,k1,k2,fun p hp=>?_⟩
  obtain ⟨q,q1,q2,_⟩:=mem p hp
  rw[<- q2];exact k3 q q1
 ·have:=H.tnodup
  simp only[St.add,List.map_append,b2] at this ⊢
  exact this
 ·intro t t' b n c wd b' n' c' wd' ht ht' hne e e'
  obtain ⟨s,s1,s2⟩:=tk t ht
  obtain ⟨s',s1',s2'⟩:=tk t' ht'
  exact H.tdist s s' b n c wd b' n' c' wd' s1 s1' (by rw[s2,s2'];exact hne) (by rw[s2];exact e) (by rw[s2'];exact e')
def FnSpec.fits(A:FnSpec)(x:A.β)(p:Prop):FnSpec where
 β:=A.β
 α:=A.α
 args:=A.args
 st:=A.st
 pre:=fun y=>p/\A.pre y
 post:=A.post
 res:=A.res
 out:=A.out
 fit:=some x
theorem FnSpec.fits_ok{P : Program}{k : Nat}{ds : List D}{S : St}{A : FnSpec}{x : A.β}{p : Prop}(h1 : ∀y, A.pre y -> ACalls P k (A.args y) (A.st y) (SpecR A y))(h2 : p -> Bo ds (A.args x) /\ leS (A.st x) S) :
  (∀y,(A.fits x p).pre y->ACalls P k ((A.fits x p).args y) ((A.fits x p).st y) (SpecR (A.fits x p) y))/\(∀y,(A.fits x p).fit=some y->(A.fits x p).pre y->Bo ds ((A.fits x p).args y)/\leS ((A.fits x p).st y) S)/\((A.fits x p).all=true->∀y,(A.fits x p).pre y->Bo ds ((A.fits x p).args y)/\(A.fits x p).st y=S) :=
 ⟨fun y hy=>h1 y hy.2,fun y hy hp=>(by injection hy with e;subst e;exact h2 hp.1),fun h=>nomatch h⟩
theorem ConOk.plain{P : Program}{k : Nat}{ds : List D}{S : St}{A : FnSpec}(h1 : ∀y, A.pre y -> ACalls P k (A.args y) (A.st y) (SpecR A y))(h : A.fit=none)(h' : A.all=false) :
  (∀y,A.pre y->ACalls P k (A.args y) (A.st y) (SpecR A y))/\(∀y,A.fit=some y->A.pre y->Bo ds (A.args y)/\leS (A.st y) S)/\(A.all=true->∀y,A.pre y->Bo ds (A.args y)/\A.st y=S) :=
 ⟨h1,fun y hy=>(by rw[h] at hy;cases hy),fun h0=>(by rw[h'] at h0;cases h0)⟩
theorem ConOk.whole{P : Program}{k : Nat}{ds : List D}{S : St}{A : FnSpec}(h1 : ∀y, A.pre y -> ACalls P k (A.args y) (A.st y) (SpecR A y))(h : A.fit=none)(h2 : ∀y, A.pre y -> Bo ds (A.args y) /\ A.st y=S) :
  (∀y,A.pre y->ACalls P k (A.args y) (A.st y) (SpecR A y))/\(∀y,A.fit=some y->A.pre y->Bo ds (A.args y)/\leS (A.st y) S)/\(A.all=true->∀y,A.pre y->Bo ds (A.args y)/\A.st y=S) :=
 ⟨h1,fun y hy=>(by rw[h] at hy;cases hy),fun _=>h2⟩
theorem StTo.perm{S S':St}{r1:List (Nat×AObj)}{r2:List Nat}(h1:List.Perm (S'.objs.map (·.2)++r1) (S.objs.map (·.2)))(h2:List.Perm (S'.toks.map (·.2)++r2) (S.toks.map (·.2))):StTo S S':=by
 intro C F w H
 obtain ⟨q1,q2,q3,q4,q5,q6,q7,q8,q9⟩:=H
 have ho:∀p,p∈(S'.add F).objs->∃q,q∈(S.add F).objs/\q.2=p.2:=by
  intro p hp
  rcases List.mem_append.1 hp with hp | hp
  ·have:p.2∈S.objs.map (·.2):=h1.subset (List.mem_append.2 (.inl (List.mem_map.2 ⟨p,hp,rfl⟩)))
   obtain ⟨q,hq,e⟩:=List.mem_map.1 this
   exact⟨q,List.mem_append.2 (.inl hq),e⟩
  ·exact⟨p,List.mem_append.2 (.inr hp),rfl⟩
 have ht:∀p,p∈(S'.add F).toks->∃q,q∈(S.add F).toks/\q.2=p.2:=by
  intro p hp
  rcases List.mem_append.1 hp with hp | hp
  ·have:p.2∈S.toks.map (·.2):=h2.subset (List.mem_append.2 (.inl (List.mem_map.2 ⟨p,hp,rfl⟩)))
   obtain ⟨q,hq,e⟩:=List.mem_map.1 this
   exact⟨q,List.mem_append.2 (.inl hq),e⟩
  ·exact⟨p,List.mem_append.2 (.inr hp),rfl⟩
 have n1:((S'.add F).objs.map (·.2.1)).Nodup:=by
  have e1:((S'.objs.map (·.2.1)++r1.map (·.1))++F.objs.map (·.2.1)).Nodup:=by
   have hp:((S'.objs.map (·.2.1)++r1.map (·.1))++F.objs.map (·.2.1)).Perm ((S.add F).objs.map (·.2.1)):=by
    have:=(h1.map (·.1)).append_right (F.objs.map (·.2.1))
    simpa[St.add,List.map_map,Function.comp_def] using this
   exact hp.nodup_iff.2 q5
  rw[List.append_assoc] at e1
  have hs:List.Sublist ((S'.add F).objs.map (·.2.1)) (S'.objs.map (·.2.1)++(r1.map (·.1)++F.objs.map (·.2.1))):=by
   simp only[St.add,List.map_append]
   exact List.Sublist.append (List.Sublist.refl _) (List.sublist_append_right _ _)
  exact hs.nodup e1
 have n2:((S'.add F).toks.map (·.2)).Nodup:=by
  have e1:((S'.toks.map (·.2)++r2)++F.toks.map (·.2)).Nodup:=by
   have hp:((S'.toks.map (·.2)++r2)++F.toks.map (·.2)).Perm ((S.add F).toks.map (·.2)):=by
    have:=h2.append_right (F.toks.map (·.2))
    simpa[St.add] using this
   exact hp.nodup_iff.2 q7
  rw[List.append_assoc] at e1
  have hs:List.Sublist ((S'.add F).toks.map (·.2)) (S'.toks.map (·.2)++(r2++F.toks.map (·.2))):=by
   simp only[St.add,List.map_append]
   exact List.Sublist.append (List.Sublist.refl _) (List.sublist_append_right _ _)
  exact hs.nodup e1
 refine⟨q1,q2,q3,fun p hp=>?_,n1,fun t htm=>?_,n2,q8,fun t t' b n c wd b' n' c' wd' m1 m2 hne e1 e2=>?_⟩
 ·obtain ⟨q,hq,e⟩:=ho p hp
  rw[<- e];exact q4 q hq
 ·obtain ⟨q,hq,e⟩:=ht t htm
  obtain ⟨x,r1,r2,r3⟩:=q6 q hq
  rw[e] at r1 r2
  refine⟨x,r1,r2,fun p hp=>?_⟩
  obtain ⟨q',hq',e'⟩:=ho p hp
  rw[<- e'];exact r3 q' hq'
 ·obtain ⟨s,hs,es⟩:=ht t m1
  obtain ⟨s',hs',es'⟩:=ht t' m2
  exact q9 s s' b n c wd b' n' c' wd' hs hs' (by rw[es,es'];exact hne) (by rw[es];exact e1) (by rw[es'];exact e2)
theorem StTo.trans{A B C:St}(h:StTo A B)(k:StTo B C):StTo A C:=fun X F w H=>k X F w (h X F w H)
def GR(W:World)(hG:G0 W):Ctx:=⟨W,hG,fun b o=>(W.cell? ⟨b,o,none⟩).filter (·.oneCell'),fun _=>none⟩
theorem Ba3{W:World}{hG:G0 W}{b o:Nat}{v:Value}(h:W.cell? ⟨b,o,none⟩=some v)(h1:v.oneCell'=true):(GR W hG).imm b o=some v:=by
 simp[GR,h,h1]
theorem sat0(W:World)(hG:G0 W):Sat (GR W hG) (⟨[],[]⟩:St) W where
 below:=Below.refl _ _
 imm:=fun b o v h=>by
  simp only[GR,Option.filter_eq_some_iff] at h
  exact h.1
 one:=fun b o v h=>by
  simp only[GR,Option.filter_eq_some_iff] at h
  exact h.2
 objs:=fun p hp=>by cases hp
 nodup:=by simp
 toks:=fun t ht=>by cases ht
 tnodup:=by simp
 tfin:=⟨0,fun _ _=>rfl⟩
 tdist:=fun t t' b n c wd b' n' c' wd' h=>by cases h
variable {P:Program} {W:World}
def wOk{H:Type}(P:Program)(t:TypeId)(d:DataW H):Prop:=∀x∈d.weights P t,x<=ER
theorem RJ{H:Type}{P:Program}{e:TypeId}:∀ {l:List (DataW H)},(∀x∈DataW.weightsAll P e l,x<=ER)->∀d∈l,wOk P e d
 | [],_,d,hd=>by cases hd
 |a::l,h,d,hd=>by
  simp only[DataW.weightsAll,List.mem_append] at h
  rcases List.mem_cons.1 hd with rfl | hd
  ·exact fun x hx=>h x (.inl hx)
  ·exact RJ (fun x hx=>h x (.inr hx)) d hd
def ReadAt(P:Program)(W:World)(n:Nat)(t:TypeId)(R:List D->Prop):Prop :=
 ∀(hG:G0 W) (H:Type) (enc:TypeId×Value->H) (cs:List Value) (d:DataW H) (ps:List MemPlace),DataW.trod enc P W 0 (fun _=>true) true n t cs=some (d,ps)->wOk P t d ->
  (∃ds,R ds/\RepL (GR W hG) ds cs)/\∀v∈cs,v.oneCell'=true
def Reads(P:Program)(t:TypeId)(R:List D->Prop):Prop:=∀W n,ReadAt P W n t R
theorem ReadAt.zero(t:TypeId)(R:List D->Prop):ReadAt P W 0 t R:=by
 intro hG H enc cs d ps h _;simp[DataW.trod] at h
theorem ReadAt.mono{n:Nat}{t:TypeId}{R R':List D->Prop}(h:ReadAt P W n t R)(k:∀ds,R ds->R' ds):ReadAt P W n t R':=by
 intro hG H enc cs d ps hd hw
 obtain ⟨⟨ds,h1,h2⟩,h3⟩:=h hG H enc cs d ps hd hw
 exact⟨⟨ds,k _ h1,h2⟩,h3⟩
def RInt(k:IntKind):List D->Prop:=fun ds=>∃n,ds=[.int k n]/\k.min<=n/\n<=k.max
def RSlice(w:Nat)(R:List D->Prop):List D->Prop:=fun ds=>ds=[.sl w 0 (fun _=>[]) .nil]\/∃l:List (List D),(∀x∈l,R x)/\l.length<=ER/\ds=[.sl w l.length (fun i=>l.getD i []) .any]
def RSeq:List (List D->Prop)->List D->Prop
 | [],ds=>ds=[]
 |R::Rs,ds=>∃a b,R a/\RSeq Rs b/\ds=a++b
theorem Uh{t:TypeId}{k:IntKind}(ht:P.underlying t=some (.int k)):Reads P t (RInt k):=by
 intro W n
 cases n with
 |zero=>exact .zero _ _
 |succ n =>
  intro hG H enc cs d ps h hwt
  simp only[DataW.trod,ht] at h
  split at h<;>try (simp_all;done)
  rename_i k' k2 m h1
  injection h1 with h1;injection h1 with h1;subst h1
  split at h
  ·rename_i hc
   obtain ⟨rfl,hw⟩:=hc
   refine⟨⟨[.int k2 m],⟨m,rfl,?_⟩,by simp[RepL,Rep]⟩,by simp[Value.oneCell']⟩
   simpa[Lit.wf] using hw
  ·cases h
theorem OR{base:Nat}{a:Addr}{n:Nat}{cs:List Value}(h:W.cells? base a n=some cs):cs.length=n/\∀i,i<n->W.cell? (a.add i)=cs[i]? :=by
 unfold World.cells? at h
 split at h
 ·refine⟨by simpa using mapM_some_length h,fun i hi=>mapM_some_get h i i (by simp[hi])⟩
 ·cases h
theorem Un{a:Addr}(h:a.spot=none)(i:Nat):a.add i=⟨a.block,a.off+i,none⟩:=by
 obtain ⟨b,o,s⟩:=a
 simp only at h;subst h
 exact Addr.add_mk ..
theorem Bdk{a:Addr}{v:Value}(h:W.cell? a=some v):a.spot=none:=by
 unfold World.cell? at h
 split at h
 ·split at h
  ·cases h
  ·rename_i hs;simpa using hs
 ·cases h
theorem R9{hG:G0 W}{b o:Nat}:∀ {ds:List D} {cs:List Value},RepL (GR W hG) ds cs->(∀v∈cs,v.oneCell'=true)->(∀i,i<cs.length->W.cell? ⟨b,o+i,none⟩=cs[i]?)->RepCells (GR W hG) b o ds:=by
 intro ds
 induction ds generalizing o with
 |nil=>intro cs _ _ _;trivial
 |cons d ds ih =>
  intro cs h1 h2 h3
  simp only[RepL] at h1
  obtain ⟨x,xs,rfl,r1,r2⟩:=h1
  simp only[RepCells]
  refine⟨⟨x,Ba3 (by simpa using h3 0 (by simp)) (h2 x (by simp)),r1⟩,ih r2 (fun v hv=>h2 v (by simp[hv])) fun i hi=>?_⟩
  have:=h3 (i+1) (by simpa using hi)
  simpa[Nat.add_assoc,Nat.add_comm 1 i] using this
theorem WK{t e:TypeId}{w:Nat}{R:List D->Prop}(ht:P.underlying t=some (.slice e))(hw:P.cellsOf e=w)(hc:0<w)(hby:0<P.bytesOf e){n:Nat}(he:ReadAt P W n e R):ReadAt P W (n+1) t (RSlice w R):=by
 intro hG H enc cs d ps h hwt
 simp only[DataW.trod,ht] at h
 split at h<;>try (simp_all;done)
 ·refine⟨⟨_,.inl rfl,?_⟩,by simp[Value.oneCell']⟩
  simp only[RepL,Rep]
  exact⟨_,_,rfl,⟨none,0,0,rfl,⟨rfl,Nat.le_refl _,by simp[maxLen],fun _=>⟨rfl,rfl⟩,fun _ h=>(by cases h),rfl⟩,fun _ h=>by cases h⟩,rfl⟩
 ·rename_i e' a len cap h1
  injection h1 with h1;injection h1 with h1;subst h1
  rw[hw] at h
  split at h
  ·rename_i hb
   obtain ⟨_,hlc,hcm⟩:=hb
   obtain ⟨els,hels,h⟩:=Option.bind_eq_some_iff.1 h
   obtain ⟨rest,hrest,hde⟩:=Option.map_eq_some_iff.1 h
   injection hde with hde _
   subst hde
   have hwt:∀y∈(els.length+rest.length)*P.bytesOf e::(DataW.weightsAll P e (els.map (·.1))++DataW.weightsAll P e (rest.map (·.1))),y<=ER:=fun y hy=>hwt y (by simpa[DataW.weights,ht] using hy)
   have hwe:=RJ (P:=P) (e:=e) (l:=els.map (·.1)) fun y hy=>hwt y (List.mem_cons_of_mem _ (List.mem_append_left _ hy))
   simp only[if_true] at hrest
   have hlen:els.length=len:=by simpa using mapM_some_length hels
   have hlb:len<=ER:=by
    have h1:=hwt _ List.mem_cons_self
    have h2:els.length+rest.length<=(els.length+rest.length)*P.bytesOf e:=Nat.le_mul_of_pos_right _ hby
    omega
   have hat:∀i,i<len->∃cs' x,W.cells? 0 (a.add (i*w)) w=some cs'/\DataW.trod enc P W 0 (fun _=>true) true n e cs'=some x/\wOk P e x.1:=by
    intro i hi
    have:=mapM_some_get hels i i (by simp[hi])
    rw[List.getElem?_eq_getElem (by omega)] at this
    obtain ⟨cs',q1,q2⟩:=Option.bind_eq_some_iff.1 this
    exact⟨cs',_,q1,q2,hwe _ (List.mem_map.2 ⟨_,List.getElem_mem _,rfl⟩)⟩
   have hsp:0<cap->a.spot=none:=by
    intro hcap
    have key:∃cs',W.cells? 0 (a.add 0) w=some cs':=by
     by_cases hl:0<len
     ·obtain ⟨cs',_,q,_,_⟩:=hat 0 hl
      exact⟨cs',by simpa using q⟩
     ·have hrl:rest.length=cap-len:=by simpa using mapM_some_length hrest
      have:=mapM_some_get hrest 0 0 (by rw[List.getElem?_range (by omega)])
      rw[List.getElem?_eq_getElem (by omega)] at this
      obtain ⟨cs',q1,_⟩:=Option.bind_eq_some_iff.1 this
      have hz:len=0:=by omega
      subst hz
      exact⟨cs',by simpa using q1⟩
    obtain ⟨cs',q⟩:=key
    obtain ⟨hl,hq⟩:=OR q
    have h0:=hq 0 hc
    rw[List.getElem?_eq_getElem (by omega)] at h0
    have:=Bdk h0
    simpa[Addr.add] using this
   have rows:∀i,i<len->∃row,R row/\row.length=w/\RepCells (GR W hG) a.block (a.off+i*w) row:=by
    intro i hi
    obtain ⟨cs',x,q1,q2,q3⟩:=hat i hi
    obtain ⟨⟨row,hR,hrep⟩,h1⟩:=he hG H enc cs' x.1 x.2 q2 q3
    obtain ⟨hl,hq⟩:=OR q1
    have hs:=hsp (by omega)
    refine⟨row,hR,by rw[<- RepL.length hrep,hl],?_⟩
    refine R9 hrep h1 fun j hj=>?_
    have:=hq j (by omega)
    rw[Un hs,Un rfl] at this
    exact this
   have mk:∀m,m<=len->∃l:List (List D),l.length=m/\(∀x∈l,R x)/\∀i,i<m->(l.getD i []).length=w/\RepCells (GR W hG) a.block (a.off+i*w) (l.getD i []):=by
    intro m
    induction m with
    |zero=>exact fun _=>⟨[],rfl,by simp,fun i hi=>by omega⟩
    |succ m ih =>
     intro hm
     obtain ⟨l,q1,q2,q3⟩:=ih (by omega)
     obtain ⟨row,r1,r2,r3⟩:=rows m (by omega)
     refine⟨l++[row],by simp[q1],fun x hx=>?_,fun i hi=>?_⟩
     ·rcases List.mem_append.1 hx with hx | hx
      ·exact q2 x hx
      ·rw[List.mem_singleton] at hx;subst hx;exact r1
     ·by_cases him:i<m
      ·have:(l++[row]).getD i []=l.getD i []:=by
        simp[List.getD_eq_getElem?_getD,List.getElem?_append_left (show i<l.length by omega)]
       rw[this];exact q3 i him
      ·have hi:i=m:=by omega
       subst hi
       have:(l++[row]).getD i []=row:=by simp[List.getD_eq_getElem?_getD,<- q1]
       rw[this];exact⟨r2,r3⟩
   obtain ⟨l,q1,q2,q3⟩:=mk len (Nat.le_refl _)
   refine⟨⟨_,.inr ⟨l,q2,by omega,rfl⟩,?_⟩,by simp[Value.oneCell']⟩
   simp only[RepL,Rep]
   refine⟨_,_,rfl,⟨some a,len,cap,rfl,⟨q1.symm,by omega,hcm,(fun h=>by cases h),fun x hx h0=>by cases hx;exact hsp h0,trivial⟩,fun x hx i hi=>?_⟩,rfl⟩
   cases hx
   exact q3 i (by omega)
  ·cases h
def BaN(P:Program):List Field->Nat->Nat->Bool
 | [],o,n=>o==n
 |f::fs,o,n=>f.offset==o&&BaN P fs (o+P.cellsOf f.type) n
def FieldsAt(P:Program)(W:World)(n:Nat):List Field->List (List D->Prop)->Prop
 | [],[]=>True
 |f::fs,R::Rs=>ReadAt P W n f.type R/\FieldsAt P W n fs Rs
 |_,_=>False
theorem I7(hG : G0 W){H : Type}{enc : TypeId×Value -> H}{n : Nat}{cs : List Value} : ∀(fs : List Field) (Rs : List (List D -> Prop)) (o : Nat) (xs : List (DataW H×List MemPlace)), BaN P fs o cs.length=true -> FieldsAt P W n fs Rs -> (∀y∈DataW.weightsEach P (fs.map (·.type)) (xs.map (·.1)), y<=ER) ->
  (fs.mapM fun f=>DataW.trod enc P W 0 (fun _=>true) true n f.type ((cs.drop f.offset).take (P.cellsOf f.type)))=some xs ->
  (∃ds,RSeq Rs ds/\RepL (GR W hG) ds (cs.drop o))/\∀v∈cs.drop o,v.oneCell'=true
 | [],Rs,o,xs,hl,hf,_,_=>by
  simp only[BaN,beq_iff_eq] at hl
  subst hl
  cases Rs with
  |nil=>exact⟨⟨[],rfl,by simp[RepL]⟩,by simp⟩
  |cons _ _=>exact hf.elim
 |f::fs,Rs,o,xs,hl,hf,hwt,hm=>by
  simp only[BaN,Bool.and_eq_true,beq_iff_eq] at hl
  obtain ⟨ho,hl⟩:=hl
  cases Rs with
  |nil=>exact hf.elim
  |cons R Rs =>
   obtain ⟨h1,h2⟩:=hf
   rw[List.mapM_cons] at hm
   obtain ⟨x,hx,hm⟩:=Option.bind_eq_some_iff.1 hm
   obtain ⟨ys,hy,hm⟩:=Option.bind_eq_some_iff.1 hm
   obtain rfl:x::ys=xs:=by simpa using hm
   simp only[List.map_cons,DataW.weightsEach,List.mem_append] at hwt
   obtain ⟨⟨a,ra,rb⟩,r1⟩:=h1 hG H enc _ x.1 x.2 hx (fun y hy=>hwt y (.inl hy))
   obtain ⟨⟨b,sa,sb⟩,s1⟩:=I7 hG fs Rs (o+P.cellsOf f.type) ys hl h2 (fun y hy=>hwt y (.inr hy)) hy
   rw[ho] at rb r1
   have e:cs.drop o=(cs.drop o).take (P.cellsOf f.type)++cs.drop (o+P.cellsOf f.type):=by
    rw[<- List.drop_drop,List.take_append_drop]
   refine⟨⟨a++b,⟨a,b,ra,sa,rfl⟩,by rw[e];exact RepL.append rb sb⟩,fun v hv=>?_⟩
   rw[e] at hv
   rcases List.mem_append.1 hv with hv | hv
   ·exact r1 v hv
   ·exact s1 v hv
theorem Uo{t:TypeId}{fs:Array Field}{Rs:List (List D->Prop)}(ht:P.underlying t=some (.struct fs))(hl:BaN P fs.toList 0 (P.cellsOf t)=true){n:Nat}(hf:FieldsAt P W n fs.toList Rs):ReadAt P W (n+1) t (RSeq Rs):=by
 intro hG H enc cs d ps h hwt
 unfold DataW.trod at h
 rw[ht] at h
 simp only at h
 split at h
 ·rename_i hc
  obtain ⟨xs,hx,hde⟩:=Option.map_eq_some_iff.1 h
  injection hde with hde _
  subst hde
  rw[<- hc] at hl
  simpa using I7 hG fs.toList Rs 0 xs hl hf (fun y hy=>hwt y (by simpa[DataW.weights,ht] using hy)) hx
 ·cases h
def I5(P:Program)(t:TypeId):Bool:=match P.underlying t with
 |some (.struct _)=>false
 |some (.array _ _)=>false
 |_=>true
theorem WL{t:TypeId}{base:Nat}{v:Value}(hf:I5 P t=true)(h:Value.okWide P W .any base t v):v.cells.toList=[v]:=by
 cases v with
 |agg cs =>
  unfold I5 at hf
  unfold Value.okWide at h
  split at h<;>try (simp_all;done)
  unfold Cell.okWide at h
  split at h<;>try (simp_all;done)
  unfold Cell.ok at h
  split at h<;>simp_all
 |_=>rfl
theorem Bat{t:TypeId}{base:Nat}{v:Value}(hf:I5 P t=false)(h:Value.okWide P W .any base t v):∃cs,v=.agg cs:=by
 unfold I5 at hf
 unfold Value.okWide at h
 split at hf
 ·rename_i q;rw[q] at h;obtain ⟨cs,h,_⟩:=h;exact⟨cs,h⟩
 ·rename_i q;rw[q] at h;obtain ⟨cs,h,_⟩:=h;exact⟨cs,h⟩
 ·cases hf
def RArgs(P:Program):List (TypeId×(List D->Prop))->List D->Prop
 | [],ds=>ds=[]
 |(t,R)::rs,ds=>∃d r,ds=d::r/\(match I5 P t with
  |true=>R [d]
  |false=>∃cs,d=.agg cs/\R cs)/\RArgs P rs r
theorem Tb(hG : G0 W){H : Type}{enc : TypeId×Value -> H}{base : Nat} : ∀(rs : List (TypeId×(List D -> Prop))) (vs : List Value) (ds : List (DataW H)) (ps : List MemPlace), (∀r∈rs, Reads P r.1 r.2) ->
  (∀(j:Nat) t v,(rs.map (·.1))[j]? =some t->vs[j]? =some v->Value.okWide P W .any base t v)->DataW.TrodAll enc P W 0 (fun _=>true) true (rs.map (·.1)) vs ds ps->(∀x∈DataW.weightsEach P (rs.map (·.1)) ds,x<=ER)->∃Ds,RArgs P rs Ds/\RepL (GR W hG) Ds vs
 | [],[],[],_,_,_,_,_=>⟨[],rfl,by simp[RepL]⟩
 |(t,R)::rs,v::vs,d::ds,ps,hr,hv,h,hwt=>by
  simp only[List.map_cons,DataW.weightsEach,List.mem_append] at hwt
  obtain ⟨p,q,h1,h2,_⟩:=h
  obtain ⟨Ds,k1,k2⟩:=Tb hG rs vs ds q (fun r hm=>hr r (by simp[hm])) (fun j t v e1 e2=>hv (j+1) t v (by simpa using e1) (by simpa using e2)) h2 (fun x hx=>hwt x (.inr hx))
  obtain ⟨fuel,h1⟩:=h1
  have ok:=hv 0 t v rfl rfl
  obtain ⟨⟨es,r1,r2⟩,_⟩:=hr (t,R) (by simp) W fuel hG H enc _ d p h1 (fun x hx=>hwt x (.inl hx))
  cases hf:I5 P t with
  |true =>
   rw[WL hf ok] at r2
   have:∃e,es=[e]:=by
    have:=RepL.length r2
    cases es with
    |nil=>simp[RepL] at r2
    |cons e es'=>cases es' with
     |nil=>exact⟨e,rfl⟩
     |cons _ _=>simp at this
   obtain ⟨e,rfl⟩:=this
   simp only[RepL] at r2
   obtain ⟨x,xs,e1,r2,e2⟩:=r2
   injection e1 with e1;subst e1
   exact⟨e::Ds,⟨e,Ds,rfl,by rw[hf];exact r1,k1⟩,by simp only[RepL];exact⟨v,vs,rfl,r2,k2⟩⟩
  |false =>
   obtain ⟨cs,rfl⟩:=Bat hf ok
   refine⟨.agg es::Ds,⟨.agg es,Ds,rfl,by rw[hf];exact⟨es,rfl,r1⟩,k1⟩,?_⟩
   simp only[RepL]
   exact⟨.agg cs,vs,rfl,by simp only[Rep];exact⟨cs,rfl,r2⟩,k2⟩
 | [],_::_,_,_,_,_,h,_=>h.elim
 | [],[],_::_,_,_,_,h,_=>h.elim
 |_::_,[],_,_,_,_,h,_=>h.elim
 |_::_,_::_,[],_,_,_,h,_=>h.elim
theorem GW{H : Type}{enc : TypeId×Value -> H}(hl : laidOutB P=true){W' : World}(hb : Below W.heap.size W W'){sp : Nat -> Bool} : ∀(ts : List TypeId) (vs : List Value) (ds : List (DataW H)) (ps : List MemPlace), (∀t∈ts, P.readableRec t=true /\ t<P.types.size) ->
  (∀x∈ps,x.block<W.heap.size)->(∀x∈ps,sp x.block=true)->DataW.TrodAll enc P W 0 (fun _=>true) true ts vs ds ps->DataW.TrodAll enc P W' 0 sp true ts vs ds ps
 | [],[],[],ps,_,_,_,h=>h
 |t::ts,v::vs,d::ds,ps,ht,hp,hq,h=>by
  obtain ⟨p,q,h1,h2,rfl⟩:=h
  exact⟨p,q,WideElems.Trod_stays hl (ht t (by simp)).1 (ht t (by simp)).2 h1 (fun x hx=>hb.same (hp x (by simp[hx]))) (fun x hx=>hq x (by simp[hx])),
   GW hl hb ts vs ds q (fun t hm=>ht t (by simp[hm])) (fun x hx=>hp x (by simp[hx])) (fun x hx=>hq x (by simp[hx])) h2,rfl⟩
 | [],[],_::_,_,_,_,_,h=>h.elim
 | [],_::_,_,_,_,_,_,h=>h.elim
 |_::_,[],_,_,_,_,_,h=>h.elim
 |_::_,_::_,[],_,_,_,_,h=>h.elim
open ChangeShapes in
theorem II{P : Program}{k : FuncId}{fn : Func}{s : ChangeSpec}{apart fresh handsOn again : Bool}{H : Type}{enc : TypeId×Value -> H}
  (hl:laidOutB P=true) (hread:fn.params.toList.all (fun t=>P.readableRec t&&decide (t<P.types.size))=true)
  (hvars:s.vars=[]) (hs:∀ds:List (DataW H),ds.length=fn.params.size->(s.fn H ds).results=[.lit (.bool true)]/\(s.fn H ds).args=ds/\(s.fn H ds).vars=[])
  {rt:TypeId} (hrt:fn.resultTypes=#[rt]) (hb:P.underlying rt=some .bool)
  {rs:List (TypeId×(List D->Prop))} (hrs:rs.map (·.1)=fn.params.toList) (hrd:∀r∈rs,Reads P r.1 r.2)
  (W:World) (hG:G0 W) (base:Nat) (args:Array Value) (ds gs:List (DataW H)) (before:List MemPlace)
  (hval:∀(j:Nat) t v,fn.params[j]? =some t->args[j]? =some v->Value.okWide P W .any base t v)
  (hW:DataW.Whole enc P fn.params.toList s.vars apart W args.toList ds gs before)
  (hsz:(DataW.weightsEach P (fn.params.toList++s.plain.varTypes P) (ds++gs)).all (·<=ER)=true)
  (law:∀Ds,RArgs P rs Ds->RepL (GR W hG) Ds args.toList->ACalls P k Ds ⟨[],[]⟩ (fun r _=>r=.ret (.bool true))) :
  Calls P k args W fun e W'=>∃v,e=.returned v/\s.post enc P fn apart fresh handsOn again W args v W':=by
 have hW':=hW
 obtain ⟨p,q,hA,hV,rfl,hfz,hnd⟩:=hW
 rw[hvars] at hV
 obtain ⟨rfl,rfl⟩:gs=[]/\q=[]:=by
  cases gs with
  |nil=>exact⟨rfl,hV⟩
  |cons _ _=>exact hV.elim
 obtain ⟨Ds,r1,r2⟩:=Tb hG rs args.toList ds p hrd (fun j t v e1 e2=>hval j t v (by rw[hrs] at e1;simpa using e1) (by simpa using e2)) (by rw[hrs];exact hA) (by
  have h1:s.plain.varTypes P=[]:=by simp[ChangeSpec.plain,DataSpec.varTypes,hvars]
  rw[h1,List.append_nil,List.append_nil] at hsz
  rw[hrs]
  intro x hx
  simpa using List.all_eq_true.1 hsz x hx)
 refine ((law Ds r1 r2).2 (GR W hG) ⟨[],[]⟩ args W r2 (sat0 W hG)).mono ?_
 rintro e W' ⟨C',r,S',hc,hsat,hr,rfl⟩
 have hbel:Below W.heap.size W W':=by
  have:=hsat.below
  rw[hc.w0] at this
  exact this
 cases e with
 |returned v =>
  simp only[RepEnd,Rep] at hr
  subst hr
  refine⟨.bool true,rfl,?_⟩
  have hlen:(ds++([]:List (DataW H))).length=fn.params.size:=by
   have key:∀(ts:List TypeId) (vs:List Value) (ds:List (DataW H)) (ps:List MemPlace),DataW.TrodAll enc P W 0 (fun _=>true) true ts vs ds ps->ds.length=ts.length:=by
    intro ts
    induction ts with
    |nil=>intro vs ds ps h;cases vs<;>cases ds<;>first | rfl | exact h.elim
    |cons t ts ih=>intro vs ds ps h;cases vs<;>cases ds<;>first | exact h.elim | (obtain ⟨_,_,_,h2,_⟩:=h;simp[ih _ _ _ h2])
   simpa using key _ _ _ _ hA
  obtain ⟨e1,e2,e3⟩:=hs _ hlen
  have hlt:∀x∈p++[],x.block<W.heap.size:=fun x hx=>by simpa using hW'.lt x hx
  have hrd':∀t∈fn.params.toList,P.readableRec t=true/\t<P.types.size:=fun t ht=>by
   have:=List.all_eq_true.1 hread t ht
   simpa using this
  have hres:∀(b:Nat) (sp:Nat->Bool) (hd:Bool),DataW.TrodAll enc P W' b sp hd fn.resultTypes.toList ((Value.bool true).resultList fn.resultTypes.size) (s.fn H (ds++[])).results []:=by
   intro b sp hd
   rw[e1,hrt]
   exact⟨[],[],⟨1,by simp[DataW.trod,hb,Value.cells]⟩,rfl,rfl⟩
  have hargs:∀sp:Nat->Bool,(∀x∈p++[],sp x.block=true)->DataW.TrodAll enc P W' 0 sp true fn.params.toList args.toList (s.fn H (ds++[])).args p:=by
   intro sp hsp
   rw[e2,List.append_nil]
   exact GW hl hbel _ _ _ _ hrd' (fun x hx=>hlt x (by simpa using hx)) (fun x hx=>hsp x (by simpa using hx)) hA
  have hvars':∀sp:Nat->Bool,DataW.TrodVars enc P W' sp s.vars (s.fn H (ds++[])).vars []:=by
   intro sp;rw[hvars,e3];rfl
  have hold:∀x∈p++[],(fun b=>decide (b<W.heap.size)) x.block=true:=fun x hx=>by simpa using hlt x hx
  refine⟨ds,[],p++[],[],p,[],hW',hres _ _ _,hargs _ hold,hvars' _,World.keptBut_mono (fun x hx=>⟨hx,.inr (by simpa using hx)⟩) (hbel.frame (·∈p++[])),fun _=>?_⟩
  refine⟨?_,_,_,([]++p)++[],⟨[]++p,[],trodAll_append (hargs _ (fun _ _=>rfl)) (hres _ _ _),hvars' _,rfl,?_,?_⟩,?_⟩
  ·intro j t r hj hv
   rw[hrt] at hj hv
   match j with
   |0 =>
    simp[Value.resultList] at hj hv
    subst hj;subst hv
    simp[Value.okWide,hb,Cell.okWide,Cell.ok]
   |j+1=>simp at hj
  ·intro b off hp
   have hx:MemPlace.cell b off∈p:=by simpa using hp
   have:=hlt _ (by simpa using hx)
   rw[hbel.frozen (p:=⟨b,off,none⟩) this]
   exact hfz b off (by simpa using hx)
  ·intro ha
   simpa using hnd ha
  ·intro x hx _
   simpa using hx
 |panicked c=>exact hr.elim
 |outgrown=>exact hr.elim
theorem Ts{P : Program}{k : FuncId}{fn : Func}{s : ChangeSpec}{apart fresh handsOn again : Bool}{H : Type}{enc : TypeId×Value -> H}
  (hl:laidOutB P=true) (hread:fn.params.toList.all (fun t=>P.readableRec t&&decide (t<P.types.size))=true)
  (hvars:s.vars=[]) (hs:∀ds:List (DataW H),ds.length=fn.params.size->(s.fn H ds).results=[.lit (.bool true)]/\(s.fn H ds).args=ds/\(s.fn H ds).vars=[])
  {rt:TypeId} (hrt:fn.resultTypes=#[rt]) (hb:P.underlying rt=some .bool)
  {rs:List (TypeId×(List D->Prop))} (hrs:rs.map (·.1)=fn.params.toList) (hrd:∀r∈rs,Reads P r.1 r.2)
  (W:World) (hG:G0 W) (base:Nat) (args:Array Value) (ds gs:List (DataW H)) (before:List MemPlace)
  (hval:∀(j:Nat) t v,fn.params[j]? =some t->args[j]? =some v->Value.okWide P W .any base t v)
  (hW:DataW.Whole enc P fn.params.toList s.vars apart W args.toList ds gs before)
  (hsz:(DataW.weightsEach P (fn.params.toList++s.plain.varTypes P) (ds++gs)).all (·<=ER)=true)
  (law:∀Ds,RArgs P rs Ds->ACalls P k Ds ⟨[],[]⟩ (fun r _=>r=.ret (.bool true))) :
  Calls P k args W fun e W'=>∃v,e=.returned v/\s.post enc P fn apart fresh handsOn again W args v W':=II hl hread hvars hs hrt hb hrs hrd W hG base args ds gs before hval hW hsz fun Ds h _=>law Ds h
theorem RArgs.flat{t:TypeId}{R:List D->Prop}{rs:List (TypeId×(List D->Prop))}{Ds:List D}(hf:I5 P t=true)(h:RArgs P ((t,R)::rs) Ds):∃d r,Ds=d::r/\R [d]/\RArgs P rs r:=by
 obtain ⟨d,r,e,h1,h2⟩:=h
 rw[hf] at h1
 exact⟨d,r,e,h1,h2⟩
theorem RArgs.agg{t:TypeId}{R:List D->Prop}{rs:List (TypeId×(List D->Prop))}{Ds:List D}(hf:I5 P t=false)(h:RArgs P ((t,R)::rs) Ds):∃cs r,Ds=.agg cs::r/\R cs/\RArgs P rs r:=by
 obtain ⟨d,r,e,h1,h2⟩:=h
 rw[hf] at h1
 obtain ⟨cs,rfl,h1⟩:=h1
 exact⟨cs,r,e,h1,h2⟩
theorem RArgs.nil{Ds:List D}(h:RArgs P [] Ds):Ds=[]:=h
theorem ACalls.weakArgs{k:FuncId}{ds ds':List D}{S:St}{R:AEnd->St->Prop}(h:ACalls P k ds' S R)(hw:Bo ds ds'):ACalls P k ds S R :=
 ⟨h.1,fun C F args w ha hs=>h.2 C F args w (BM _ _ hw _ _ ha) hs⟩
def DefRep(C:Ctx)(d:Deferred)(g:Nat)(ds:List D):Prop:=∃cap,d.target=.fn (.func g) cap/\RepL C ds (d.args++cap).toList
theorem DefRep.mono{C C':Ctx}(h:C.le C'){d:Deferred}{g:Nat}{ds:List D}(H:DefRep C d g ds):DefRep C' d g ds :=
 let ⟨cap,h1,h2⟩:=H;⟨cap,h1,RepL.mono h _ _ h2⟩
def T0:Op->Option (Operand×List Operand)
 |.defer c=>match c.callee with
  |.value f=>some (f,c.args.toList)
  |_=>none
 |_=>none
def MU(E:Senv)(ops:List Oper)(Q:APostT)(QD:Nat->List D->APostT):List Nat->Env->St->Prop
 | [],_,_=>False
 |i::rest,env,S=>match ops[i]? with
  |none=>False
  |some o=>match T0 o.op with
   |some (f,axs)=>match o.guard with
    |none=>match evD env f with
     |.fn (.func g) first cap=>CO E ops (QD g (first++axs.map (evD env)++cap)) rest (putD env o.dst (.tup [])) S
     |_=>False
    |some _=>False
   |none=>C3 ops o env
    (fun env=>C9 E o.op env S (fun d S'=>MU E ops Q QD rest (putD env o.dst d) S') (fun d S'=>Q (.panic d) env S'))
    (fun env=>MU E ops Q QD rest (putD env o.dst (.tup [])) S)
def APostD(C0:Ctx)(F:St)(n:Nat)(Q:APostT)(QD:Nat->List D->APostT)(e:Exit)(a:Act)(w:World):Prop :=
 APost C0 F n [] Q e a w\/∃d g ds C',C0.le C'/\DefRep C' d g ds/\APost C' F n [d] (QD g ds) e a w
theorem B5{P:Program}{ops:Array Oper}{Q Q':Exit->Act->World->Prop}(hl:LetsOut Q->LetsOut Q')(h:∀e a w,Q e a w->Q' e a w):∀(l:List Nat) (a:Act) (w:World),wpOps P ops Q l a w->wpOps P ops Q' l a w
 | [],a,w,k=>h _ _ _ k
 |i::rest,a,w,k=>by
  simp only[wpOps] at k ⊢
  split at k
  ·rename_i ho;exact B5 hl h rest a w k
  ·rename_i o ho
   split at k
   ·rename_i hw
    rw[if_pos hw]
    rcases k with k | ⟨k1,k2⟩
    ·left
     unfold Oper.wp at k ⊢
     unfold Oper.upon at k ⊢
     split at k
     ·exact B5 hl h rest _ _ k
     ·exact B5 hl h rest _ _ k
     ·exact B5 hl h rest _ _ k
     ·refine Calls.mono k ?_
      rintro e w'' q
      cases e with
      |returned v=>exact B5 hl h rest _ _ q
      |panicked ch=>exact h _ _ _ q
      |outgrown=>exact hl q
     ·refine Rows.mono k ?_
      rintro v w'' q
      exact B5 hl h rest _ _ q
     ·exact h _ _ _ k
     ·exact k.elim
    ·exact .inr ⟨k1,hl k2⟩
   ·rename_i hw
    rw[if_neg hw]
    exact B5 hl h rest _ _ k
section
variable {E:Senv} {C:Ctx} {F S:St} {w:World} {env:Env} {a:Act}
theorem LetsOut.postD{C0:Ctx}{n:Nat}{dfs:List Deferred}{Q1:APostT}{Z:Prop}(h:LetsOut (APost C0 F n dfs Q1)):Z:=by
 obtain ⟨a,w,C',x,env,S,_,_,_,_,_,h6,_⟩:=h
 cases x<;>exact h6.elim
theorem Ux{C : Ctx}{u : Value}{g : Nat}{first cap ds : List D}{vs : Array Value}{P : Program}{w : World}(hu : Rep C (.fn (.func g) first cap) u)(hr : RepL C ds vs.toList) :
  ∃d,(Deferred.ofValue u vs).run P w=.ok d w/\DefRep C d g (first++ds++cap):=by
 simp only[Rep] at hu
 obtain ⟨a',c',rfl,h1,h2⟩:=hu
 refine⟨_,rfl,c',rfl,?_⟩
 simp only[Array.toList_append]
 exact RepL.append (RepL.append h1 hr) h2
theorem G4{ops : List Oper}{Q : APostT}{QD : Nat -> List D -> APostT}(hT : EnvOk E)(hok : ops.all (fun o=>Cq E.n o.dst)=true) :
  ∀(l:List Nat) (C0 C:Ctx) (F:St) (env:Env) (S:St) (a:Act) (w:World),C0.le C->RepEnv C env a.tmps->a.tmps.size=E.n->a.defers=[]->Sat C (S.add F) w->MU E ops Q QD l env S ->
   wpOps E.P ops.toArray (APostD C0 F E.n Q QD) l a w
 | [],C0,C,F,env,S,a,w,h0,h1,h2,h3,h4,h=>h.elim
 |i::rest,C0,C,F,env,S,a,w,h0,h1,h2,h3,h4,h=>by
  simp only[MU] at h
  simp only[wpOps]
  cases ho:ops[i]? with
  |none=>rw[ho] at h;exact h.elim
  |some o =>
   rw[ho] at h
   have:(ops.toArray)[i]? =some o:=by simpa using ho
   rw[this]
   have hdst:Cq a.tmps.size o.dst=true:=by
    rw[h2];exact List.all_eq_true.1 hok o (List.mem_of_getElem? ho)
   simp only at h ⊢
   split at h
   ·rename_i f axs hd
    split at h
    ·rename_i hg
     split at h
     ·rename_i g first cap hf
      have hw:Region.wanted o (yielded ops.toArray a.tmps)=true:=by unfold Region.wanted;rw[hg]
      rw[hw]
      simp only[if_true]
      left
      obtain ⟨args,hop,hargs⟩:∃c:Call,o.op=.defer c/\c.callee=.value f/\c.args.toList=axs:=by
       unfold T0 at hd
       split at hd
       ·rename_i c hc
        split at hd
        ·rename_i f' hf'
         injection hd with hd
         injection hd with q1 q2
         exact⟨c,by simpa using hc,by rw[hf',q1],q2⟩
        ·cases hd
       ·cases hd
      have hu:=GD h1 f
      rw[hf] at hu
      have hv:RepL C (axs.map (evD env)) (args.args.map a.eval).toList:=by
       rw[Array.toList_map,hargs.2];exact GC h1 axs
      obtain ⟨d,hrun,hdef⟩:=Ux (P:=E.P) (w:=w) hu hv
      have hex:(execOp a.eval o).run E.P w=.ok (.defer d) w:=by
       unfold execOp
       rw[hop]
       simp only[resolve,hargs.1,Sem.run_bind,hrun,Result.andThen_ok,Sem.run_pure]
      unfold Oper.wp
      rw[hex,Oper.upon_defer]
      refine B5 (fun h=>LetsOut.postD h) ?_ _ _ _ (En (dfs:=[d]) hT hok rest C C F _ S ({ a with defers:=d::a.defers }.put o.dst undef) w (.refl C) (RepEnv.putD (a:={ a with defers:=d::a.defers }) h1 hdst (Em C)) (by rw[Ex];exact h2) (by rw[Co];simp[h3]) h4 h)
      intro e a' w' hq
      exact .inr ⟨d,g,_,C,h0,hdef,hq⟩
     ·exact h.elim
    ·exact h.elim
   ·rcases OU (a:=a) h1 h with ⟨hw,env',he,hr⟩ | ⟨hw,env',he,hr⟩
    ·rw[hw]
     simp only[if_true]
     refine .inl (Mv (GF hT he h4 o hr) ?_ ?_)
     ·intro C' d S' v w' k1 k2 k3 k4
      refine G4 hT hok rest C0 C' F _ S' _ w' (h0.trans k1) ((he.mono k1).putD hdst k2) (by rw[Ex,h2]) (by rw[Co,h3]) k3 k4
     ·intro C' d S' v w' k1 k2 k3 k4
      exact .inl ⟨C',.panic d,env',S',h0.trans k1,he.mono k1,h2,h3,k3,⟨v,rfl,k2⟩,k4⟩
    ·rw[hw]
     simp only[Bool.false_eq_true,if_false]
     exact G4 hT hok rest C0 C F _ S _ w h0 (he.putD hdst (Em C)) (by rw[Ex,h2]) (by rw[Co,h3]) h4 hr
end
def IC:Code->Bool
 |.region _ ops _=>ops.toList.any fun o=>(T0 o.op).isSome
 |.seq x y=>IC x||IC y
 |_=>false
def vcD(E:Senv):Code->Nat->APostT->(Nat->List D->APostT)->Env->St->Prop
 |.region _ ops d,_,Q,QD,env,S=>match d with
  |true=>False
  |false=>chk (ops.toList.all fun o=>Cq E.n o.dst) (MU E ops.toList (fun e env S=>Q e (prune E.V E.cross env) S) (fun g ds e env S=>QD g ds e (prune E.V E.cross env) S) (List.range ops.size) env S)
 |.seq x y,b,Q,QD,env,S=>match IC x with
  |true=>vcD E x b (Gr (fun _ _=>False) Q) (fun g ds=>Gr (fun env S=>vc E y b (QD g ds) env S) (QD g ds)) env S
  |false=>vc E x b (Gr (fun env S=>vcD E y b Q QD env S) Q) env S
 |_,_,_,_,_,_=>False
def AWpD(P:Program)(n:Nat)(c:Code)(Q:APostT)(QD:Nat->List D->APostT)(env:Env)(S:St):Prop :=
 ∀(C:Ctx) (F:St) (a:Act) (w:World),RepEnv C env a.tmps->a.tmps.size=n->a.defers=[]->Sat C (S.add F) w->c.wp P (APostD C F n Q QD) a w
theorem APost.prune{C:Ctx}{F:St}{n V:Nat}{cross:List Nat}{dfs:List Deferred}{Q:APostT}{e:Exit}{a:Act}{w:World}(h:APost C F n dfs (fun e env S=>Q e (prune V cross env) S) e a w):APost C F n dfs Q e a w:=by
 obtain ⟨C',x,env,S,h1,h2,r1,r2,r3,r4,r5⟩:=h
 exact⟨C',x,_,S,h1,h2.sub (I1 _ _ _),r1,r2,r3,r4,r5⟩
theorem APostD.up{C C1:Ctx}{F:St}{n:Nat}{Q:APostT}{QD:Nat->List D->APostT}{e:Exit}{a:Act}{w:World}(h:C.le C1)(H:APostD C1 F n Q QD e a w):APostD C F n Q QD e a w:=by
 rcases H with H | ⟨d,g,ds,C',h1,h2,h3⟩
 ·exact .inl (H.up h)
 ·exact .inr ⟨d,g,ds,C',h.trans h1,h2,h3⟩
theorem IU{E:Senv}(hT:EnvOk E):∀(c:Code) (b:Nat) (Q:APostT) (QD:Nat->List D->APostT) (env:Env) (S:St),vcD E c b Q QD env S->AWpD E.P E.n c Q QD env S
 |.region id ops d,b,Q,QD,env,S,h=>by
  simp only[vcD] at h
  split at h
  ·exact h.elim
  ·obtain ⟨hok,h⟩:=Ba.1 h
   intro C F a w h1 h2 h3 h4
   refine wp_mono (wp_region (by simpa using G4 hT hok _ C C F env S a w (.refl C) h1 h2 h3 h4 h)) ?_
   rintro e a' w' (H | ⟨d,g,ds,C',q1,q2,q3⟩)
   ·exact .inl H.prune
   ·exact .inr ⟨d,g,ds,C',q1,q2,q3.prune⟩
 |.seq x y,b,Q,QD,env,S,h=>by
  simp only[vcD] at h
  split at h
  ·intro C F a w h1 h2 h3 h4
   refine wp_seq (wp_mono (IU hT x b _ _ env S h C F a w h1 h2 h3 h4) ?_)
   rintro e a' w' (⟨C',x,env',S',a1,a2,a3,a4,a5,a6,a7⟩ | ⟨d,g,ds,C1,q1,q2,C',x,env',S',a1,a2,a3,a4,a5,a6,a7⟩)
   ·cases e<;>cases x<;>simp only[RepExit] at a6
    case normal.normal=>exact a7.elim
    all_goals exact .inl ⟨C',_,env',S',a1,a2,a3,a4,a5,(by simp only[RepExit];try exact a6),a7⟩
   ·cases e<;>cases x<;>simp only[RepExit] at a6
    case normal.normal =>
     refine wp_mono (BF hT y b _ env' S' a7 C' F a' w' a2 a3 a4 a5) ?_
     intro e a2 w2 H
     exact .inr ⟨d,g,ds,C',q1.trans a1,q2.mono a1,H⟩
    all_goals exact .inr ⟨d,g,ds,C1,q1,q2,C',_,env',S',a1,a2,a3,a4,a5,(by simp only[RepExit];try exact a6),a7⟩
  ·intro C F a w h1 h2 h3 h4
   refine wp_seq (wp_mono (BF (dfs:=[]) hT x b _ env S h C F a w h1 h2 h3 h4) ?_)
   rintro e a' w' ⟨C',x,env',S',a1,a2,a3,a4,a5,a6,a7⟩
   cases e<;>cases x<;>simp only[RepExit] at a6
   case normal.normal=>exact wp_mono (IU hT y b _ _ env' S' a7 C' F a' w' a2 a3 a4 a5) fun _ _ _ H=>H.up a1
   all_goals exact .inl ⟨C',_,env',S',a1,a2,a3,a4,a5,(by simp only[RepExit];try exact a6),a7⟩
 |.skip,_,_,_,_,_,h=>by simp only[vcD] at h
 |.label _,_,_,_,_,_,h=>by simp only[vcD] at h
 |.exit _,_,_,_,_,_,h=>by simp only[vcD] at h
 |.goto _,_,_,_,_,_,h=>by simp only[vcD] at h
 |.ret,_,_,_,_,_,h=>by simp only[vcD] at h
 |.cond _ _ _,_,_,_,_,_,h=>by simp only[vcD] at h
 |.block _ _,_,_,_,_,_,h=>by simp only[vcD] at h
 |.loop _,_,_,_,_,_,h=>by simp only[vcD] at h
 |.scope _,_,_,_,_,_,h=>by simp only[vcD] at h
 |.rangeFunc ..,_,_,_,_,_,h=>by simp only[vcD] at h
def Bd4:Option D->D
 |none=>.nili
 |some d=>d
def RepRec(C:Ctx):Option D->FrameMode->FrameMode->Prop
 |none,u,u'=>u=.returning/\u'=.returning
 |some d,u,u'=>∃v,Rep C d v/\u=.panicking [{ v,recovered:=false }]/\u'=.panicking [{ v,recovered:=true }]
theorem RepRec.mono{C C':Ctx}(h:C.le C'){r:Option D}{u u':FrameMode}(H:RepRec C r u u'):RepRec C' r u u':=by
 cases r with
 |none=>exact H
 |some d=>obtain ⟨v,h1,h2⟩:=H;exact⟨v,Rep.mono h _ _ h1,h2⟩
def ACallsD(P:Program)(g:FuncId)(ds:List D)(r:Option D)(S:St)(R:St->Prop):Prop :=
 FnOk P g/\∀(C:Ctx) (F:St) (args:Array Value) (w:World) (u u':FrameMode),RepL C ds args.toList->Sat C (S.add F) w->RepRec C r u u' ->
  CallsD P g args u w fun e u1 w'=>u1=u'/\(∃v,e=.returned v)/\∃C' S',C.le C'/\Sat C' (S'.add F) w'/\R S'
theorem Tl{P : Program}{b : Frame}{a : Act}{k : List Item}{cs : List Frame}{w : World}{ops : Array Oper}{o : Oper}{rest : List Nat}{axs : Array Operand}{ts : Array TypeId}(hb : b.kind=.deferred)
  (ho:ops[0]? =some o) (hg:o.guard=none) (hop:o.op=.call ⟨.builtin .recover,axs,ts⟩) {v:Value} {cs':List Frame}
  (hr:(recoverD cs).getD (.nilIface,cs)=(v,cs')) :
  step P (Go.lone (b.at a (.inRegion ops (0::rest)::k)) cs w)=.next (Go.lone (b.at (a.put o.dst v) (.inRegion ops rest::k)) cs' w):=by
 have hw:Region.wanted o (yielded ops a.tmps)=true:=by unfold Region.wanted;rw[hg]
 have hg:=stepG_op (P:=P) (b:=b) (k:=k) (cs:=cs) (w:=w) (rest:=rest) ho hw
 have hfin:(b.at a (.inRegion ops (0::rest)::k)).finish v=b.at (a.put o.dst v) (.inRegion ops rest::k):=by
  rw[Frame.finish_at,ho];rfl
 have hk:(b.at a (.inRegion ops (0::rest)::k)).kind=.deferred:=hb
 have htr:=tryRecover_deferred hk cs
 have hex:(execOp a.eval o).run P w=.ok .recover w:=by
  unfold execOp
  rw[hop]
  simp[resolve,invoke,builtin]
 refine step_lone_go ?_
 rw[hg,<- hfin]
 simp only[Frame.at] at htr ⊢
 cases hrec:recoverD cs with
 |none =>
  rw[hrec] at hr htr
  simp only[Option.getD_none,Prod.mk.injEq] at hr
  obtain ⟨rfl,rfl⟩:=hr
  simp[stepG.apply,hex,htr]
 |some p =>
  rw[hrec] at hr htr
  simp only[Option.getD_some] at hr
  subst hr
  simp[stepG.apply,hex,htr]
def Th(o:Oper):Bool :=
 match o.op with
 |.call c=>match c.callee with
  |.builtin .recover=>o.guard.isNone
  |_=>false
 |_=>false
def Bc4(R:St->Prop):APostT:=fun e _ S=>match e with
 |.normal=>R S
 |.ret=>R S
 |_=>False
def Bcu(E:Senv)(c:Code)(r:Option D)(R:St->Prop)(ds:List D)(S:St):Prop :=
 match c with
 |.seq (.region _ ops false) rest=>match ops.toList with
  |o::_=>chk (Th o&&ops.toList.all (fun o=>Cq E.n o.dst))
   (CO E ops.toList (fun e env S=>Gr (fun env S=>vc E rest 0 (Bc4 R) env S) (Bc4 R) e (prune E.V E.cross env) S) (List.range ops.size).tail (putD (BB 0 ds) o.dst (Bd4 r)) S)
  | []=>False
 |_=>False
theorem I2{C:Ctx}{ds:List D}{args:Array Value}(ha:RepL C ds args.toList)(m:Nat):RepEnv C (BB 0 ds) (args++Array.replicate m undef):=by
 have hal:args.size=ds.length:=by have:=RepL.length ha;simpa using this
 intro t
 rcases EN 0 ha t (Nat.zero_le _) with h' | h'
 ·by_cases ht:t<args.size
  ·have:(args++Array.replicate m undef).getD t undef=args.toList.getD (t-0) undef:=by
    simp[Array.getD_eq_getD_getElem?,Array.getElem?_append_left ht,List.getD_eq_getElem?_getD]
   rw[this];exact h'
  ·have hu:look (BB 0 ds) t=.unk:=by
    have key:∀(l:List D) (k t:Nat),k+l.length<=t->look (BB k l) t=.unk:=by
     intro l
     induction l with
     |nil=>intros;rfl
     |cons d l ih=>intro k t ht;simp only[List.length_cons] at ht;simp only[BB,look];rw[if_neg (by omega)];exact ih (k+1) t (by omega)
    exact key _ 0 t (by omega)
   rw[hu];simp[Rep]
 ·rw[h'];simp[Rep]
theorem Baq{E : Senv}{g : Nat}{fn : Func}{c : Code}{ds : List D}{r : Option D}{S : St}{R : St -> Prop}(hE : EnvOk E)(hf : E.P.funcs[g]? =some fn)(hb : fn.body=some c)
  (hname : (fn.name == "runtime.NumGoroutine") = false) (hn : fn.ntmps = E.n) (hl : ds.length ≤ E.n) (hres : fn.results = #[]) (h : Bcu E c r R ds S) : ACallsD E.P g ds r S R := by
 refine⟨⟨fn,hf,hname,by simp[hb]⟩,fun C F args w u u' ha hs hr=>?_⟩
 have hal:args.size=ds.length:=by have:=RepL.length ha;simpa using this
 unfold Bcu at h
 split at h
 ·rename_i id ops rest
  split at h
  ·rename_i o ol ho
   obtain ⟨h0,h⟩:=Ba.1 h
   simp only[Bool.and_eq_true] at h0
   obtain ⟨h0,hok⟩:=h0
   have ho0:ops[0]? =some o:=by
    have:ops.toList[0]? =some o:=by rw[ho];rfl
    simpa using this
   have hrange:List.range ops.size=0::(List.range ops.size).tail:=by
    have:ops.size=ol.length+1:=by have:=congrArg List.length ho;simpa using this
    rw[this];simp[List.range_succ_eq_map]
   obtain ⟨hg,axs,ts,hop⟩:o.guard=none/\∃axs ts,o.op=.call ⟨.builtin .recover,axs,ts⟩:=by
    unfold Th at h0
    split at h0
    ·rename_i c hc
     split at h0
     ·rename_i hcal
      obtain ⟨cc,ca,ct⟩:=c
      simp only at hcal
      subst hcal
      exact⟨by simpa using h0,ca,ct,hc⟩
     ·cases h0
    ·cases h0
   refine callsD_of_wpS hf hb fun c0 cs hu=>?_
   obtain ⟨v,cs',hrec,hv,hcs⟩:∃v cs',(recoverD (c0::cs)).getD (.nilIface,c0::cs)=(v,cs')/\Rep C (Bd4 r) v/\cs'={ c0 with mode:=u' }::cs:=by
    cases r with
    |none =>
     obtain ⟨rfl,rfl⟩:=hr
     refine⟨_,_,by simp[recoverD,hu];exact⟨rfl,rfl⟩,by simp[Bd4,Rep],?_⟩
     rw[<- hu]
    |some d =>
     obtain ⟨v,h1,rfl,rfl⟩:=hr
     refine⟨v,{ c0 with mode:=.panicking [{ v,recovered:=true }] }::cs,by simp[recoverD,hu],h1,rfl⟩
   refine wpS_seq ?_
   intro b k hb hro
   have hsz:(args++Array.replicate (fn.ntmps-args.size) undef).size=E.n:=by simp only[Array.size_append,Array.size_replicate];omega
   have hdst:Cq (args++Array.replicate (fn.ntmps-args.size) undef).size o.dst=true:=by
    rw[hsz];exact List.all_eq_true.1 hok o (by rw[ho];exact List.mem_cons_self ..)
   have hrun:=En (dfs:=[]) hE hok (List.range ops.size).tail C C F _ S (({ tmps:=args++Array.replicate (fn.ntmps-args.size) undef,defers:=[] }:Act).put o.dst v) w (.refl C)
    (RepEnv.putD (a:={ tmps:=args++Array.replicate (fn.ntmps-args.size) undef,defers:=[] }) (I2 ha _) hdst hv) (by rw[Ex];exact hsz) (by rw[Co]) hs h
   have hfin : ∀(C0 C' : Ctx) (x : AExit) (env' : Env) (S' : St) (e : Exit) (a' : Act) (w' : World), C.le C0 -> C0.le C' -> RepEnv C' env' a'.tmps -> a'.defers=[] -> Sat C' (S'.add F) w' -> RepExit C' x e -> Bc4 R x env' S' ->
     bodyPostS E.P fn c0 cs (fun e u1 w'=>u1=u'/\(∃v,e=.returned v)/\∃C' S',C.le C'/\Sat C' (S'.add F) w'/\R S') e a' cs' w':=by
    intro C0 C' x env' S' e a' w' b0 b1 b2 b4 b5 b6 b7
    have hre:(results fn a'.tmps).run E.P w'=.ok (.tuple #[]) w':=results_none (by rw[hres]) _ _ _
    cases x<;>simp only[Bc4] at b7<;>cases e<;>simp only[RepExit] at b6
    all_goals exact⟨b4,u',hcs,_,hre,rfl,⟨_,rfl⟩,C',S',b0.trans b1,b5,b7⟩
   obtain ⟨e,a',w',hq,harr⟩:=wp_ops _ _ _ hrun b k cs'
   have harr:Arrives E.P (Go.lone (b.at { tmps:=args++Array.replicate (fn.ntmps-args.size) undef,defers:=[] } (.code (.region id ops false)::k)) (c0::cs) w) b k cs' e a' w':=by
    refine .of_steps (.one step_region) (.of_steps (.one ?_) harr)
    rw[hrange]
    exact Tl hb ho0 hg hop hrec
   refine⟨e,a',cs',w',?_,harr⟩
   obtain ⟨C',x,env',S',b1,b2,b3,b4,b5,b6,b7⟩:=hq
   cases e<;>cases x<;>simp only[RepExit] at b6<;>simp only[Gr] at b7
   case normal.normal =>
    refine wpS_of_wp (wp_mono (BF (dfs:=[]) hE rest 0 _ _ S' b7 C' F a' w' (b2.sub (I1 _ _ _)) b3 b4 b5) ?_)
    rintro e a2 w2 ⟨C2,x,env2,S2,c1,c2,c3,c4,c5,c6,c7⟩
    exact hfin C' C2 x env2 S2 e a2 w2 b1 c1 c2 c4 c5 c6 c7
   case ret.ret=>exact hfin C C' .ret env' S' .ret a' w' (.refl C) b1 b2 b4 b5 trivial b7
   all_goals exact b7.elim
  ·exact h.elim
 ·exact h.elim
def Bcf(R:AEnd->St->Prop)(tt:Nat->Option TI)(rs:List ResultVar)(env:Env)(S:St):Prop :=
 match Ez tt rs env S with
 |some ds=>Cn rs env S/\R (.ret (OH ds)) S
 |none=>False
def Bbs(dcl:Nat->List D->Option D->St->(St->Prop)->Prop)(R:AEnd->St->Prop)(tt:Nat->Option TI)(rs:List ResultVar)(g:Nat)(ds:List D):APostT:=fun e env S=>match e with
 |.normal=>dcl g ds none S (fun S=>Bcf R tt rs env S)
 |.ret=>dcl g ds none S (fun S=>Bcf R tt rs env S)
 |.panic d=>dcl g ds (some d) S (fun S=>Bcf R tt rs env S)
 |_=>False
theorem Gq{P : Program}{tt : Nat -> Option TI}{R : AEnd -> St -> Prop}{C0 C C1 : Ctx}{F S : St}{fn : Func}{env : Env}{tmps : Array Value}{d : Deferred}{g : Nat}{ds : List D}{r : Option D}{u u' : FrameMode}{w : World}(hT : TabOk P tt)(hu : u≠.run)
  (hset:settle u'=.returning) (h0:C0.le C1) (h1:C1.le C) (hd:DefRep C1 d g ds) (he:RepEnv C env tmps) (hs:Sat C (S.add F) w) (hr:RepRec C r u u')
  (h:ACallsD P g ds r S (fun S=>Bcf R tt fn.results.toList env S)) :
  Leaves P fn tmps (fun e w'=>∃C' r S',C0.le C'/\Sat C' (S'.add F) w'/\RepEnd C' r e/\R r S') [d] u w:=by
 obtain ⟨cap,ht,hds⟩:=hd.mono h1
 obtain ⟨⟨fg,q1,q2,q3⟩,h⟩:=h
 refine⟨hu,.func g,cap,g,d.args++cap,ht,?_,?_⟩
 ·rw[ht]
  simp only[invoke,callFunc,Sem.run_bind,run_program,Result.andThen_ok,q1,q2,q3,Bool.false_eq_true,if_false]
  rfl
 ·refine CallsD.mono (h C F _ w u u' hds hs hr) ?_
  rintro e u1 w' ⟨rfl,⟨v,rfl⟩,C',S',a1,a2,a3⟩
  simp only[hset]
  unfold Bcf at a3
  split at a3
  ·rename_i rs hrs
   obtain ⟨v,r1,r2⟩:=ED (P:=P) hT (he.mono a1) a2 hrs a3.1
   exact⟨v,r1,C',.ret _,S',(h0.trans h1).trans a1,a2,r2,a3.2⟩
  ·exact a3.elim
theorem Uv{P : Program}{tt : Nat -> Option TI}{f n : Nat}{fn : Func}{c : Code}{ds : List D}{S : St}{R : AEnd -> St -> Prop}{dcl : Nat -> List D -> Option D -> St -> (St -> Prop) -> Prop}(hT : TabOk P tt)(hf : P.funcs[f]? =some fn)(hb : fn.body=some c)
  (hname : (fn.name == "runtime.NumGoroutine") = false) (hn : fn.ntmps = n) (hl : ds.length ≤ n) (hd : ∀ g ds r S R, dcl g ds r S R → ACallsD P g ds r S R)
  (h:AWpD P n c (WI R tt fn.results.toList) (Bbs dcl R tt fn.results.toList) (BB 0 ds) S):ACalls P f ds S R:=by
 refine⟨⟨fn,hf,hname,by simp[hb]⟩,fun C F args w ha hs=>?_⟩
 have hal:args.size=ds.length:=by have:=RepL.length ha;simpa using this
 have hret : ∀ {C' : Ctx} {env' : Env} {S' : St} {a' : Act} {w' : World}, C.le C' -> RepEnv C' env' a'.tmps -> Sat C' (S'.add F) w' -> (match Ez tt fn.results.toList env' S' with
    |some ds=>Cn fn.results.toList env' S'/\R (.ret (OH ds)) S'
    |none=>False) ->
   ∃v,(results fn a'.tmps).run P w'=.ok v w'/\∃C' r S',C.le C'/\Sat C' (S'.add F) w'/\RepEnd C' r (.returned v)/\R r S':=by
  intro C0 env0 S0 a' w' b1 b2 b5 b7
  split at b7
  ·rename_i ds' hds
   obtain ⟨v,r1,r2⟩:=ED (P:=P) hT b2 b5 hds b7.1
   exact⟨v,r1,C0,.ret _,_,b1,b5,r2,b7.2⟩
  ·exact b7.elim
 refine calls_of_wp_defers hf hb (wp_mono (h C F _ w (I2 ha _) ?_ rfl hs) ?_)
 ·simp only[Array.size_append,Array.size_replicate];omega
 ·rintro e a' w' (⟨C',x',env',S',b1,b2,b3,b4,b5,b6,b7⟩ | ⟨d,g,ds',C1,q1,q2,C',x',env',S',b1,b2,b3,b4,b5,b6,b7⟩)
  ·cases e<;>cases x'<;>simp only[RepExit] at b6<;>simp only[WI] at b7
   case normal.normal =>
    obtain ⟨v,r1,r2⟩:=hret b1 b2 b5 b7
    simp only[bodyPostD,b4];exact⟨v,r1,r2⟩
   case ret.ret =>
    obtain ⟨v,r1,r2⟩:=hret b1 b2 b5 b7
    simp only[bodyPostD,b4];exact⟨v,r1,r2⟩
   case panic.panic ch d =>
    obtain ⟨v,e,hv⟩:=b6
    simp only[bodyPostD,b4]
    exact⟨C',.pan d,_,b1,b5,⟨v,e,hv⟩,b7⟩
   all_goals exact b7.elim
  ·cases e<;>cases x'<;>simp only[RepExit] at b6<;>simp only[Bbs] at b7
   case normal.normal =>
    simp only[bodyPostD,b4]
    exact Gq (u':=.returning) (r:=none) hT (by simp) rfl q1 b1 q2 b2 b5 ⟨rfl,rfl⟩ (hd _ _ _ _ _ b7)
   case ret.ret =>
    simp only[bodyPostD,b4]
    exact Gq (u':=.returning) (r:=none) hT (by simp) rfl q1 b1 q2 b2 b5 ⟨rfl,rfl⟩ (hd _ _ _ _ _ b7)
   case panic.panic ch d =>
    obtain ⟨v,rfl,hv⟩:=b6
    simp only[bodyPostD,b4]
    exact Gq (u':=.panicking [{ v,recovered:=true }]) (r:=some d) hT (by simp) rfl q1 b1 q2 b2 b5 ⟨v,hv,rfl,rfl⟩ (hd _ _ _ _ _ b7)
   all_goals exact b7.elim
def Senv.fit(E:Senv)(A:Frm)(inl:Nat->List D->St->(AEnd->St->Prop)->Prop):Senv :=
 { E with n:=A.n,dfs:=[],V:=A.V,cross:=A.cross,ord:=A.ord,unr:=A.unr,gh:=fun _=>[],gr:=[],ann:=fun _ _ _=>none,ann2:=fun _ _ _=>none,cut2:=fun _ _ _=>none,cut:=fun _ _ _=>none,inl:=inl,own:=A.own,gz:=fun _=>[],mg:=A.mg,bcut:=fun _ _ _=>none }
def Bep(E:Senv)(fr:Nat->Option Frm)(inl:Nat->List D->St->(AEnd->St->Prop)->Prop)(g:Nat)(ds:List D)(r:Option D)(S:St)(R:St->Prop):Prop :=
 match fr g with
 |none=>False
 |some A=>match A.fn.body with
  |none=>False
  |some c=>chk (Nat.ble ds.length A.n&&A.fn.results.toList.isEmpty) (Bcu (E.fit A inl) c r R ds S)
def Uw(E:Senv)(fr:Nat->Option Frm):Nat->Nat->List D->St->(AEnd->St->Prop)->Prop
 |0,_,_,_,_=>False
 |fuel+1,k,ds,S,R=>match fr k with
  |none=>False
  |some A=>match A.fn.body with
   |none=>False
   |some c=>chk (Nat.ble ds.length A.n) (match IC c with
    |false=>vc (E.fit A (Uw E fr fuel)) c 0 (WI R E.tt A.fn.results.toList) (BB 0 ds) S
    |true=>vcD (E.fit A (Uw E fr fuel)) c 0 (WI R E.tt A.fn.results.toList) (Bbs (Bep E fr (Uw E fr fuel)) R E.tt A.fn.results.toList) (BB 0 ds) S)
theorem WP{E : Senv}{A : Frm}{inl : Nat -> List D -> St -> (AEnd -> St -> Prop) -> Prop}(hT : TabOk E.P E.tt)(hC : ConOk E.P E.con)(hm : E.P.follows .mixedOrders=true)(hQ : ∀t, E.eqs.contains t=true -> E.P.eqGuardType E.P.depth t=false /\ E.P.stoodInHeld t=false)
  (hi:∀k ds S R,inl k ds S R->ACalls E.P k ds S R):EnvOk (E.fit A inl):=⟨hT,hC,hm,hi,hQ⟩
theorem BcR{E : Senv}{fr : Nat -> Option Frm}{inl : Nat -> List D -> St -> (AEnd -> St -> Prop) -> Prop}(hT : TabOk E.P E.tt)(hC : ConOk E.P E.con)(hm : E.P.follows .mixedOrders=true)(hF : FrmOk E.P fr)(hQ : ∀t, E.eqs.contains t=true -> E.P.eqGuardType E.P.depth t=false /\ E.P.stoodInHeld t=false)
  (hi:∀k ds S R,inl k ds S R->ACalls E.P k ds S R) (g:Nat) (ds:List D) (r:Option D) (S:St) (R:St->Prop) (h:Bep E fr inl g ds r S R):ACallsD E.P g ds r S R:=by
 unfold Bep at h
 split at h
 ·exact h.elim
 ·rename_i A hA
  split at h
  ·exact h.elim
  ·rename_i c hc
   obtain ⟨h0,h⟩:=Ba.1 h
   simp only[Bool.and_eq_true] at h0
   obtain ⟨q1,q2,q3⟩:=hF g A hA
   exact Baq (E:=E.fit A inl) (WP hT hC hm hQ hi) q1 hc q3 q2 (Nat.le_of_ble_eq_true h0.1) (by simpa using h0.2) h
theorem Rq{E:Senv}{fr:Nat->Option Frm}(hT:TabOk E.P E.tt)(hC:ConOk E.P E.con)(hm:E.P.follows .mixedOrders=true)(hF:FrmOk E.P fr)(hQ:∀t,E.eqs.contains t=true->E.P.eqGuardType E.P.depth t=false/\E.P.stoodInHeld t=false):∀(fuel k:Nat) (ds:List D) (S:St) (R:AEnd->St->Prop),Uw E fr fuel k ds S R->ACalls E.P k ds S R
 |0,_,_,_,_,h=>h.elim
 |fuel+1,k,ds,S,R,h=>by
  simp only[Uw] at h
  split at h
  ·exact h.elim
  ·rename_i A hA
   split at h
   ·exact h.elim
   ·rename_i c hc
    obtain ⟨h0,h⟩:=Ba.1 h
    obtain ⟨q1,q2,q3⟩:=hF k A hA
    have hi:=Rq hT hC hm hF hQ fuel
    split at h
    ·exact Ou hT q1 hc q3 q2 (Nat.le_of_ble_eq_true h0) (BF (E:=E.fit A (Uw E fr fuel)) (WP hT hC hm hQ hi) c 0 _ _ _ h)
    ·exact Uv hT q1 hc q3 q2 (Nat.le_of_ble_eq_true h0) (BcR hT hC hm hF hQ hi) (IU (E:=E.fit A (Uw E fr fuel)) (WP hT hC hm hQ hi) c 0 _ _ _ _ h)
theorem WQ{k:IntKind}(hk:k.signed=true){n:Int}(h1:-(2 ^ (k.bits-1):Int)<=n)(h2:n<(2 ^ (k.bits-1):Int)):k.wrap n=n:=by
 cases k<;>simp_all[IntKind.signed,IntKind.wrap,IntKind.bits]<;>split<;>omega
theorem Bb{n:Int}(h1:-9223372036854775808<=n)(h2:n<=9223372036854775807):IntKind.i64.wrap n=n :=
 WQ rfl (by simpa[IntKind.bits] using h1) (by simp[IntKind.bits];omega)
theorem StTo.none(S:St):StTo S ⟨[],[]⟩:=fun _ _ _ h=>h.le ⟨List.nil_sublist _,List.nil_sublist _⟩
def sC(ds:List D)(d:D):FnSpec where
 β:=Unit
 α:=Unit
 args:=fun _=>ds
 st:=fun _=>⟨[],[]⟩
 pre:=fun _=>True
 post:=fun _ _=>True
 res:=fun _ _=>.ret d
 out:=fun _ _=>⟨[],[]⟩
def RB:Mode->Nat->Bool
 |.nil,0=>true
 |_,_=>false
theorem HeadOk.nil_w{C:Ctx}{w w' n:Nat}{m':Mode}{a:Option Addr}{len cap:Nat}(hm:BH .nil m')(h:HeadOk C w n .nil a len cap):HeadOk C w' n m' a len cap :=
 G5 hm (show HeadOk C w' n .nil a len cap from h)
mutual
def wkD:D->D->Prop
 |.sl w n f m,.sl w' n' f' m'=>chk (decide (w=w')||RB m n) (n=n'/\(∀i,i<n->wkL (f i) (f' i))/\BH m m')
 |.agg cs,.agg cs'=>wkL cs cs'
 |.iface t d,.iface t' d'=>t=t'/\wkD d d'
 |d,d'=>Bp d d'
def wkL:List D->List D->Prop
 | [],[]=>True
 |d::ds,d'::ds'=>wkD d d'/\wkL ds ds'
 |_,_=>False
end
theorem RX:∀ {ds ds':List D},wkL ds ds'->ds.length=ds'.length
 | [],[],_=>rfl
 |d::ds,d'::ds',h=>by simp only[wkL] at h;simp[RX h.2]
 | [],_::_,h=>by simp[wkL] at h
 |_::_,[],h=>by simp[wkL] at h
mutual
theorem EX:∀(d d':D),wkD d d'->∀C v,Rep C d v->Rep C d' v
 |.sl w n f m,d',h,C,v,H=>by
  cases d' with
  |sl w' n' f' m' =>
   simp only[wkD] at h
   obtain ⟨hw,rfl,hf,hm⟩:=Ba.1 h
   simp only[Rep] at H ⊢
   obtain ⟨a,len,cap,e,hh,hr⟩:=H
   by_cases hw:w=w'
   case neg =>
    have hw:RB m n=true:=by simpa[hw] using ‹(decide (w=w')||RB m n)=true›
    unfold RB at hw
    split at hw
    ·exact⟨a,len,cap,e,hh.nil_w hm,fun _ _ i hi=>absurd hi (Nat.not_lt_zero _)⟩
    ·cases hw
   subst hw
   exact⟨a,len,cap,e,G5 hm hh,fun x hx i hi=>⟨(RX (hf i hi)).symm.trans (hr x hx i hi).1,U9 (f i) (f' i) (hf i hi) C _ _ (hr x hx i hi).2⟩⟩
  |_=>exact Bk _ _ (by simpa[wkD] using h) C v H
 |.agg cs,d',h,C,v,H=>by
  cases d' with
  |agg cs' =>
   simp only[wkD] at h
   simp only[Rep] at H ⊢
   obtain ⟨vs,e,r⟩:=H
   exact⟨vs,e,M3 cs cs' h C _ r⟩
  |_=>exact Bk _ _ (by simpa[wkD] using h) C v H
 |.iface t d,d',h,C,v,H=>by
  cases d' with
  |iface t' d' =>
   simp only[wkD] at h
   obtain ⟨rfl,h⟩:=h
   simp only[Rep] at H ⊢
   obtain ⟨x,e,r⟩:=H
   exact⟨x,e,EX d d' h C _ r⟩
  |_=>exact Bk _ _ (by simpa[wkD] using h) C v H
 |.unk,d',h,C,v,H=>Bk _ d' (by simpa[wkD] using h) C v H
 |.bool b,d',h,C,v,H=>Bk _ d' (by simpa[wkD] using h) C v H
 |.int k n,d',h,C,v,H=>Bk _ d' (by simpa[wkD] using h) C v H
 |.str s,d',h,C,v,H=>Bk _ d' (by simpa[wkD] using h) C v H
 |.nilp,d',h,C,v,H=>Bk _ d' (by simpa[wkD] using h) C v H
 |.ref k x o,d',h,C,v,H=>Bk _ d' (by simpa[wkD] using h) C v H
 |.pt row,d',h,C,v,H=>Bk _ d' (by simpa[wkD] using h) C v H
 |.ms k x o l c w,d',h,C,v,H=>Bk _ d' (by simpa[wkD] using h) C v H
 |.vs k x l c w,d',h,C,v,H=>Bk _ d' (by simpa[wkD] using h) C v H
 |.er k x i w fo,d',h,C,v,H=>Bk _ d' (by simpa[wkD] using h) C v H
 |.nmap,d',h,C,v,H=>Bk _ d' (by simpa[wkD] using h) C v H
 |.map k x,d',h,C,v,H=>Bk _ d' (by simpa[wkD] using h) C v H
 |.fn f a c,d',h,C,v,H=>Bk _ d' (by simpa[wkD] using h) C v H
 |.nilf,d',h,C,v,H=>Bk _ d' (by simpa[wkD] using h) C v H
 |.nili,d',h,C,v,H=>Bk _ d' (by simpa[wkD] using h) C v H
 |.tup cs,d',h,C,v,H=>Bk _ d' (by simpa[wkD] using h) C v H
theorem M3:∀(ds ds':List D),wkL ds ds'->∀C vs,RepL C ds vs->RepL C ds' vs
 | [],[],_,C,vs,H=>H
 |d::ds,d'::ds',h,C,vs,H=>by
  simp only[wkL] at h
  simp only[RepL] at H ⊢
  obtain ⟨x,xs,e,r1,r2⟩:=H
  exact⟨x,xs,e,EX d d' h.1 C x r1,M3 ds ds' h.2 C xs r2⟩
 | [],_::_,h,_,_,_=>by simp[wkL] at h
 |_::_,[],h,_,_,_=>by simp[wkL] at h
theorem U9:∀(ds ds':List D),wkL ds ds'->∀C b o,RepCells C b o ds->RepCells C b o ds'
 | [],[],_,C,b,o,H=>H
 |d::ds,d'::ds',h,C,b,o,H=>by
  simp only[wkL] at h
  simp only[RepCells] at H ⊢
  obtain ⟨⟨v,e,r1⟩,r2⟩:=H
  exact⟨⟨v,e,EX d d' h.1 C v r1⟩,U9 ds ds' h.2 C b _ r2⟩
 | [],_::_,h,_,_,_,_=>by simp[wkL] at h
 |_::_,[],h,_,_,_,_=>by simp[wkL] at h
end
mutual
theorem Ul:∀(d:D),wkD d d
 |.sl w n f m=>by
  simp only[wkD,Ba]
  exact⟨by simp,trivial,fun i _=>Be (f i),Oq m⟩
 |.agg cs=>by simp only[wkD];exact Be cs
 |.iface t d=>by simp only[wkD];exact⟨trivial,Ul d⟩
 |.unk=>by simp[wkD,Bp]
 |.bool b=>by simp[wkD,Bp]
 |.int k n=>by simp[wkD,Bp,Ba,kEq]
 |.str s=>by simp[wkD,Bp]
 |.nilp=>by simp[wkD,Bp]
 |.ref _ x o=>by simp[wkD,Bp,Ba]
 |.pt row=>by simp[wkD,Bp]
 |.ms _ x o len cap w=>by simp[wkD,Bp,Ba]
 |.vs _ x len cap w=>by simp[wkD,Bp,Ba]
 |.er _ x i w fo=>by simp[wkD,Bp,Ba]
 |.nmap=>by simp[wkD,Bp]
 |.map _ x=>by simp[wkD,Bp]
 |.fn f a c=>by simp[wkD,Bp]
 |.nilf=>by simp[wkD,Bp]
 |.nili=>by simp[wkD,Bp]
 |.tup cs=>by simp only[wkD];exact Eu _
theorem Be:∀(ds:List D),wkL ds ds
 | []=>by simp[wkL]
 |d::ds=>by simp only[wkL];exact⟨Ul d,Be ds⟩
end
theorem ACalls.wkArgs{P:Program}{k:FuncId}{ds ds':List D}{S:St}{R:AEnd->St->Prop}(h:ACalls P k ds' S R)(hw:wkL ds ds'):ACalls P k ds S R :=
 ⟨h.1,fun C F args w ha hs=>h.2 C F args w (M3 _ _ hw _ _ ha) hs⟩
def pE{β:Type}(ds:List D)(S:St)(d:β->D)(p:β->Prop):FnSpec where
 β:=β
 α:=Unit
 args:=fun _=>ds
 st:=fun _=>S
 pre:=p
 post:=fun _ _=>True
 res:=fun x _=>.ret (d x)
 out:=fun _ _=>S
 all:=true
theorem ACalls.whole{P:Program}{k:FuncId}{ds:List D}{d:D}(S:St)(h:ACalls P k ds ⟨[],[]⟩ (SpecR (sC ds d) ())):ACalls P k ds S (fun r S'=>r=.ret d/\S'=S):=by
 refine ((h.frame S).from fun C F w H=>?_).mono ?_
 ·simpa[St.add] using H
 ·rintro r S' ⟨S0,⟨_,_,rfl,rfl⟩,rfl⟩
  exact⟨rfl,by simp[St.add,sC]⟩
theorem Bew{P:Program}{k:FuncId}{ds us:List D}{d:D}(hw:wkL ds us)(h:ACalls P k us ⟨[],[]⟩ (SpecR (sC us d) ())):ACalls P k ds ⟨[],[]⟩ (SpecR (sC ds d) ()) :=
 (h.wkArgs hw).mono fun _ _ ⟨_,_h1,h2,h3⟩=>⟨(),trivial,h2,h3⟩
variable {P:Program} {W:World}
theorem ReadAt.weak{n:Nat}{t:TypeId}{R R':List D->Prop}(h:ReadAt P W n t R)(k:∀(hG:G0 W) ds vs,R ds->RepL (GR W hG) ds vs->∃ds',R' ds'/\RepL (GR W hG) ds' vs):ReadAt P W n t R':=by
 intro hG H enc cs d ps hd hw
 obtain ⟨⟨ds,h1,h2⟩,h3⟩:=h hG H enc cs d ps hd hw
 exact⟨k hG _ _ h1 h2,h3⟩
def RSliceA(w:Nat)(R:List D->Prop):List D->Prop:=fun ds=>∃l:List (List D),(∀x∈l,R x)/\l.length<=ER/\ds=[.sl w l.length (fun i=>l.getD i []) .any]
theorem Mb{t e:TypeId}{w:Nat}{R:List D->Prop}(ht:P.underlying t=some (.slice e))(hw:P.cellsOf e=w)(hc:0<w)(hby:0<P.bytesOf e){n:Nat}(he:ReadAt P W n e R):ReadAt P W (n+1) t (RSliceA w R):=by
 refine (WK ht hw hc hby he).weak ?_
 rintro hG ds vs (rfl | ⟨l,h1,hl,rfl⟩) h
 ·refine⟨_,⟨[],by simp,by simp[ER],rfl⟩,?_⟩
  refine BM _ _ ?_ _ _ h
  simp[Bo,Bp,chk,BH]
 ·exact⟨_,⟨l,h1,hl,rfl⟩,h⟩
theorem To{α:Type}{R:List D->Prop}{g:α->List D}{Q:α->Prop}(hR:∀x,R x->∃a,Q a/\x=g a):∀(l:List (List D)),(∀x∈l,R x)->∃l':List α,(∀a∈l',Q a)/\l=l'.map g
 | [],_=>⟨[],by simp,rfl⟩
 |x::l,h=>by
  obtain ⟨a,q,e⟩:=hR x (h x (by simp))
  obtain ⟨l',q',e'⟩:=To hR l fun y hy=>h y (by simp[hy])
  refine⟨a::l',?_,by rw[e,e'];rfl⟩
  intro b hb
  rcases List.mem_cons.1 hb with rfl | hb
  ·exact q
  ·exact q' b hb
def refV:Value->Bool
 |.slice _ _ _=>true
 |.pointer _=>true
 |_=>false
structure Ctx.back (C2 C':Ctx) (x:Nat):Prop where
 w0:C'.w0.heap.size<=C2.w0.heap.size
 tok:C'.tok=C2.tok
 imm:∀b o,b≠x->C'.imm b o=C2.imm b o
 old:∀o v,C2.imm x o=some v->refV v=true
end Go.Ab
