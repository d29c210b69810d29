/- An abstract state over the worlds of the model, what each operation does to it, and the verification condition of code over it: proved for every program, without conditions. -/
import Derived.Test.YtaagdbcaeokjkaaGreatDoorAb1
import Derived.MapKept
import Derived.Laws.StructEq
import Derived.Orders
import Derived.Scope
import Derived.ProofKit
import Derived.WalkKit
import Derived.OpenShut
import Derived.Recover
namespace Go.Ab
open Go Go.RowKit
def Ge:List (List UInt8×Int)->List UInt8->Option Int
 | [],_=>none
 |(t,n)::r,s=>if t=s then some n else Ge r s
def UC:List (List UInt8×Int)->List UInt8->Int->List (List UInt8×Int)
 | [],s,m=>[(s,m)]
 |(t,n)::r,s,m=>if t=s then (s,m)::r else (t,n)::UC r s m
theorem BfG{a b:List UInt8}:((⟨a.toArray⟩:ByteArray)==⟨b.toArray⟩)=decide (a=b):=by
 by_cases h:a=b
 ·subst h;simp[(MapKept.bytes_beq _ _).2 rfl]
 ·have:¬((⟨a.toArray⟩:ByteArray)==⟨b.toArray⟩)=true:=fun e=>h (by
   have:=(MapKept.bytes_beq _ _).1 e
   injection this with this
   simpa using this)
  simp[h,this]
theorem Bbz{k : IntKind}(s : List UInt8) : ∀(ps : List (List UInt8×Int)) (es : List MapEntry) (i : Nat), RepPairs k ps es ->
  match Ge ps s with
  |none=>Instr.findNow .string (.string ⟨s.toArray⟩) es i=some none/\∀m b,RepPairs k (UC ps s m) (es++[{ key:=.string ⟨s.toArray⟩,val:=.int k m,born:=b }])
  |some n=>∃j e, Instr.findNow .string (.string ⟨s.toArray⟩) es i=some (some (i+j, .int k n)) /\ es[j]? =some e /\ e.key=.string ⟨s.toArray⟩ /\
    ∀m,RepPairs k (UC ps s m) (es.modify j fun e=>{ e with key:=.string ⟨s.toArray⟩,val:=.int k m })
 | [],es,i,h=>by
  simp only[RepPairs] at h;subst h
  simp only[Ge]
  exact⟨rfl,fun m b=>⟨_,_,rfl,rfl,rfl,rfl⟩⟩
 |(t,n)::r,es,i,h=>by
  simp only[RepPairs] at h
  obtain ⟨e,es',rfl,h1,h2,h3⟩:=h
  have ih:=Bbz s r es' (i+1) h3
  simp only[Ge,UC]
  by_cases e1:t=s
  ·subst e1
   simp only[if_true]
   refine⟨0,e,?_,rfl,h1,fun m=>?_⟩
   ·simp[Instr.findNow,h1,Instr.sameNow,BfG,h2]
   ·simp only[List.modify_zero_cons]
    exact⟨_,_,rfl,rfl,rfl,h3⟩
  ·have hne:Instr.sameNow .string (.string ⟨s.toArray⟩) e.key=some false:=by
    simp[h1,Instr.sameNow,BfG,Ne.symm e1]
   simp only[if_neg e1]
   cases hg:Ge r s with
   |none =>
    rw[hg] at ih
    refine⟨by simp[Instr.findNow,hne,ih.1],fun m b=>⟨e,_,rfl,h1,h2,ih.2 m b⟩⟩
   |some n' =>
    rw[hg] at ih
    obtain ⟨j,e',q1,q2,q3,q4⟩:=ih
    refine⟨j+1,e',by simp[Instr.findNow,hne,q1];omega,by simpa using q2,q3,fun m=>?_⟩
    simp only[List.modify_succ_cons]
    exact⟨e,_,rfl,h1,h2,q4 m⟩
def Wp(tt:Nat->Option TI)(d:TypeDesc):Bool :=
 match d with
 |.map kt et=>match tt kt with
  |some ki=>match ki.desc with
   |.string=>match tt et with
    |some _=>true
    |none=>false
   |_=>false
  |none=>false
 |_=>false
theorem WH{tt:Nat->Option TI}{d:TypeDesc}(h:Wp tt d=true):∃kt et ki ei,d=.map kt et/\tt kt=some ki/\ki.desc=.string/\tt et=some ei:=by
 unfold Wp at h
 split at h
 ·split at h
  ·split at h
   ·split at h
    ·exact⟨_,_,_,_,rfl,‹_›,‹_›,‹_›⟩
    ·cases h
   ·cases h
  ·cases h
 ·cases h
def O5(P:Program)(d:TypeDesc):Option IntKind :=
 match d with
 |.map _ et=>match P.info? et with
  |some i=>match i.zero with
   |some (.int k z)=>match z with
    |.ofNat 0=>some k
    |_=>none
   |_=>none
  |none=>none
 |_=>none
theorem BbA{P:Program}{kt et:TypeId}{k:IntKind}(h:O5 P (.map kt et)=some k)(w:World):(zeroValue et).run P w=.ok (.int k 0) w:=by
 unfold O5 at h
 simp only at h
 split at h
 ·rename_i i hi
  split at h
  ·rename_i k' z hz
   split at h
   ·injection h with h
    subst h
    simp[zeroValue,typeInfo,hi,hz]
   ·cases h
  ·cases h
 ·cases h
def Wg(zk:Option IntKind)(x i:D)(ok:Bool)(S:St)(K:D->St->Prop):Prop :=
 match i,ok with
 |.str s,false=>match x with
  |.map t b=>match Bt S.objs t with
   |some (y,.amap k es)=>match zk with
    |some k'=>chk (kEq k' k) (y=b/\K (.int k ((Ge es s).getD 0)) S)
    |none=>False
   |_=>False
  |_=>False
 |.str s,true=>match x with
  |.nmap=>K (.tup [.unk,.bool false]) S
  |.map t b=>match Bt S.objs t with
   |some (y,.amap k es)=>y=b/\(∀n,Ge es s=some n->K (.tup [.int k n,.bool true]) S)/\(Ge es s=none->K (.tup [.unk,.bool false]) S)
   |_=>False
  |_=>False
 |_,_=>False
def Ig(x i v:D)(S:St)(K:D->St->Prop):Prop :=
 match i,v with
 |.str s,.int k1 n=>match x with
  |.map t b=>match Bt S.objs t with
   |some (y,.amap k es)=>chk (kEq k1 k) (y=b/\K (.tup []) (S.set t (.amap k (UC es s n))))
   |_=>False
  |_=>False
 |_,_=>False
def Bmo(tt:Nat->Option TI)(d:TypeDesc):Option IntKind :=
 match d with
 |.map _ et=>match tt et with
  |some ei=>match ei.desc with
   |.int k=>some k
   |_=>none
  |none=>none
 |_=>none
def T5(k:Option IntKind)(S:St)(K:D->St->Prop):Prop:=match k with
 |some k=>∀y,freshIn y S.objs->K (.map (B2 S.objs) y) (S.new y (.amap k []))
 |none=>False
section
variable {P:Program} {C:Ctx} {F S:St} {w:World} {K X:D->St->Prop} {tt:Nat->Option TI}
theorem BbH(hs:Sat C (S.add F) w){t:Nat}{k:Option IntKind}(h:T5 k S K):Good P C F K X ((do pure (Next.value (<- Instr.makeMap t none)):Sem Next).run P w):=by
 unfold T5 at h
 split at h
 ·rename_i k
  refine .of_val' (S':=S.new w.heap.size (.amap k [])) (w':=w.alloc (.map #[] 0)) (v:=.map (some w.heap.size)) (by simp[Instr.makeMap]) (.refl C) (hs.alloc_own _ (.amap k []) _ fun _ hw=>⟨#[],0,hw,rfl⟩) (by simp[Rep]) (h _ hs.freshIn)
 ·exact h.elim
theorem Bdf(hT : TabOk P tt)(hs : Sat C (S.add F) w){t : Nat}{ti : TI}(ht : tt t=some ti)(hd : Wp tt ti.desc=true){x i : D}{ok : Bool}{u v : Value}(hx : Rep C x u)(hi : Rep C i v)(h : Wg (O5 P ti.desc) x i ok S K) :
  Good P C F K X ((do pure (Next.value (<- Instr.lookup t u v ok)):Sem Next).run P w):=by
 obtain ⟨kt,et,ki,ei,hd,hk,hks,he⟩:=WH hd
 have hu:=Bz (P:=P) (w:=w) hT ht
 rw[hd] at hu
 have hkt:P.underlying kt=some .string:=by rw[<- hks];exact (hT _ _ hk).1
 obtain ⟨z,hz,_,_⟩:=GW (P:=P) (w:=w) hT he
 unfold Wg at h
 split at h
 ·rename_i s
  simp only[Rep] at hi;subst hi
  have hck:∀e,(Instr.checkKey e 10000 kt (.string ⟨s.toArray⟩)).run P w=.ok () w:=fun e=>MapKept.run_checkKey hkt (by simp[MapKept.IsKey]) e 9999
  split at h
  ·rename_i tg b
   simp only[Rep] at hx;subst hx
   split at h
   ·rename_i y k es hg
    split at h
    ·rename_i k' hk'
     obtain ⟨hkk,rfl,h1⟩:=Ba.1 h
     have hkk:k'=k:=of_decide_eq_true hkk
     subst hkk
     rw[hd] at hk'
     have hz0:=BbA hk' w
     obtain ⟨_,_,en,cl,e1,e2⟩:=hs.obj_of hg
     have hgo:=MapKept.run_getObj_map (P:=P) e1
     have hsp:=Bbz s es en.toList 0 e2
     cases hq:Ge es s with
     |none =>
      rw[hq] at hsp h1
      have hf:=MapKept.run_findKey (P:=P) (w:=w) hkt hsp.1
      refine .of_val (v:=.int k' 0) hs ?_ ?_ h1
      ·simp[Instr.lookup,hu,hgo,hck,hf,hz0]
      ·simp[Rep]
     |some n =>
      rw[hq] at hsp h1
      obtain ⟨j,e,q1,_,_,_⟩:=hsp
      have hf:=MapKept.run_findKey (P:=P) (w:=w) hkt q1
      refine .of_val (v:=.int k' n) hs ?_ ?_ h1
      ·simp[Instr.lookup,hu,hgo,hck,hf]
      ·simp[Rep]
    ·exact h.elim
   ·exact h.elim
  ·exact h.elim
 ·rename_i s
  simp only[Rep] at hi;subst hi
  have hck:∀e,(Instr.checkKey e 10000 kt (.string ⟨s.toArray⟩)).run P w=.ok () w:=fun e=>MapKept.run_checkKey hkt (by simp[MapKept.IsKey]) e 9999
  split at h
  ·simp only[Rep] at hx;subst hx
   have hf:=MapKept.run_findKey (P:=P) (w:=w) (l:=[]) hkt (k:=.string ⟨s.toArray⟩) (a:=none) rfl
   refine .of_val (v:=.tuple #[z,.bool false]) hs ?_ ?_ h
   ·simp[Instr.lookup,hu,hck,hf,hz]
   ·simp only[Rep];exact⟨_,rfl,by simp[RepL,Rep]⟩
  ·rename_i tg b
   simp only[Rep] at hx;subst hx
   split at h
   ·rename_i y k es hg
    obtain ⟨rfl,h1,h2⟩:=h
    obtain ⟨_,_,en,cl,e1,e2⟩:=hs.obj_of hg
    have hgo:=MapKept.run_getObj_map (P:=P) e1
    have hsp:=Bbz s es en.toList 0 e2
    cases hq:Ge es s with
    |none =>
     rw[hq] at hsp
     have hf:=MapKept.run_findKey (P:=P) (w:=w) hkt hsp.1
     refine .of_val (v:=.tuple #[z,.bool false]) hs ?_ ?_ (h2 hq)
     ·simp[Instr.lookup,hu,hgo,hck,hf,hz]
     ·simp only[Rep];exact⟨_,rfl,by simp[RepL,Rep]⟩
    |some n =>
     rw[hq] at hsp
     obtain ⟨j,e,q1,_,_,_⟩:=hsp
     have hf:=MapKept.run_findKey (P:=P) (w:=w) hkt q1
     refine .of_val (v:=.tuple #[.int k n,.bool true]) hs ?_ ?_ (h1 n hq)
     ·simp[Instr.lookup,hu,hgo,hck,hf]
     ·simp only[Rep];exact⟨_,rfl,by simp[RepL,Rep]⟩
   ·exact h.elim
  ·exact h.elim
 ·exact h.elim
theorem I6(hT : TabOk P tt)(hs : Sat C (S.add F) w){t : Nat}{ti : TI}(ht : tt t=some ti)(hd : Wp tt ti.desc=true){x i d : D}{u v z : Value}(hx : Rep C x u)(hi : Rep C i v)(hz : Rep C d z)(h : Ig x i d S K) :
  Good P C F K X ((do Instr.mapUpdate t u v z;pure Next.skip:Sem Next).run P w):=by
 obtain ⟨kt,et,ki,ei,hd,hk,hks,he⟩:=WH hd
 have hu:=Bz (P:=P) (w:=w) hT ht
 rw[hd] at hu
 have hkt:P.underlying kt=some .string:=by rw[<- hks];exact (hT _ _ hk).1
 unfold Ig at h
 split at h
 ·rename_i s k1 n
  simp only[Rep] at hi hz;subst hi hz
  have hck:∀e,(Instr.checkKey e 10000 kt (.string ⟨s.toArray⟩)).run P w=.ok () w:=fun e=>MapKept.run_checkKey hkt (by simp[MapKept.IsKey]) e 9999
  split at h
  ·rename_i tg b
   simp only[Rep] at hx;subst hx
   split at h
   ·rename_i y k es hg
    obtain ⟨hkk,rfl,hfin⟩:=Ba.1 h
    have hkk:k1=k:=of_decide_eq_true hkk
    subst hkk
    obtain ⟨_,_,en,cl,e1,e2⟩:=hs.obj_of hg
    have hlt:y<w.heap.size:=(Array.getElem?_eq_some_iff.1 e1).1
    have hgo:=MapKept.run_getObj_map (P:=P) e1
    have hso:=fun o=>MapKept.run_setObj_map (P:=P) o e1
    have hsp:=Bbz s es en.toList 0 e2
    have fin : ∀(en' : Array MapEntry) (cl' : Nat), RepPairs k1 (UC es s n) en'.toList -> (Instr.mapUpdate t (.map (some y)) (.string ⟨s.toArray⟩) (.int k1 n)).run P w=.ok () { w with heap:=w.heap.setIfInBounds y (.map en' cl') } ->
      Good P C F K X ((do Instr.mapUpdate t (.map (some y)) (.string ⟨s.toArray⟩) (.int k1 n);pure Next.skip:Sem Next).run P w):=by
     intro en' cl' hr hrun
     refine .of_unit hrun (.refl C) (hs.replace hg (by simp) (fun j hj=>by simp[Ne.symm hj]) rfl rfl rfl ?_) hfin
     exact⟨en',cl',by simp[hlt],hr⟩
    cases hq:Ge es s with
    |none =>
     rw[hq] at hsp
     have hf:=MapKept.run_findKey (P:=P) (w:=w) hkt hsp.1
     refine fin (en.push { key:=.string ⟨s.toArray⟩,val:=.int k1 n,born:=cl }) (cl+1) (by simpa using hsp.2 n cl) ?_
     simp[Instr.mapUpdate,hu,hgo,hck,hf,hso]
    |some n' =>
     rw[hq] at hsp
     obtain ⟨j,e,q1,q2,q3,q4⟩:=hsp
     have hf:=MapKept.run_findKey (P:=P) (w:=w) hkt q1
     have hej:en[j]? =some e:=by simpa using q2
     have hstay:(Instr.keyThatStays (((en[j]?).map (·.key)).getD (.string ⟨s.toArray⟩)) (.string ⟨s.toArray⟩)).run P w=.ok (.string ⟨s.toArray⟩) w:=by
      rw[hej]
      simp only[Option.map_some,Option.getD_some,q3]
      have:Instr.sameBits 10000 (.string ⟨s.toArray⟩) (.string ⟨s.toArray⟩)=true:=by
       simp[Instr.sameBits,(MapKept.bytes_beq _ _).2 rfl]
      simp[Instr.keyThatStays,this]
     refine fin (en.modify j fun e=>{ e with key:=.string ⟨s.toArray⟩,val:=.int k1 n }) cl (by simpa using q4 n) ?_
     simp only[Nat.zero_add] at hf
     simp[Instr.mapUpdate,hu,hgo,hck,hf,hstay,hso]
   ·exact h.elim
  ·exact h.elim
 ·exact h.elim
end
def evO(env:Env):Option Operand->Option D
 |none=>none
 |some x=>some (evD env x)
def MW(env:Env)(ps:List (Nat×Operand)):List (Nat×D):=ps.map fun p=>(p.1,evD env p.2)
def O6(x y:Operand)(a b:D):Bool :=
 match a,b with
 |.nili,.nili=>match x,y with
  |.const _,_=>true
  |_,.const _=>true
  |_,_=>false
 |_,_=>true
def EU:D->Bool
 |.agg _=>false
 |.unk=>false
 |_=>true
def Oa(tt:Nat->Option TI)(op:BinOp)(t:Nat)(x y:Operand)(a b:D)(S:St)(K:D->St->Prop):Prop :=
 match a with
 |.int k n=>match b with
  |.int k' m=>Bac op k n k' m fun d=>K d S
  |_=>False
 |.str s=>match b with
  |.str r=>BaA op s r fun d=>K d S
  |_=>False
 |a=>match tt t with
  |some ti=>match op with
   |.eql=>match eqT ti.desc a b with
    |some r=>chk (O6 x y a b&&EU a&&EU b) (K (.bool r) S)
    |none=>False
   |.neq=>match eqT ti.desc a b with
    |some r=>chk (O6 x y a b&&EU a&&EU b) (K (.bool !r) S)
    |none=>False
   |_=>False
  |none=>False
def BeM(d:TypeDesc)(a b:D):Option Bool :=
 match d with
 |.int _=>match a,b with
  |.int k n,.int k' m=>match kEq k k' with
   |true=>some (n==m)
   |false=>none
  |_,_=>none
 |.string=>match a,b with
  |.str s,.str r=>some (s==r)
  |_,_=>none
 |.bool=>match a,b with
  |.bool p,.bool q=>some (p==q)
  |_,_=>none
 |_=>none
def EP(tt:Nat->Option TI)(axs bs:List D):List Field->Option Bool
 | []=>some true
 |f::fs=>match tt f.type with
  | some fi => match decide (f.name ≠ "_") && decide (f.offset + Ew fi ≤ axs.length) && decide (f.offset + Ew fi ≤ bs.length) with
   |true=>match BeM fi.desc (Ch fi axs f.offset) (Ch fi bs f.offset) with
    |some x=>match EP tt axs bs fs with
     |some y=>some (x&&y)
     |none=>none
    |none=>none
   |false=>none
  |none=>none
def BfA(tt:Nat->Option TI)(eqs:List Nat)(op:BinOp)(t:Nat)(a b:D):Option Bool :=
 match a with
 |.agg axs=>match b with
  |.agg bs=>match eqs.contains t with
   |true=>match tt t with
    |some ti=>match ti.desc with
     |.struct fs=>match op with
      |.eql=>EP tt axs bs fs.toList
      |.neq=>match EP tt axs bs fs.toList with
       |some r=>some (!r)
       |none=>none
      |_=>none
     |_=>none
    |none=>none
   |false=>none
  |_=>none
 |_=>none
def Bel(tt:Nat->Option TI)(eqs:List Nat)(op:BinOp)(t:Nat)(x y:Operand)(a b:D)(S:St)(K:D->St->Prop):Prop :=
 match BfA tt eqs op t a b with
 |some r=>K (.bool r) S
 |none=>Oa tt op t x y a b S K
def Wy(tt:Nat->Option TI)(op:BinOp)(t:Nat)(a b:D):Option (Nat×Bool) :=
 match a,b with
 |.sl _ n _ m,.sl _ 0 _ .nil=>match m with
  |.nil=>none
  |.full=>none
  |_=>match tt t with
   |some ti=>match ti.desc with
    |.slice _=>match op with
     |.eql=>some (n,true)
     |.neq=>some (n,false)
     |_=>none
    |_=>none
   |none=>none
 |_,_=>none
def BcD(n:Nat)(pos:Bool)(S:St)(K:D->St->Prop):Prop :=
 match pos with
 |true=>∀r:Bool,(r=true->n=0)->K (.bool r) S
 |false=>∀r:Bool,(r=true->n=0)->K (.bool !r) S
def Oe:D->Bool
 |.int .i64 0=>true
 |_=>false
def I5(size:Nat)(x:D)(lo hi:Option D)(mx:D)(S:St)(K:D->St->Prop):Prop :=
 match x,lo,hi with
 |.sl w _ _ _,some l,some h=>chk (decide (w=size)&&Oe l&&Oe h&&Oe mx) (∀t,K (.sl w 0 (fun _=>[]) (.tok (Bm S.toks) t)) ⟨S.objs,(Bm S.toks,t)::S.toks⟩)
 |.sl w _ _ _,none,some h=>chk (decide (w=size)&&Oe h&&Oe mx) (∀t,K (.sl w 0 (fun _=>[]) (.tok (Bm S.toks) t)) ⟨S.objs,(Bm S.toks,t)::S.toks⟩)
 |_,_,_=>False
def Bei:TypeDesc->Option Nat
 |.slice e=>some e
 |_=>none
theorem Um{d:TypeDesc}{e:Nat}(h:Bei d=some e):d=.slice e:=by
 cases d<;>simp_all[Bei]
def Ms(size:Nat)(x:D)(lo hi:Option D)(mx:D)(S:St)(K:D->St->Prop):Prop :=
 match x,lo,hi,mx with
 |.sl w n f _,none,some (.int .i64 h),.int .i64 k=>chk (decide (w=size)) (h=n/\k=n/\∀t,K (.sl w n f (.tok (Bm S.toks) t)) ⟨S.objs,(Bm S.toks,t)::S.toks⟩)
 |_,_,_,_=>False
def BmO:Operand->Bool
 |.const _=>true
 |_=>false
def BdQ(c:Bool)(size:Nat)(x:D)(lo hi:Option D)(mx:D)(S:St)(K:D->St->Prop):Prop :=
 match c with
 |true=>I5 size x lo hi mx S K
 |false=>Ms size x lo hi mx S K
def BdE(c:Bool)(tt:Nat->Option TI)(t:Nat)(x:D)(lo hi:Option D)(mx:D)(S:St)(K:D->St->Prop):Prop :=
 match tt t with
 |some ti=>match Bei ti.desc with
  |some e=>match tt e with
   |some ei=>BdQ c ei.size x lo hi mx S K
   |none=>False
  |none=>False
 |none=>False
def Bnw(op:UnOp)(a:D)(S:St)(K:D->St->Prop):Prop :=
 match op,a with
 |.not,.bool b=>K (.bool !b) S
 |.neg,.int k n=>K (.int k (k.wrap (0-n))) S
 |.xor,.int k n=>K (.int k (Bpu k n)) S
 |_,_=>False
def BoB(con:Nat->List D->St->Option FnSpec)(inl:Nat->List D->St->(AEnd->St->Prop)->Prop)(f:D)(args:List D)(S:St)(K X:D->St->Prop):Prop :=
 match f with
 |.fn (.func k) first cap=>match con k (first++args++cap) S with
  |some A=>match A.all with
   |true=>∃x,A.pre x/\∀y,A.post x y->match A.res x y with
    |.ret d=>K d (A.out x y)
    |.pan d=>X d (A.out x y)
   |false=>match A.fit with
    |some x=>A.pre x/\∀y,A.post x y->match A.res x y with
     |.ret d=>K d ((A.out x y).add (S.less (A.st x)))
     |.pan d=>X d ((A.out x y).add (S.less (A.st x)))
    |none=>∃x,Br (first++args++cap) (A.args x)/\leS (A.st x) S/\A.pre x/\∀y,A.post x y->match A.res x y with
     |.ret d=>K d ((A.out x y).add (S.less (A.st x)))
     |.pan d=>X d ((A.out x y).add (S.less (A.st x)))
  |none=>inl k (first++args++cap) S fun r S'=>match r with
   |.ret d=>K d S'
   |.pan d=>X d S'
 |_=>False
def Bof:TypeDesc->Bool
 |.string=>true
 |.slice _=>true
 |_=>false
def Bad(own:Bool)(e wd bytes:Nat)(x y:D)(S:St)(K:D->St->Prop):Prop :=
 match own with
 |true=>match x with
  |.sl _ _ _ .nil=>Mt wd bytes y S K
  |.sl _ 0 _ .full=>Mn wd bytes y S K
  |.sl _ _ _ (.tok _ _)=>TX e wd bytes x y S K
  |x=>MI wd bytes x y S K
 |false=>MI wd bytes x y S K
def GF(tt:Nat->Option TI)(own:Nat->Bool)(b:Builtin)(ts:List Nat)(ds:List D)(S:St)(K X:D->St->Prop):Prop :=
 match b with
 |.len=>match ts,ds with
  | [t],[x]=>match tt t with
   |some ti=>chk (Ba0 ti.desc x) (Bf8 x S K)
   |none=>False
  |_,_=>False
 |.append=>match ts,ds with
  | [t,u],[x,y]=>match tt t,tt u with
   |some ti,some ui=>match ti.desc with
    |.slice e=>match tt e with
     |some ei=>chk (Bof ui.desc) (Bad (own t) e ei.size ei.bytes x y S K)
     |none=>False
    |_=>False
   |_,_=>False
  |_,_=>False
 |.copy=>match ts,ds with
  | [t,_],[x,y]=>match tt t with
   |some ti=>match ti.desc with
    |.slice e=>match tt e with
     |some ei=>Bfr ei.size x y S K
     |none=>False
    |_=>False
   |none=>False
  |_,_=>False
 |.min=>match BpH ds with
  |some d=>K d S
  |none=>False
 |.max=>match BoH ds with
  |some d=>K d S
  |none=>False
 |.panic=>match ds with
  | [.iface t d]=>X (.iface t d) S
  |_=>False
 |_=>False
def Gs(E:Senv)(o:Op)(env:Env)(S:St)(K X:D->St->Prop):Prop :=
 match o with
 |.move x=>K (evD env x) S
 |.assign x=>K (evD env x) S
 |.pick c a b=>match evD env c with
  |.bool t=>match evD env a,evD env b with
   |.bool p,.bool q=>K (.bool (bif t then p else q)) S
   |da,db=>ifB t (K da S) (K db S)
  |_=>False
 |.alloc e=>match E.tt e with
  |some ei=>match E.bd e with
   |some el=>Bb4 e el ei.zero S K
   |none=>BfN ei.zero S K
  |none=>False
 |.box _ x=>chk (EI (evD env x)) (BfN (CJ (evD env x)) S K)
 |.build t ps=>match E.tt t with
  |some ti=>UK E.tt ti (MW env ps.toList) S K
  |none=>False
 |.buildSlice t len ps=>match E.tt t with
  |some ti=>match ti.desc with
   |.slice e=>match E.tt e with
    |some ei=>Tf ei len (MW env ps.toList) S K
    |none=>False
   |_=>False
  |none=>False
 |.load t a=>match E.tt t with
  |some ti=>Ba8 ti (evD env a) S K
  |none=>False
 |.store t a x=>match E.tt t with
  |some ti=>Bbq ti (evD env a) (evD env x) S K
  |none=>False
 |.nilCheck x=>match evD env x with
  |.ref k b o=>K (.ref k b o) S
  |.er k b i w o=>K (.er k b i w o) S
  |.pt r=>K (.pt r) S
  |.fn (.func k) a c=>K (.fn (.func k) a c) S
  |_=>False
 |.binOp op t x y _=>match Wy E.tt op t (evD env x) (evD env y) with
  |some (n,pos)=>BcD n pos S K
  |none=>Bel E.tt E.eqs op t x y (evD env x) (evD env y) S K
 |.unOp op _ x=>Bnw op (evD env x) S K
 |.convert s d x=>match E.tt s,E.tt d with
  |some si,some di=>match MY s d (evD env x) with
   |true=>M1 E.tt si.desc (evD env x) S K
   |false=>GB E.tt si.desc di.desc (evD env x) S K
  |_,_=>False
 |.makeInterface t x=>match E.tt t with
  |some ti=>chk (!E3 ti.desc) (K (.iface t (evD env x)) S)
  |none=>False
 |.makeFunc f a c=>K (.fn f (a.toList.map (evD env)) (c.toList.map (evD env))) S
 |.makeSlice t l c=>match E.tt t with
  |some ti=>match ti.desc with
   |.slice e=>match E.tt e with
    |some ei=>I8 ei (evD env l) (evD env c) S K
    |none=>False
   |_=>False
  |none=>False
 |.slice t x lo hi mx=>match mx with
  |none=>match E.tt t with
   |some ti=>match ti.desc with
    |.string=>IY (evD env x) (evO env lo) (evO env hi) S K
    |.slice e=>match E.tt e with
     |some ei=>MM ei.size (evD env x) (evO env lo) (evO env hi) S K
     |none=>False
    |.array n e=>match E.tt e with
     |some ei=>IU n ei.size (evD env x) (evO env lo) (evO env hi) S K
     |none=>False
    |_=>False
   |none=>False
  |some m=>BdE (BmO m) E.tt t (evD env x) (evO env lo) (evO env hi) (evD env m) S K
 |.fieldAddr t x f=>match E.tt t with
  |some ti=>match Gr ti.desc f with
   |some fd=>match E.tt fd.type with
    |some fi=>chk (decide (fi.size≠0)) (G8 fd.offset (evD env x) S K)
    |none=>False
   |none=>False
  |none=>False
 |.field t x f=>match E.tt t with
  |some ti=>match Gr ti.desc f with
   |some fd=>match E.tt fd.type with
    |some fi=>UM fd.offset fi (evD env x) S K
    |none=>False
   |none=>False
  |none=>False
 |.indexAddr t x i=>match E.tt t with
  |some ti=>match ti.desc with
   |.slice e=>match E.tt e with
    |some ei=>Ic ei.size (evD env x) (evD env i) S K
    |none=>False
   |.array n e=>match E.tt e with
    |some ei=>IQ n ei.size (evD env x) (evD env i) S K
    |none=>False
   |_=>False
  |none=>False
 |.index t x i=>match E.tt t with
  |some ti=>match ti.desc with
   |.string=>IL (evD env x) (evD env i) S K
   |.array n e=>match E.tt e with
    |some ei=>IZ n ei (evD env x) (evD env i) S K
    |none=>False
   |_=>False
  |none=>False
 |.range t x=>match E.tt t with
  |some ti=>match ti.desc with
   |.string=>match evD env x with
    |.str s=>∀y,freshIn y S.objs->K (.ref (B2 S.objs) y 0) (S.new y (.sit s 0))
    |_=>False
   |_=>False
  |none=>False
 |.makeMap t r=>match r with
  |none=>match E.tt t with
   |some ti=>T5 (Bmo E.tt ti.desc) S K
   |none=>False
  |some _=>False
 |.lookup t x i ok=>match E.tt t with
  |some ti=>chk (Wp E.tt ti.desc) (Wg (O5 E.P ti.desc) (evD env x) (evD env i) ok S K)
  |none=>False
 |.mapUpdate t m i x=>match E.tt t with
  |some ti=>chk (Wp E.tt ti.desc) (Ig (evD env m) (evD env i) (evD env x) S K)
  |none=>False
 |.insert t m i x=>match E.tt t with
  |some ti=>chk (Wp E.tt ti.desc) (Ig (evD env m) (evD env i) (evD env x) S K)
  |none=>False
 |.next it isS=>match isS with
  |true=>Be0 (evD env it) S K
  |false=>False
 |.typeAssert x _ t ok=>match E.tt t with
  |some ti=>chk (!E3 ti.desc) (Wf t ok (evD env x) S K)
  |none=>False
 |.extract x i=>MJ i (evD env x) S K
 |.panic x=>match evD env x with
  |.iface t d=>X (.iface t d) S
  |_=>False
 |.call c=>match c.callee with
  |.value f=>BoB E.con E.inl (evD env f) (c.args.toList.map (evD env)) S K X
  |.builtin b=>GF E.tt E.own b c.argTypes.toList (c.args.toList.map (evD env)) S K X
  |.invoke _ _=>False
 |_=>False
section
variable {C:Ctx} {F S:St} {w:World} {K X:D->St->Prop} {env:Env} {a:Act}
theorem MF(he:RepEnv C env a.tmps):∀(xs:List Operand),RepL C (xs.map (evD env)) (xs.map a.eval)
 | []=>by simp[RepL]
 |x::xs=>by simp only[List.map_cons,RepL];exact⟨_,_,rfl,MS he x,MF he xs⟩
theorem MB(he:RepEnv C env a.tmps):∀(ps:List (Nat×Operand)),RepParts C (MW env ps) (ps.map fun p=>(p.1,a.eval p.2))
 | []=>rfl
 |p::ps=>by simp only[MW,List.map_cons,RepParts];exact⟨_,_,rfl,MS he p.2,MB he ps⟩
theorem EW(he:RepEnv C env a.tmps):∀(x:Option Operand),RepO C (evO env x) (x.map a.eval)
 |none=>trivial
 |some x=>MS he x
theorem Bd6{d:D}{v:Value}(h:EU d=true)(hr:Rep C d v):∀vs,v≠.agg vs:=by
 intro vs hv;subst hv
 cases d<;>simp_all[EU,Rep]
theorem BaR{P : Program}{op : BinOp}{t : Nat}{x y : Operand}{da db : D}(h : O6 x y da db = true)(h1 : EU da = true)(h2 : EU db = true){u v : Value}(hu : Rep C da u)(hv : Rep C db v) :
    (eqGuard op t x y u v).run P w = .ok () w := by
  unfold eqGuard
  (repeat' split) <;> first
    | rfl
    | exact (Bd6 h1 hu _ rfl).elim
    | (have e1 : da = .nili := by cases da <;> simp_all [Rep, EU]
       have e2:db = .nili := by cases db <;> simp_all [Rep,EU]
       subst e1 e2
       simp_all [O6])
end
section
variable {E:Senv} {C:Ctx} {F S:St} {w:World} {K X:D->St->Prop} {env:Env} {a:Act}
theorem BkM(hT : TabOk E.P E.tt)(hs : Sat C (S.add F) w){op : BinOp}{t : Nat}{x y : Operand}{da db : D}{u v : Value}(hu : Rep C da u)(hv : Rep C db v)(h : Oa E.tt op t x y da db S K) :
  Good E.P C F K X ((do pure (Next.value (<- (do eqGuard op t x y u v;binOp op t u v))):Sem Next).run E.P w):=by
 have gd:∀ {r:Value} (_:(eqGuard op t x y u v).run E.P w=.ok () w) (_:(binOp op t u v).run E.P w=.ok r w),((do eqGuard op t x y u v;binOp op t u v):Sem Value).run E.P w=.ok r w:=by
  intro r h1 h2;simp[h1,h2]
 have plain:(∀n:Unit,u≠.nilIface)->(∀cs,u≠.agg cs)->(eqGuard op t x y u v).run E.P w=.ok () w:=by
  intro h1 h2
  unfold eqGuard
  (repeat' split)<;>first | rfl | exact (h1 () rfl).elim | exact (h2 _ rfl).elim
 unfold Oa at h
 split at h
 ·split at h
  ·simp only[Rep] at hu hv;subst hu hv
   obtain ⟨d,r,h1,h2,h3⟩:=Bhi (P:=E.P) (w:=w) (t:=t) h
   exact .of_val hs (gd (plain (by simp) (by simp)) h1) (h3 C) h2
  ·exact h.elim
 ·split at h
  ·simp only[Rep] at hu hv;subst hu hv
   obtain ⟨d,r,h1,h2,h3⟩:=Bhz (P:=E.P) (w:=w) (t:=t) h
   exact .of_val hs (gd (plain (by simp) (by simp)) h1) (h3 C) h2
  ·exact h.elim
 ·rename_i hni hns
  split at h
  ·rename_i ti ht
   have hd:=(hT _ _ ht).1
   have shape:∀ {r:Bool},eqT ti.desc da db=some r->EU da=true->EU db=true->(∀k n,u≠.int k n)/\(∀s,u≠.string s)/\(∀k n,u≠.float k n)/\(∀k n m,u≠.complex k n m):=by
    intro r hr h1 _
    refine⟨?_,?_,?_,?_⟩<;>(intros;intro e;subst e;cases da<;>simp_all[Rep,EU,eqT]<;>(split at hr<;>simp_all[Ia,WU,U8,BdW,Bcl,Bdd]))
   split at h
   ·split at h
    ·rename_i r hr
     obtain ⟨hck,hk⟩:=Ba.1 h
     simp only[Bool.and_eq_true] at hck
     obtain ⟨⟨g,n1⟩,n2⟩:=hck
     obtain ⟨s1,s2,s3,s4⟩:=shape hr n1 n2
     refine .of_val (v:=.bool r) hs (gd (BaR g n1 n2 hu hv) ?_) (by simp[Rep]) hk
     have:=Bgs (P:=E.P) (w:=w) hd hr hu hv
     cases u<;>simp_all[binOp]
    ·exact h.elim
   ·split at h
    ·rename_i r hr
     obtain ⟨hck,hk⟩:=Ba.1 h
     simp only[Bool.and_eq_true] at hck
     obtain ⟨⟨g,n1⟩,n2⟩:=hck
     obtain ⟨s1,s2,s3,s4⟩:=shape hr n1 n2
     refine .of_val (v:=.bool !r) hs (gd (BaR g n1 n2 hu hv) ?_) (by simp[Rep]) hk
     have:=Bgs (P:=E.P) (w:=w) hd hr hu hv
     cases u<;>simp_all[binOp]
    ·exact h.elim
   ·exact h.elim
  ·exact h.elim
theorem BdG(n:Nat){P:Program}{w:World}{t e:TypeId}(hut:P.underlying t=some (.slice e))(a:Option Addr)(len cap:Nat):(Op.equalIn (n+1) t (.slice a len cap) (.slice none 0 0)).run P w=.ok a.isNone w:=by
 cases a<;>simp[Op.equalIn,run_underlying hut]
theorem BgY{P:Program}{w:World}{t e:TypeId}(hut:P.underlying t=some (.slice e))(a:Option Addr)(len cap:Nat):(Op.equal t (.slice a len cap) (.slice none 0 0)).run P w=.ok a.isNone w:=BdG 9999 hut a len cap
theorem Bjp(hT : TabOk E.P E.tt)(hs : Sat C (S.add F) w){op : BinOp}{t : Nat}{x y : Operand}{da db : D}{u v : Value}(hu : Rep C da u)(hv : Rep C db v){n : Nat}{pos : Bool}(hq : Wy E.tt op t da db=some (n, pos))(h : BcD n pos S K) :
  Good E.P C F K X ((do pure (Next.value (<- (do eqGuard op t x y u v;binOp op t u v))):Sem Next).run E.P w):=by
 unfold Wy at hq
 split at hq
 ·rename_i wd n' f m wd' f'
  simp only[Rep] at hu hv
  obtain ⟨a,len,cap,rfl,hh,_⟩:=hu
  obtain ⟨a',len',cap',rfl,hh',_⟩:=hv
  obtain ⟨e1,e2,e3⟩:=hh'.nil_a
  subst e1 e2 e3
  have hg:(eqGuard op t x y (.slice a len cap) (.slice none 0 0)).run E.P w=.ok () w:=by
   unfold eqGuard
   (repeat' split)<;>first | rfl | (rename_i h;cases h) | simp_all
  have key:∀(hn:n'=n),(a.isNone=true->n=0):=by
   intro hn ha
   cases a with
   |none=>exact hn ▸ (hh.2.2.2.1 rfl).1
   |some _=>cases ha
  split at hq
  ·cases hq
  ·cases hq
  ·split at hq
   ·rename_i ti ht
    split at hq
    ·rename_i e hd
     have hut:E.P.underlying t=some (.slice e):=by rw[<- hd];exact (hT _ _ ht).1
     have hrun:(Op.equal t (.slice a len cap) (.slice none 0 0)).run E.P w=.ok a.isNone w:=by
      exact BgY hut a len cap
     split at hq
     ·simp only[Option.some.injEq,Prod.mk.injEq] at hq
      obtain ⟨hn,rfl⟩:=hq
      refine .of_val (v:=.bool a.isNone) hs ?_ (by simp[Rep]) (h a.isNone (key hn))
      simp[hg,binOp,hrun]
     ·simp only[Option.some.injEq,Prod.mk.injEq] at hq
      obtain ⟨hn,rfl⟩:=hq
      refine .of_val (v:=.bool !a.isNone) hs ?_ (by simp[Rep]) (h a.isNone (key hn))
      simp[hg,binOp,hrun]
     ·cases hq
    ·cases hq
   ·cases hq
 ·cases hq
theorem Bfq{P : Program}{w : World}{t : Nat}{d : TypeDesc}(hd : P.underlying t=some d){C : Ctx}{da db : D}{r : Bool}(h : BeM d da db=some r){u v : Value}(hu : Rep C da u)(hv : Rep C db v)(n : Nat) :
  (Op.equalIn (n+1) t u v).run P w=.ok r w:=by
 unfold BeM at h
 split at h
 ·rename_i k0
  split at h
  ·rename_i k n' k' m
   split at h
   ·rename_i hk
    have hk:k=k':=of_decide_eq_true hk
    subst hk
    injection h with h;subst h
    simp only[Rep] at hu hv;subst hu hv
    exact run_equalIn_int w n t k k0 n' m hd
   ·cases h
  ·cases h
 ·split at h
  ·injection h with h;subst h
   simp only[Rep] at hu hv;subst hu hv
   rw[run_equalIn_string w n t _ _ hd]
   simp[ByteArray.toList_mk]
  ·cases h
 ·split at h
  ·injection h with h;subst h
   simp only[Rep] at hu hv;subst hu hv
   exact run_equalIn_bool' w n t _ _ hd
  ·cases h
 ·cases h
theorem Tb(hT:TabOk E.P E.tt){axs bs:List D}{xs ys:Array Value}(hx:RepL C axs xs.toList)(hy:RepL C bs ys.toList)(n:Nat):∀(fs:List Field) (r:Bool),EP E.tt axs bs fs=some r->(Op.eqFields (n+1) xs ys fs).run E.P w=.ok r w
 | [],r,h=>by simp only[EP,Option.some.injEq] at h;subst h;simp[Op.eqFields]
 |f::fs,r,h=>by
  simp only[EP] at h
  split at h
  ·rename_i fi hf
   split at h
   ·rename_i hc
    simp only[Bool.and_eq_true,decide_eq_true_eq] at hc
    obtain ⟨⟨hn,h1⟩,h2⟩:=hc
    split at h
    ·rename_i x hxc
     split at h
     ·rename_i y hyc
      injection h with h;subst h
      obtain ⟨u,p1,p2⟩:=Th (P:=E.P) (w:=w) hT hf hx h1
      obtain ⟨v,q1,q2⟩:=Th (P:=E.P) (w:=w) hT hf hy h2
      have he:=Bfq (P:=E.P) (w:=w) (hT _ _ hf).1 hxc p2 q2 n
      have ih:=Tb hT hx hy n fs y hyc
      simp only[Op.eqFields,if_pos hn,Sem.run_bind,p1,q1,he,Result.andThen_ok,Sem.run_ite]
      cases x<;>simp[ih]
     ·cases h
    ·cases h
   ·cases h
  ·cases h
theorem Bi5(hT : TabOk E.P E.tt)(hQ : ∀t, E.eqs.contains t=true -> E.P.eqGuardType E.P.depth t=false /\ E.P.stoodInHeld t=false)(hs : Sat C (S.add F) w){op : BinOp}{t : Nat}{x y : Operand}{da db : D}{u v : Value}(hu : Rep C da u)(hv : Rep C db v){r : Bool}(hq : BfA E.tt E.eqs op t da db=some r)(h : K (.bool r) S) :
  Good E.P C F K X ((do pure (Next.value (<- (do eqGuard op t x y u v;binOp op t u v))):Sem Next).run E.P w):=by
 unfold BfA at hq
 split at hq
 ·rename_i axs
  split at hq
  ·rename_i bs
   split at hq
   ·rename_i hc
    split at hq
    ·rename_i ti ht
     split at hq
     ·rename_i fs hd
      obtain ⟨g1,g2⟩:=hQ t hc
      simp only[Rep] at hu hv
      obtain ⟨xs,rfl,hx⟩:=hu
      obtain ⟨ys,rfl,hy⟩:=hv
      have hut:E.P.underlying t=some (.struct fs):=by rw[<- hd];exact (hT _ _ ht).1
      have hfs:E.P.fieldsOf t=fs:=by simp[Program.fieldsOf,hut]
      have hut':E.P.underlying t=some (.struct (E.P.fieldsOf t)):=by rw[hfs];exact hut
      have key:∀q,EP E.tt axs bs fs.toList=some q->(Op.equal t (.agg xs) (.agg ys)).run E.P w=.ok q w:=by
       intro q hq
       show (Op.equalIn (9999+1) t (.agg xs) (.agg ys)).run E.P w=_
       rw[run_equalIn_struct w 9999 t xs ys hut' g2,hfs]
       exact Tb hT hx hy 9998 fs.toList q hq
      split at hq
      ·refine .of_val (v:=.bool r) hs ?_ (by simp[Rep]) h
       simp[run_eqGuard_agg w .eql t x y xs ys g1,binOp,key r hq]
      ·split at hq
       ·rename_i q hq'
        injection hq with hq;subst hq
        refine .of_val (v:=.bool !q) hs ?_ (by simp[Rep]) h
        simp[run_eqGuard_agg w .neq t x y xs ys g1,binOp,key q hq']
       ·cases hq
      ·cases hq
     ·cases hq
    ·cases hq
   ·cases hq
  ·cases hq
 ·cases hq
theorem Bip(hT : TabOk E.P E.tt)(hs : Sat C (S.add F) w){t e : Nat}{ti ei : TI}(ht : E.tt t=some ti)(hd : ti.desc=.slice e)(he : E.tt e=some ei)
  {x:D} {v:Value} (hx:Rep C x v) {lo hi:Option D} {vl vh:Option Value} {mx:D} {vm:Value} (h1:RepO C lo vl) (h2:RepO C hi vh) (h3:Rep C mx vm) (h:I5 ei.size x lo hi mx S K) :
  Good E.P C F K X ((do pure (Next.value (<- Instr.sliceAt t v vl vh (some vm))):Sem Next).run E.P w):=by
 have hu:=Bz (P:=E.P) (w:=w) hT ht
 rw[hd] at hu
 have zero:∀ {d:D} {z:Value},Oe d=true->Rep C d z->z=.int .i64 0:=by
  intro d z hz hr
  unfold Oe at hz
  split at hz
  ·simpa[Rep] using hr
  ·cases hz
 have fin : ∀ {wd n : Nat} {f : Nat -> List D} {m : Mode} {vl vh : Option Value}, (vl=none \/ vl=some (.int .i64 0)) -> vh=some (.int .i64 0) -> vm=.int .i64 0 -> Rep C (.sl wd n f m) v ->
   (∀t,K (.sl wd 0 (fun _=>[]) (.tok (Bm S.toks) t)) ⟨S.objs,(Bm S.toks,t)::S.toks⟩) ->
   Good E.P C F K X ((do pure (Next.value (<- Instr.sliceAt t v vl vh (some vm))):Sem Next).run E.P w):=by
  intro wd n f m vl vh e1 e2 e3 hx hk
  subst e2 e3
  simp only[Rep] at hx
  obtain ⟨a,len,cap,rfl,hh,_⟩:=hx
  obtain ⟨tk,htk,htm,hte⟩:=hs.tok_free
  refine .of_val' (v:=.slice a 0 0) (w':=w) (C':=C.tokd tk .no) (S':=⟨S.objs,(Bm S.toks,tk)::S.toks⟩) ?_ (Ctx.tokd_le htk) (Sat.cons_frame (hs.tok_no _ htk htm)) ?_ (hk tk)
  ·rcases e1 with rfl | rfl<;>simp[Instr.sliceAt,Instr.slice,hu,Instr.sliceBounds,Instr.sliceBound,asIntOf,Bo hT he]
  ·simp only[Rep]
   exact⟨a,0,0,rfl,⟨rfl,Nat.le_refl _,by simp[maxLen],fun _=>⟨rfl,rfl⟩,fun _ _ h0=>absurd h0 (by omega),by simp[Ctx.tokd,hte]⟩,fun _ _ i hi=>by omega⟩
 unfold I5 at h
 split at h
 ·obtain ⟨hc,hk⟩:=Ba.1 h
  simp only[Bool.and_eq_true] at hc
  cases vl with
  |none=>exact h1.elim
  |some vl =>
   cases vh with
   |none=>exact h2.elim
   |some vh=>exact fin (.inr (by rw[zero hc.1.1.2 h1])) (by rw[zero hc.1.2 h2]) (zero hc.2 h3) hx hk
 ·obtain ⟨hc,hk⟩:=Ba.1 h
  simp only[Bool.and_eq_true] at hc
  cases vl with
  |some _=>exact h1.elim
  |none =>
   cases vh with
   |none=>exact h2.elim
   |some vh=>exact fin (.inl rfl) (by rw[zero hc.1.2 h2]) (zero hc.2 h3) hx hk
 ·exact h.elim
theorem BhN(hT : TabOk E.P E.tt)(hs : Sat C (S.add F) w){t e : Nat}{ti ei : TI}(ht : E.tt t=some ti)(hd : ti.desc=.slice e)(he : E.tt e=some ei)
  {x:D} {v:Value} (hx:Rep C x v) {lo hi:Option D} {vl vh:Option Value} {mx:D} {vm:Value} (h1:RepO C lo vl) (h2:RepO C hi vh) (h3:Rep C mx vm) (h:Ms ei.size x lo hi mx S K) :
  Good E.P C F K X ((do pure (Next.value (<- Instr.sliceAt t v vl vh (some vm))):Sem Next).run E.P w):=by
 have hu:=Bz (P:=E.P) (w:=w) hT ht
 rw[hd] at hu
 unfold Ms at h
 split at h
 ·rename_i wd n f m h0 k0
  obtain ⟨_,h⟩:=Ba.1 h
  obtain ⟨rfl,rfl,hk⟩:=h
  cases vl with
  |some _=>exact h1.elim
  |none =>
  cases vh with
  |none=>exact h2.elim
  |some vh =>
  have e2:vh=.int .i64 n:=by simpa[RepO,Rep] using h2
  have e3:vm=.int .i64 n:=by simpa[Rep] using h3
  subst e2 e3
  simp only[Rep] at hx
  obtain ⟨a,len,cap,rfl,hh,hrep⟩:=hx
  obtain ⟨tk,htk,htm,hte⟩:=hs.tok_free
  have hl:len=n:=hh.1
  subst hl
  have hlc:=hh.2.1
  have hadd:∀b,a=some b->b.add 0=b\/len=0:=by
   intro b hb
   by_cases hz:len=0
   ·exact .inr hz
   ·have hsp:=hh.2.2.2.2.1 b hb (by omega)
    obtain ⟨b,o,sp⟩:=b
    simp only at hsp
    subst hsp
    exact .inl (by rw[Addr.add_mk];rfl)
  refine .of_val' (v:=.slice a len len) (w':=w) (C':=C.tokd tk .no) (S':=⟨S.objs,(Bm S.toks,tk)::S.toks⟩) ?_ (Ctx.tokd_le htk) (Sat.cons_frame (hs.tok_no _ htk htm)) ?_ (hk tk)
  ·have ha:(if len=0 then a else a.map (·.add 0))=a:=by
    split
    ·rfl
    ·rename_i hz
     cases a with
     |none=>rfl
     |some b=>simp[(hadd b rfl).resolve_right hz]
   simp[Instr.sliceAt,Instr.slice,hu,Instr.sliceBounds,Instr.sliceBound,asIntOf,Bo hT he,hlc]
   intro hz
   rwa [if_neg hz] at ha
  ·simp only[Rep]
   refine⟨a,len,len,rfl,⟨rfl,Nat.le_refl _,by have:=hh.2.2.1;omega,fun ha=>⟨(hh.2.2.2.1 ha).1,(hh.2.2.2.1 ha).1⟩,fun b hb h0=>hh.2.2.2.2.1 b hb (by omega),by simp[Ctx.tokd,hte]⟩,fun b hb i hi=>?_⟩
   obtain ⟨q1,q2⟩:=hrep b hb i hi
   exact⟨q1,RepCells.mono (Ctx.tokd_le htk (x:=.no)) _ _ _ q2⟩
 ·exact h.elim
theorem Bnx(hs:Sat C (S.add F) w){op:UnOp}{d:D}{u:Value}(hu:Rep C d u)(h:Bnw op d S K):Good E.P C F K X ((do pure (Next.value (<- Op.unary op u)):Sem Next).run E.P w):=by
 unfold Bnw at h
 split at h
 ·rename_i b
  simp only[Rep] at hu;subst hu
  exact .of_val (v:=.bool !b) hs (by simp[Op.unary]) (by simp[Rep]) h
 ·rename_i k n
  simp only[Rep] at hu;subst hu
  exact .of_val (v:=.int k (k.wrap (0-n))) hs (by simp[Op.unary,Op.intArith]) (by simp[Rep]) h
 ·simp only[Rep] at hu;subst hu
  exact .of_val hs (by simp[Op.unary,Op.intBits];rfl) (by simp[Rep,Bpu]) h
 ·exact h.elim
structure EnvOk (E:Senv):Prop where
 tab:TabOk E.P E.tt
 con:ConOk E.P E.con
 mix:E.P.follows .mixedOrders=true
 inl:∀k ds S R,E.inl k ds S R->ACalls E.P k ds S R:=by intro _ _ _ _ h;exact h.elim
 eqs:∀t,E.eqs.contains t=true->E.P.eqGuardType E.P.depth t=false/\E.P.stoodInHeld t=false:=by intro _ h;cases h
theorem Bmu(hC : ConOk E.P E.con)(hI : ∀k ds S R, E.inl k ds S R -> ACalls E.P k ds S R)(hs : Sat C (S.add F) w){f : D}{ds : List D}{u : Value}{vs : Array Value}(hu : Rep C f u)(hr : RepL C ds vs.toList)(h : BoB E.con E.inl f ds S K X) :
  Good E.P C F K X ((do let d <- Deferred.ofValue u vs;invoke d.target d.args:Sem Next).run E.P w):=by
 unfold BoB at h
 split at h
 ·simp only[Rep] at hu
  obtain ⟨a',c',rfl,h1,h2⟩:=hu
  simp only[Deferred.ofValue,Sem.run_bind,Sem.run_pure,Result.andThen_ok,invoke]
  split at h
  ·rename_i A hA
   split at h
   ·rename_i hall
    obtain ⟨x,q1,q2⟩:=h
    obtain ⟨e1,e2⟩:=(hC _ _ _ A hA).2.2 hall x q1
    have ha:=(hC _ _ _ A hA).1 x q1
    rw[e2] at ha
    refine T2 hs (B5 _ _ e1 _ _ (by simp only[Array.toList_append];exact RepL.append (RepL.append h1 hr) h2)) (ha.mono ?_)
    rintro r S' ⟨y,hy,rfl,rfl⟩
    exact q2 y hy
   obtain ⟨x, q1, q2, q3, q4⟩ : ∃x, Br _ (A.args x) /\ leS (A.st x) S /\ A.pre x /\ ∀y, A.post x y -> match A.res x y with
     |.ret d=>K d ((A.out x y).add (S.less (A.st x)))
     |.pan d=>X d ((A.out x y).add (S.less (A.st x))):=by
    split at h
    ·rename_i x hx
     have hf:=(hC _ _ _ A hA).2.1 x hx h.1
     exact⟨x,hf.1,hf.2,h⟩
    ·exact h
   refine T2 (S:=(A.st x).add (S.less (A.st x))) (hs.split q2) (B5 _ _ q1 _ _ (by simp only[Array.toList_append];exact RepL.append (RepL.append h1 hr) h2)) ?_
   refine (((hC _ _ _ A hA).1 x q3).frame (S.less (A.st x))).mono ?_
   rintro r S' ⟨S0,⟨y,hy,rfl,rfl⟩,rfl⟩
   exact q4 y hy
  ·exact T2 hs (by simp only[Array.toList_append];exact RepL.append (RepL.append h1 hr) h2) (hI _ _ _ _ h)
 ·exact h.elim
theorem CE{C:Ctx}{x:D}{vs:List Value}(h:RepL C [x] vs):∃v,vs=[v]/\Rep C x v:=by
 simp only[RepL] at h
 obtain ⟨v,_,rfl,h1,rfl⟩:=h
 exact⟨v,rfl,h1⟩
theorem EO{C:Ctx}{x y:D}{vs:List Value}(h:RepL C [x,y] vs):∃u v,vs=[u,v]/\Rep C x u/\Rep C y v:=by
 simp only[RepL] at h
 obtain ⟨u,_,rfl,h1,v,_,rfl,h2,rfl⟩:=h
 exact⟨u,v,rfl,h1,h2⟩
theorem Ba7(hT : TabOk E.P E.tt)(hs : Sat C (S.add F) w){b : Builtin}{ts : Array TypeId}{ty : Nat}{cs : Array Bool}{ds : List D}{vs : Array Value}(hr : RepL C ds vs.toList)(h : GF E.tt E.own b ts.toList ds S K X) :
  Good E.P C F K X ((builtin b ts ty cs vs).run E.P w):=by
 unfold GF at h
 split at h
 ·split at h
  ·rename_i t x hts
   split at h
   ·rename_i ti ht
    obtain ⟨v,hv,hx⟩:=CE hr
    have e1:ts=[t].toArray:=by rw[<- hts]
    have e2:vs=[v].toArray:=by rw[<- hv]
    subst e1 e2
    exact Bkt hT hs ht hx (Ba.1 h).1 (Ba.1 h).2
   ·exact h.elim
  ·exact h.elim
 ·split at h
  ·rename_i t u x y hts
   split at h
   ·rename_i ti ui ht hu
    split at h
    ·rename_i e hd
     split at h
     ·rename_i ei he
      obtain ⟨g1,hk⟩:=Ba.1 h
      obtain ⟨v,z,hv,hx,hy⟩:=EO hr
      have e1:ts=[t,u].toArray:=by rw[<- hts]
      have e2:vs=[v,z].toArray:=by rw[<- hv]
      subst e1 e2
      have hseq:ui.desc=.string\/∃e',ui.desc=.slice e':=by
       unfold Bof at g1
       split at g1
       ·exact .inl ‹_›
       ·exact .inr ⟨_,‹_›⟩
       ·cases g1
      unfold Bad at hk
      split at hk
      ·split at hk
       ·exact WP hT hs ht hd hu hseq he hx hy hk
       ·exact Rr hT hs ht hd hu hseq he hx hy hk
       ·exact Bba hT hs ht hd hu hseq he hx hy hk
       ·exact O1 hT hs ht hd hu hseq he hx hy hk
      ·exact O1 hT hs ht hd hu hseq he hx hy hk
     ·exact h.elim
    ·exact h.elim
   ·exact h.elim
  ·exact h.elim
 ·split at h
  ·rename_i t u x y hts
   split at h
   ·rename_i ti ht
    split at h
    ·rename_i e hd
     split at h
     ·rename_i ei he
      obtain ⟨v,z,hv,hx,hy⟩:=EO hr
      have e1:ts=[t,u].toArray:=by rw[<- hts]
      have e2:vs=[v,z].toArray:=by rw[<- hv]
      subst e1 e2
      exact Bin hT hs ht hd he hx hy h
     ·exact h.elim
    ·exact h.elim
   ·exact h.elim
  ·exact h.elim
 ·split at h
  ·exact Bj4 hs hr ‹_› h
  ·exact h.elim
 ·split at h
  ·exact BkK hs hr ‹_› h
  ·exact h.elim
 ·split at h
  ·obtain ⟨v,hv,hx⟩:=CE hr
   have e2:vs=[v].toArray:=by rw[<- hv]
   subst e2
   exact W0 hs hx h
  ·exact h.elim
 ·exact h.elim
theorem M0(hE:EnvOk E)(he:RepEnv C env a.tmps)(hs:Sat C (S.add F) w)(o:Oper)(h:Gs E o.op env S K X):Good E.P C F K X ((execOp a.eval o).run E.P w):=by
 have hT:=hE.tab
 obtain ⟨dst,op,ty,pos,after,guard⟩:=o
 simp only at h
 have ev:=fun x=>MS (C:=C) he x
 cases op<;>simp only[Gs] at h<;>(try exact h.elim)<;>simp only[execOp]
 case move x=>exact .val hs (ev x) h
 case assign x=>exact .val hs (ev x) h
 case pick c x y =>
  split at h
  ·rename_i t hc
   have hcv:=ev c
   rw[hc] at hcv
   simp only[Rep] at hcv
   simp only[hcv,asBool,Sem.run_bind,Sem.run_pure,Result.andThen_ok]
   split at h
   ·rename_i p q h1 h2
    refine .val hs ?_ h
    have e1:=ev x;have e2:=ev y
    rw[h1] at e1;rw[h2] at e2
    cases t<;>simpa[Rep] using (by assumption)
   ·cases t
    ·exact .val hs (ev y) h
    ·exact .val hs (ev x) h
  ·exact h.elim
 case alloc e =>
  split at h
  ·split at h
   ·exact Bbl hT hs ‹_› _ h
   ·exact Be4 hT hs ‹_› _ h
  ·exact h.elim
 case box e x=>exact BiL hs e (ev x) h
 case build t ps =>
  split at h
  ·refine BeO hT hs ‹_› (parts:=MW env ps.toList) ?_ h
   have:=MB he ps.toList
   simpa using this
  ·exact h.elim
 case buildSlice t len ps =>
  split at h
  ·split at h
   ·split at h
    ·refine Uz hT hs ‹_› ‹_› ‹_› (parts:=MW env ps.toList) ?_ h
     have:=MB he ps.toList
     simpa using this
    ·exact h.elim
   ·exact h.elim
  ·exact h.elim
 case load t x =>
  split at h
  ·exact Bik hT hs ‹_› (ev x) h
  ·exact h.elim
 case store t x y =>
  split at h
  ·exact BeQ hT hs ‹_› (ev x) (ev y) h
  ·exact h.elim
 case nilCheck x =>
  split at h
  ·rename_i k b o hx
   have hv:=ev x
   rw[hx] at hv
   have hv':=hv
   simp only[Rep] at hv
   rw[hv] at hv' ⊢
   exact .val hs hv' h
  ·rename_i k b i w o hx
   have hv:=ev x
   rw[hx] at hv
   have hv':=hv
   simp only[Rep] at hv
   rw[hv] at hv' ⊢
   exact .val hs hv' h
  ·rename_i r hx
   have hv:=ev x
   rw[hx] at hv
   have hv':=hv
   simp only[Rep] at hv
   obtain ⟨b,o,hv,_⟩:=hv
   rw[hv] at hv' ⊢
   exact .val hs hv' h
  ·rename_i k fa fc hx
   have hv:=ev x
   rw[hx] at hv
   have hv':=hv
   simp only[Rep] at hv
   obtain ⟨a',c',hv,_⟩:=hv
   rw[hv] at hv' ⊢
   exact .val hs hv' h
  ·exact h.elim
 case binOp op t x y yt =>
  split at h
  ·exact Bjp hT hs (ev x) (ev y) ‹_› h
  ·unfold Bel at h
   split at h
   ·exact Bi5 hT hE.eqs hs (ev x) (ev y) ‹_› h
   ·exact BkM hT hs (ev x) (ev y) h
 case unOp op t x=>exact Bnx hs (ev x) h
 case convert s d x =>
  split at h
  ·split at h
   ·exact BbF hT hs ‹_› ‹_› (ev x) ‹_› h
   ·exact Bbb hT hs ‹_› ‹_› (ev x) h
  ·exact h.elim
 case makeInterface t x =>
  split at h
  ·have h:=Ba.1 h
   exact Oj hT hs ‹_› (by simpa using h.1) (ev x) h.2
  ·exact h.elim
 case makeFunc f x c =>
  refine .of_val (v:=.func f (x.map a.eval) (c.map a.eval)) hs (by simp[Instr.makeFunc]) ?_ h
  simp only[Rep]
  exact⟨_,_,rfl,by simpa using MF he x.toList,by simpa using MF he c.toList⟩
 case makeSlice t l c =>
  split at h
  ·split at h
   ·split at h
    ·exact We hT hs ‹_› ‹_› ‹_› (ev l) (ev c) h
    ·exact h.elim
   ·exact h.elim
  ·exact h.elim
 case slice t x lo hi mx =>
  split at h
  ·split at h
   ·split at h
    ·exact RX hT hs ‹_› ‹_› (ev x) (EW he lo) (EW he hi) h
    ·split at h
     ·exact Bbm hT hs ‹_› ‹_› ‹_› (ev x) (EW he lo) (EW he hi) h
     ·exact h.elim
    ·split at h
     ·exact RO hT hs ‹_› ‹_› ‹_› (ev x) (EW he lo) (EW he hi) h
     ·exact h.elim
    ·exact h.elim
   ·exact h.elim
  ·unfold BdE at h
   split at h
   ·split at h
    ·split at h
     ·unfold BdQ at h
      split at h
      ·exact Bip hT hs ‹_› (Um ‹_›) ‹_› (ev x) (EW he lo) (EW he hi) (ev _) h
      ·exact BhN hT hs ‹_› (Um ‹_›) ‹_› (ev x) (EW he lo) (EW he hi) (ev _) h
     ·exact h.elim
    ·exact h.elim
   ·exact h.elim
 case fieldAddr t x f =>
  split at h
  ·split at h
   ·split at h
    ·have h:=Ba.1 h
     exact Wl hT hs ‹_› ‹_› ‹_› (of_decide_eq_true h.1) (ev x) h.2
    ·exact h.elim
   ·exact h.elim
  ·exact h.elim
 case field t x f =>
  split at h
  ·split at h
   ·split at h
    ·exact Bed hT hs ‹_› ‹_› ‹_› (ev x) h
    ·exact h.elim
   ·exact h.elim
  ·exact h.elim
 case indexAddr t x i =>
  split at h
  ·split at h
   ·split at h
    ·exact U6 hT hs ‹_› ‹_› ‹_› (ev x) (ev i) h
    ·exact h.elim
   ·split at h
    ·exact RW hT hs ‹_› ‹_› ‹_› (ev x) (ev i) h
    ·exact h.elim
   ·exact h.elim
  ·exact h.elim
 case index t x i =>
  split at h
  ·split at h
   ·exact RY hT hs ‹_› ‹_› (ev x) (ev i) h
   ·split at h
    ·exact RQ hT hs ‹_› ‹_› ‹_› (ev x) (ev i) h
    ·exact h.elim
   ·exact h.elim
  ·exact h.elim
 case range t x =>
  split at h
  ·split at h
   ·split at h
    ·rename_i s hx
     have hv:=ev x
     rw[hx] at hv
     exact Bd5 hT hs ‹_› ‹_› hv h
    ·exact h.elim
   ·exact h.elim
  ·exact h.elim
 case makeMap t r =>
  split at h
  ·split at h
   ·exact BbH hs h
   ·exact h.elim
  ·exact h.elim
 case lookup t x i ok =>
  split at h
  ·have h:=Ba.1 h
   exact Bdf hT hs ‹_› h.1 (ev x) (ev i) h.2
  ·exact h.elim
 case mapUpdate t m i x =>
  split at h
  ·have h:=Ba.1 h
   exact I6 hT hs ‹_› h.1 (ev m) (ev i) (ev x) h.2
  ·exact h.elim
 case insert t m i x =>
  split at h
  ·have h:=Ba.1 h
   exact I6 hT hs ‹_› h.1 (ev m) (ev i) (ev x) h.2
  ·exact h.elim
 case next it isS =>
  split at h
  ·exact Bg9 hs (ev it) h
  ·exact h.elim
 case typeAssert x xt t ok =>
  split at h
  ·have h:=Ba.1 h
   exact Bdc hT hs ‹_› (by simpa using h.1) (ev x) h.2
  ·exact h.elim
 case extract x i=>exact BbD hs (ev x) h
 case panic x =>
  split at h
  ·rename_i t d hx
   have hv:=ev x
   rw[hx] at hv
   exact W0 hs hv h
  ·exact h.elim
 case call c =>
  split at h
  ·rename_i f hc
   simp only[resolve,hc]
   have:=Bmu (E:=E) (X:=X) hE.con hE.inl hs (vs:=c.args.map a.eval) (ev f) (by simpa using MF he c.args.toList) h
   simpa using this
  ·rename_i b hc
   simp only[resolve,hc]
   simp only[Sem.run_bind,Sem.run_pure,Result.andThen_ok,invoke]
   exact Ba7 hT hs (by simpa using MF he c.args.toList) h
  ·exact h.elim
end
def putD(env:Env)(dst:Option Nat)(d:D):Env :=
 match dst with
 |some t=>(t,d)::env
 |none=>env
def E1(ops:List Oper)(o:Oper)(env:Env)(run skip:Env->Prop):Prop :=
 match o.guard with
 |none=>run env
 |some (j,want)=>match ops[j]? with
  |some oj=>match oj.dst with
   |some d=>match look env d with
    |.bool b=>match want with
     |true=>ifB b (run ((d,.bool true)::env)) (skip ((d,.bool false)::env))
     |false=>ifB b (skip ((d,.bool true)::env)) (run ((d,.bool false)::env))
    |.tup []=>skip env
    |_=>False
   |none=>False
  |none=>False
def EL(E:Senv)(ops:List Oper)(Q:APostT):List Nat->Env->St->Prop
 | [],env,S=>Q .normal env S
 |i::rest,env,S=>match ops[i]? with
  |none=>EL E ops Q rest env S
  |some o=>E1 ops o env
    (fun env=>Gs E o.op env S (fun d S'=>EL E ops Q rest (putD env o.dst d) S') (fun d S'=>Q (.panic d) env S'))
    (fun env=>EL E ops Q rest (putD env o.dst (.tup [])) S)
def En(n:Nat):Option Nat->Bool
 |some t=>decide (t<n)
 |none=>true
theorem RepEnv.putD{C : Ctx}{env : Env}{a : Act}(H : RepEnv C env a.tmps){dst : Option Nat}{d : D}{v : Value}(ht : En a.tmps.size dst=true)(hv : Rep C d v) :
  RepEnv C (putD env dst d) (a.put dst v).tmps:=by
 cases dst with
 |none=>exact H
 |some t=>exact RepEnv.put H (by simpa[En] using ht) hv
theorem GS(a:Act)(dst:Option Nat)(v:Value):(a.put dst v).tmps.size=a.tmps.size:=by
 cases dst<;>simp[Act.put]
theorem Ef(a:Act)(dst:Option Nat)(v:Value):(a.put dst v).defers=a.defers:=by
 cases dst<;>rfl
theorem GG(C:Ctx):Rep C (.tup []) undef:=by simp[Rep,RepL,undef]
section
variable {E:Senv} {C:Ctx} {F S:St} {w:World} {K X:D->St->Prop} {env:Env} {a:Act}
theorem UQ{P : Program}{o : Oper}{next : Act -> World -> Prop}{Qc : Exit -> Act -> World -> Prop}(h : Good P C F K X ((execOp a.eval o).run P w))
  (hk:∀C' d S' v w',C.le C'->Rep C' d v->Sat C' (S'.add F) w'->K d S'->next (a.put o.dst v) w')
  (hx:∀C' d S' v w',C.le C'->Rep C' d v->Sat C' (S'.add F) w'->X d S'->Qc (.panic [{ v,recovered:=false }]) a w'):o.wp P a w next Qc:=by
 unfold Oper.wp
 unfold Good at h
 split at h
 ·rename_i v w' hr
  obtain ⟨C',d,S',h1,h2,h3,h4⟩:=h
  rw[hr];exact hk C' d S' v w' h1 h2 h3 h4
 ·rename_i w' hr
  obtain ⟨C',S',h1,h3,h4⟩:=h
  rw[hr];exact hk C' _ S' undef w' h1 (GG C') h3 h4
 ·rename_i f args w' hr
  obtain ⟨C',ds,S',h1,h2,h3,h4⟩:=h
  rw[hr]
  refine (h4.2 C' F args w' h2 h3).mono ?_
  rintro e w'' ⟨C2,r,S2,k1,k2,k3,k4⟩
  cases e with
  |returned v =>
   cases r with
   |ret d=>exact hk C2 d S2 v w'' (h1.trans k1) k3 k2 k4
   |pan d=>exact k3.elim
  |panicked ch =>
   cases r with
   |ret d=>exact k3.elim
   |pan d =>
    obtain ⟨v,rfl,hv⟩:=k3
    exact hx C2 d S2 v w'' (h1.trans k1) hv k2 k4
  |outgrown=>cases r<;>exact k3.elim
 ·rename_i v w' hr
  obtain ⟨C',d,S',h1,h2,h3,h4⟩:=h
  rw[hr];exact hx C' d S' v w' h1 h2 h3 h4
 ·exact h.elim
theorem Bak{ops : List Oper}{o : Oper}{run skip : Env -> Prop}(he : RepEnv C env a.tmps)(h : E1 ops o env run skip) :
  (Region.wanted o (yielded ops.toArray a.tmps)=true/\∃env',RepEnv C env' a.tmps/\run env')\/(Region.wanted o (yielded ops.toArray a.tmps)=false/\∃env',RepEnv C env' a.tmps/\skip env'):=by
 unfold E1 at h
 unfold Region.wanted
 split at h
 ·rename_i hg;rw[hg];exact .inl ⟨rfl,env,he,h⟩
 ·rename_i j want hg
  rw[hg]
  split at h
  ·rename_i oj hj
   split at h
   ·rename_i d hd
    have hy:∀b,a.tmps[d]? =some (.bool b)->yielded ops.toArray a.tmps j=some b:=fun b hb=>by
     simp[yielded,hj,hd,hb]
    have hn:∀vs,a.tmps[d]? =some (.tuple vs)->yielded ops.toArray a.tmps j=none:=fun b hb=>by
     simp[yielded,hj,hd,hb]
    have hnn:a.tmps[d]? =none->yielded ops.toArray a.tmps j=none:=fun hb=>by
     simp[yielded,hj,hd,hb]
    have hr:=he d
    split at h
    ·rename_i b hl
     have h:(b=want->run ((d,.bool want)::env))/\(b=!want->skip ((d,.bool (!want))::env)):=by
      cases want<;>simp only at h<;>have h:=C7 h<;>exact⟨by simpa using (by first | exact h.1 | exact h.2),by simpa using (by first | exact h.1 | exact h.2)⟩
     rw[hl] at hr
     simp only[Rep] at hr
     have ht:a.tmps[d]? =some (.bool b):=by
      cases hq:a.tmps[d]? with
      |none=>simp[Array.getD_eq_getD_getElem?,hq,undef] at hr
      |some v=>simp[Array.getD_eq_getD_getElem?,hq] at hr;rw[hr]
     have hy:=hy b ht
     by_cases hb:b=want
     ·refine .inl ⟨by simp[hy,hb],_,?_,h.1 hb⟩
      intro t
      simp only[look]
      split
      ·rename_i e;subst e;simp only[Rep];rw[hr,hb]
      ·exact he t
     ·have hb':b=!want:=by cases b<;>cases want<;>simp_all
      refine .inr ⟨by simp[hy,hb'],_,?_,h.2 hb'⟩
      intro t
      simp only[look]
      split
      ·rename_i e;subst e;simp only[Rep];rw[hr,hb']
      ·exact he t
    ·rename_i hl
     rw[hl] at hr
     simp only[Rep,RepL] at hr
     obtain ⟨vs,hr,_⟩:=hr
     refine .inr ⟨?_,env,he,h⟩
     have:yielded ops.toArray a.tmps j=none:=by
      cases hq:a.tmps[d]? with
      |none=>exact hnn hq
      |some v=>simp[Array.getD_eq_getD_getElem?,hq] at hr;exact hn vs (by rw[hq,hr])
     simp[this]
    ·exact h.elim
   ·exact h.elim
  ·exact h.elim
theorem GH{ops : List Oper}{dfs : List Deferred}{Q : APostT}(hT : EnvOk E)(hok : ops.all (fun o=>En E.n o.dst)=true) :
  ∀(l:List Nat) (C0 C:Ctx) (F:St) (env:Env) (S:St) (a:Act) (w:World),C0.le C->RepEnv C env a.tmps->a.tmps.size=E.n->a.defers=dfs->Sat C (S.add F) w->EL E ops Q l env S ->
   wpOps E.P ops.toArray (APost C0 F E.n dfs Q) l a w
 | [],C0,C,F,env,S,a,w,h0,h1,h2,h3,h4,h=>⟨C,.normal,env,S,h0,h1,h2,h3,h4,trivial,h⟩
 |i::rest,C0,C,F,env,S,a,w,h0,h1,h2,h3,h4,h=>by
  simp only[EL] at h
  simp only[wpOps]
  cases ho:ops[i]? with
  |none =>
   rw[ho] at h
   have:(ops.toArray)[i]? =none:=by simpa using ho
   rw[this]
   exact GH hT hok rest C0 C F env S a w h0 h1 h2 h3 h4 h
  |some o =>
   rw[ho] at h
   have:(ops.toArray)[i]? =some o:=by simpa using ho
   rw[this]
   have hdst:En a.tmps.size o.dst=true:=by
    rw[h2];exact List.all_eq_true.1 hok o (List.mem_of_getElem? ho)
   simp only at h ⊢
   rcases Bak (a:=a) h1 h with ⟨hw,env',he,hr⟩ | ⟨hw,env',he,hr⟩
   ·rw[hw]
    simp only[if_true]
    refine .inl (UQ (M0 hT he h4 o hr) ?_ ?_)
    ·intro C' d S' v w' k1 k2 k3 k4
     refine GH hT hok rest C0 C' F _ S' _ w' (h0.trans k1) ((he.mono k1).putD hdst k2) (by rw[GS,h2]) (by rw[Ef,h3]) k3 k4
    ·intro C' d S' v w' k1 k2 k3 k4
     exact⟨C',.panic d,env',S',h0.trans k1,he.mono k1,h2,h3,k3,⟨v,rfl,k2⟩,k4⟩
   ·rw[hw]
    simp only[Bool.false_eq_true,if_false]
    exact GH hT hok rest C0 C F _ S _ w h0 (he.putD hdst (GG C)) (by rw[GS,h2]) (by rw[Ef,h3]) h4 hr
end
def GQ(ops:List Oper):List Nat:=ops.filterMap (·.dst)
def Same(l:List Nat)(a a':Act):Prop:=∀t,l.contains t=false->a'.tmps.getD t undef=a.tmps.getD t undef
theorem Same.refl(l:List Nat)(a:Act):Same l a a:=fun _ _=>rfl
theorem Same.trans{l:List Nat}{a b c:Act}(h:Same l a b)(k:Same l b c):Same l a c:=fun t ht=>(k t ht).trans (h t ht)
theorem IJ{l:List Nat}{a:Act}{d:Option Nat}{v:Value}(h:∀t,d=some t->l.contains t=true):Same l a (a.put d v):=by
 intro t ht
 cases d with
 |none=>rfl
 |some s =>
  have hs:=h s rfl
  have hne:s≠t:=fun e=>by subst e;rw[hs] at ht;cases ht
  simp[Act.put,Array.getD_eq_getD_getElem?,hne]
theorem Bfs{l:List Nat}{a:Act}{ds:List Deferred}:Same l a { a with defers:=ds }:=fun _ _=>rfl
variable {P:Program} {ops:Array Oper} {Q:Exit->Act->World->Prop} {l:List Nat} {a0:Act}
def Ban(l:List Nat)(a0:Act)(Q:Exit->Act->World->Prop):Exit->Act->World->Prop:=fun e a w=>Q e a w/\(e=.normal->Same l a0 a)
theorem Bc1(h:LetsOut Q):LetsOut (Ban l a0 Q):=let ⟨a,w,h⟩:=h;⟨a,w,h,fun e=>nomatch e⟩
theorem Bib{o : Oper}{a : Act}{w : World}{K K' : Act -> World -> Prop}(hd : ∀t, o.dst=some t -> l.contains t=true)(h : ∀a' w', Same l a a' -> K a' w' -> K' a' w')
  (hh:o.wp P a w K Q):o.wp P a w K' (Ban l a0 Q):=by
 unfold Oper.wp at *
 generalize (execOp a.eval o).run P w=r at *
 cases r with
 |ok n w' =>
  cases n<;>simp only[Oper.upon] at hh ⊢
  case value=>exact h _ _ (IJ hd) hh
  case skip=>exact h _ _ (IJ hd) hh
  case defer=>exact h _ _ (Same.trans Bfs (IJ hd)) hh
  case enter=>exact Calls.mono hh (fun e w'' he=>by
   cases e with
   |returned v=>exact h _ _ (IJ hd) he
   |panicked c=>exact⟨he,fun e=>nomatch e⟩
   |outgrown=>exact Bc1 he)
  case row=>exact Rows.mono hh (fun _ _ he=>h _ _ (IJ hd) he)
  all_goals exact hh.elim
 |halt x w'=>cases x<;>simp only[Oper.upon] at hh ⊢<;>first | exact⟨hh,fun e=>nomatch e⟩ | exact hh.elim
theorem Bf1{i : Nat}{a : Act}{w : World}{K K' : Act -> World -> Prop}(hd : ∀(i : Nat) o, ops[i]? =some o -> ∀t, o.dst=some t -> l.contains t=true)(h : ∀a' w', Same l a a' -> K a' w' -> K' a' w')
  (hh:wpOp P ops Q i K a w):wpOp P ops (Ban l a0 Q) i K' a w:=by
 unfold wpOp at *
 split
 ·exact h _ _ (.refl _ _) (by simpa[*] using hh)
 ·rename_i o ho
  simp only[ho] at hh
  split
  ·rename_i hw;simp only[hw,if_true] at hh;exact hh.imp (Bib (hd i o ho) h) fun x=>⟨x.1,Bc1 x.2⟩
  ·rename_i hw;simp only[hw] at hh;exact h _ _ (IJ (hd i o ho)) hh
theorem BcS(hd:∀(i:Nat) o,ops[i]? =some o->∀t,o.dst=some t->l.contains t=true):∀(is:List Nat) (a:Act) (w:World),Same l a0 a->wpOps P ops Q is a w->wpOps P ops (Ban l a0 Q) is a w
 | [],_,_,hs,h=>⟨h,fun _=>hs⟩
 |i::is,a,w,hs,h=>by
  rw[wpOps_cons] at h ⊢
  exact Bf1 hd (fun a' w' s k=>BcS hd is a' w' (hs.trans s) k) h
theorem Bch{md:Region.Mode}(hd:∀(i:Nat) o,ops[i]? =some o->∀t,o.dst=some t->l.contains t=true):∀(fuel:Nat) (listed:Array Bool) (a:Act) (w:World),Same l a0 a->wpAny P md ops Q fuel listed a w->wpAny P md ops (Ban l a0 Q) fuel listed a w
 |0,_,_,_,hs,h=>⟨h.1,h.2,fun _=>hs⟩
 |fuel+1,_,_,_,hs,h=>⟨fun e=>⟨h.1 e,fun _=>hs⟩,fun i hi=>Bf1 hd (fun a' w' s k=>Bch hd fuel _ a' w' (hs.trans s) k) (h.2 i hi)⟩
theorem BgF(ops:List Oper):∀(i:Nat) o,ops.toArray[i]? =some o->∀t,o.dst=some t->(GQ ops).contains t=true:=by
 intro i o ho t ht
 have:o∈ops:=List.mem_of_getElem? (by simpa using ho)
 simp only[List.contains_eq_mem,decide_eq_true_eq,GQ,List.mem_filterMap]
 exact⟨o,this,ht⟩
def AWpK(P:Program)(n:Nat)(dfs:List Deferred)(l:List Nat)(c:Code)(Q:APostT)(env:Env)(S:St):Prop :=
 ∀(C:Ctx) (F:St) (a:Act) (w:World),RepEnv C env a.tmps->a.tmps.size=n->a.defers=dfs->Sat C (S.add F) w->c.wp P (Ban l a (APost C F n dfs Q)) a w
theorem AWpK.awp{n:Nat}{dfs:List Deferred}{c:Code}{Q:APostT}{env:Env}{S:St}(h:AWpK P n dfs l c Q env S):AWp P n dfs c Q env S :=
 fun C F a w h1 h2 h3 h4=>wp_mono (h C F a w h1 h2 h3 h4) fun _ _ _ x=>x.1
def OJ(acc:List Nat)(o:Oper):Nat:=o.after.toList.foldl (fun s e=>if Region.binds .any e then s ||| 2 ^ e.on ||| acc.getD e.on 0 else s) 0
def G1:List Oper->List Nat->List Nat
 | [],acc=>acc
 |o::r,acc=>G1 r (acc++[OJ acc o])
def Ce(an:List Nat)(i k:Nat):Bool:=(an.getD i 0).testBit k
theorem Uv(acc : List Nat)(k : Nat) : ∀(l : List Edge) (s : Nat), (l.foldl (fun s e=>if Region.binds .any e then s ||| 2 ^ e.on ||| acc.getD e.on 0 else s) s).testBit k=true ->
  s.testBit k=true\/∃e,e∈l/\Region.binds .any e=true/\(e.on=k\/Ce acc e.on k=true)
 | [],s,h=>.inl h
 |e::l,s,h=>by
  simp only[List.foldl_cons] at h
  rcases Uv acc k l _ h with h | ⟨e',h1,h2,h3⟩
  ·split at h
   ·rename_i hb
    simp only[Nat.testBit_or,Bool.or_eq_true] at h
    rcases h with (h | h) | h
    ·exact .inl h
    ·have:e.on=k:=by
      rw[Nat.testBit_two_pow] at h
      simpa using h
     exact .inr ⟨e,by simp,hb,.inl this⟩
    ·exact .inr ⟨e,by simp,hb,.inr h⟩
   ·exact .inl h
  ·exact .inr ⟨e',by simp[h1],h2,h3⟩
theorem Wc:∀(l:List Oper) (acc:List Nat) (j:Nat),j<acc.length->(G1 l acc)[j]? =acc[j]?
 | [],_,_,_=>rfl
 |o::r,acc,j,h=>by
  simp only[G1]
  rw[Wc r _ j (by simp;omega),List.getElem?_append_left h]
theorem BfW : ∀(l : List Oper) (acc : List Nat) (i : Nat) (o : Oper), l[i]? =some o ->
  ∃acc',acc'.length=acc.length+i/\(∀j,j<acc.length+i->(G1 l acc)[j]? =acc'[j]?)/\(G1 l acc)[acc.length+i]? =some (OJ acc' o)
 | [],_,i,o,h=>by simp at h
 |p::r,acc,0,o,h=>by
  simp at h;subst h
  refine⟨acc,rfl,fun j hj=>?_,?_⟩
  ·exact Wc (p::r) acc j hj
  ·simp only[G1,Nat.add_zero]
   rw[Wc r _ _ (by simp)]
   simp
 |p::r,acc,i+1,o,h=>by
  obtain ⟨acc',h1,h2,h3⟩:=BfW r (acc++[OJ acc p]) i o (by simpa using h)
  have hl:(acc++[OJ acc p]).length+i=acc.length+(i+1):=by simp;omega
  rw[hl] at h1 h2 h3
  exact⟨acc',h1,h2,h3⟩
theorem Blh{ops : List Oper}(hlt : ∀i o, ops[i]? =some o -> ∀e, e∈o.after.toList -> Region.binds .any e=true -> e.on<i){i k : Nat}(h : Ce (G1 ops []) i k=true) :
  ∃o e,ops[i]? =some o/\e∈o.after.toList/\Region.binds .any e=true/\(e.on=k\/Ce (G1 ops []) e.on k=true):=by
 unfold Ce at h
 cases ho:ops[i]? with
 |none =>
  have:(G1 ops []).length=ops.length:=by
   have key:∀(l:List Oper) (acc:List Nat),(G1 l acc).length=acc.length+l.length:=by
    intro l
    induction l with
    |nil=>intro acc;simp[G1]
    |cons p r ih=>intro acc;simp only[G1,ih];simp;omega
   simpa using key ops []
  have hn:(G1 ops [])[i]? =none:=by
   rw[List.getElem?_eq_none_iff] at ho ⊢; omega
  rw[List.getD_eq_getElem?_getD,hn] at h
  simp at h
 |some o =>
  obtain ⟨acc',h1,h2,h3⟩:=BfW ops [] i o ho
  simp only[List.length_nil,Nat.zero_add] at h1 h2 h3
  rw[List.getD_eq_getElem?_getD,h3] at h
  simp only[Option.getD_some,OJ] at h
  rcases Uv acc' k _ 0 h with h | ⟨e,e1,e2,e3⟩
  ·simp at h
  ·refine⟨o,e,rfl,e1,e2,e3.imp id fun h=>?_⟩
   have:=hlt i o ho e e1 e2
   unfold Ce at h ⊢
   rwa [List.getD_eq_getElem?_getD,h2 e.on this,<- List.getD_eq_getElem?_getD]
def Closed(ops:List Oper)(L:Nat->Bool):Prop:=∀i o,ops[i]? =some o->L i=true->∀e,e∈o.after.toList->Region.binds .any e=true->L e.on=true
theorem Closed.anc{ops : List Oper}{L : Nat -> Bool}(hc : Closed ops L)(hlt : ∀i o, ops[i]? =some o -> ∀e, e∈o.after.toList -> Region.binds .any e=true -> e.on<i) :
  ∀(n i k:Nat),i<n->Ce (G1 ops []) i k=true->(∀o,ops[i]? =some o->∀e,e∈o.after.toList->Region.binds .any e=true->L e.on=true)->L k=true
 |0,_,_,h,_,_=>by omega
 |n+1,i,k,hi,h,hp=>by
  obtain ⟨o,e,ho,h1,h2,h3⟩:=Blh hlt h
  have hL:=hp o ho e h1 h2
  rcases h3 with rfl | h3
  ·exact hL
  ·have:=hlt i o ho e h1 h2
   exact Closed.anc hc hlt n e.on k (by omega) h3 fun o' ho'=>hc e.on o' ho' hL
def Wj:Op->Bool
 |.move _ | .assign _ | .pick _ _ _ | .build _ _ | .load _ _ | .nilCheck _ | .binOp _ _ _ _ _ | .unOp _ _ _ | .makeInterface _ _ | .makeFunc _ _ _ | .slice _ _ _ _ none
 |.fieldAddr _ _ _ | .field _ _ _ | .indexAddr _ _ _ | .index _ _ _ | .extract _ _=>true
 |.call c=>match c.callee with
  |.builtin .len=>true
  |.builtin .min=>true
  |.builtin .max=>true
  |_=>false
 |_=>false
def steady(E:Senv)(op:Op)(env:Env):Bool:=match op with
 |.binOp op t x y _=>(Wy E.tt op t (evD env x) (evD env y)).isNone
 |_=>true
theorem BhU{op:BinOp}{k k':IntKind}{a b:Int}{K:D->Prop}(h:Bac op k a k' b K):∃d,K d/\∀J:D->Prop,J d->Bac op k a k' b J:=by
 cases op<;>simp only[Bac,Ba,Bc] at h ⊢
 case shl=>exact⟨_,h.2,fun J j=>⟨h.1,j⟩⟩
 case shr=>exact⟨_,h.2,fun J j=>⟨h.1,j⟩⟩
 case quo=>exact⟨_,h.2.2,fun J j=>⟨h.1,h.2.1,j⟩⟩
 case rem=>exact⟨_,h.2.2,fun J j=>⟨h.1,h.2.1,j⟩⟩
 all_goals exact⟨_,h.2,fun J j=>⟨h.1,j⟩⟩
theorem Bis{op:BinOp}{a b:List UInt8}{K:D->Prop}(h:BaA op a b K):∃d,K d/\∀J:D->Prop,J d->BaA op a b J:=by
 cases op<;>simp only[BaA,Bc] at h ⊢
 case add=>exact⟨_,h.2,fun J j=>⟨h.1,j⟩⟩
 all_goals first
  |exact h.elim
  |exact⟨_,h,fun J j=>j⟩
theorem Bhs{tt : Nat -> Option TI}{op : BinOp}{t : Nat}{x y : Operand}{a b : D}{S : St}{K : D -> St -> Prop}(h : Oa tt op t x y a b S K) :
  ∃d,K d S/\∀(S':St) (J:D->St->Prop),J d S'->Oa tt op t x y a b S' J:=by
 unfold Oa at h
 split at h
 ·split at h
  ·obtain ⟨d,h1,h2⟩:=BhU h
   exact⟨d,h1,fun S' J j=>by simp only[Oa];exact h2 (fun d=>J d S') j⟩
  ·exact h.elim
 ·split at h
  ·obtain ⟨d,h1,h2⟩:=Bis h
   exact⟨d,h1,fun S' J j=>by simp only[Oa];exact h2 (fun d=>J d S') j⟩
  ·exact h.elim
 ·rename_i hni hns
  split at h
  ·rename_i ti ht
   split at h
   ·split at h
    ·rename_i r hr
     have h:=Ba.1 h
     refine⟨.bool r,h.2,fun S' J j=>?_⟩
     unfold Oa
     split
     ·exact (hni _ _ rfl).elim
     ·exact (hns _ rfl).elim
     ·simp only[ht,hr];exact Ba.2 ⟨h.1,j⟩
    ·exact h.elim
   ·split at h
    ·rename_i r hr
     have h:=Ba.1 h
     refine⟨.bool !r,h.2,fun S' J j=>?_⟩
     unfold Oa
     split
     ·exact (hni _ _ rfl).elim
     ·exact (hns _ rfl).elim
     ·simp only[ht,hr];exact Ba.2 ⟨h.1,j⟩
    ·exact h.elim
   ·exact h.elim
  ·exact h.elim
def Gq(op:Op)(env:Env):Bool :=
 match op with
 |.load _ a=>match evD env a with
  |.ref _ _ _=>true
  |.er _ _ _ _ _=>true
  |_=>false
 |.call c=>match c.args.toList.map (evD env) with
  | [.map _ _]=>true
  |_=>false
 |_=>false
def Has(V:St->(D->St->Prop)->Prop)(rd:Bool)(S:St)(K:D->St->Prop):Prop :=
 ∃d,K d S/\(∀J:D->St->Prop,J d S->V S J)/\(rd=false->∀(S':St) (J:D->St->Prop),J d S'->V S' J)
theorem Has.of{V:St->(D->St->Prop)->Prop}{rd:Bool}{S:St}{K:D->St->Prop}{d:D}(h:K d S)(h2:∀(S':St) (J:D->St->Prop),J d S'->V S' J):Has V rd S K :=
 ⟨d,h,h2 S,fun _=>h2⟩
theorem Rk{E : Senv}{op : Op}{env : Env}{S : St}{K X : D -> St -> Prop}(hp : Wj op=true)(hst : steady E op env=true)(h : Gs E op env S K X) :
  Has (fun S K=>∀X,Gs E op env S K X) (Gq op env) S K:=by
 cases op<;>simp only[Wj,Bool.false_eq_true] at hp<;>simp only[Gs] at h ⊢
 case move x=>exact .of h fun _ _ j _=>j
 case assign x=>exact .of h fun _ _ j _=>j
 case pick c x y =>
  split at h
  ·rename_i t ht
   try simp only[ht]
   split at h
   ·rename_i p q h1 h2
    try simp only[h1,h2]
    exact .of h fun _ _ j _=>j
   ·rename_i hno
    cases t
    ·exact .of (d:=evD env y) h fun S' J j _=>j
    ·exact .of (d:=evD env x) h fun S' J j _=>j
  ·exact h.elim
 case build t ps =>
  split at h
  ·rename_i ti ht
   try simp only[ht]
   unfold UK at h ⊢
   split at h
   ·rename_i fs hd
    have h:=Ba.1 h
    obtain ⟨hc,h⟩:=h
    split at h
    ·rename_i cs hf
     refine .of (Ct.1 h) fun S' J j _=>?_
     try simp only[hd,hf]
     exact Ba.2 ⟨hc,Ct.2 j⟩
    ·exact h.elim
   ·rename_i n e hd
    split at h
    ·rename_i ei he
     split at h
     ·rename_i cs hf
      refine .of (Ct.1 h) fun S' J j _=>?_
      try simp only[hd,he,hf]
      exact Ct.2 j
     ·exact h.elim
    ·exact h.elim
   ·exact h.elim
  ·exact h.elim
 case load t x =>
  split at h
  ·rename_i ti ht
   simp only[Gq]
   unfold Ba8 at h ⊢
   simp only[Bc] at h ⊢
   split at h
   ·rename_i k b o hx
    split at h
    ·rename_i y ds hg
     obtain ⟨h1,h2,h3⟩:=h
     refine⟨_,h3,fun J j _=>?_,fun hr=>by rw[hx] at hr;cases hr⟩
     simp only[hg];exact⟨h1,h2,j⟩
    ·rename_i y T E0 d hg
     obtain ⟨h0,h1,h3⟩:=Ba.1 h
     refine⟨_,h3,fun J j _=>?_,fun hr=>by rw[hx] at hr;cases hr⟩
     simp only[hg];exact Ba.2 ⟨h0,h1,j⟩
    ·rename_i y T E0 d ds hg
     obtain ⟨h1,h2,h3⟩:=h
     refine⟨_,h3,fun J j _=>?_,fun hr=>by rw[hx] at hr;cases hr⟩
     simp only[hg];exact⟨h1,h2,j⟩
    ·exact h.elim
   ·rename_i row hx
    refine .of h.2 fun S' J j _=>⟨h.1,j⟩
   ·rename_i k b i wd fo hx
    split at h
    ·rename_i y w' n c f hg
     obtain ⟨h0,h1,h2,h3⟩:=Ba.1 h
     refine⟨_,h3,fun J j _=>?_,fun hr=>by rw[hx] at hr;cases hr⟩
     simp only[hg];exact Ba.2 ⟨h0,h1,h2,j⟩
    ·exact h.elim
   ·exact h.elim
  ·exact h.elim
 case nilCheck x =>
  split at h
  ·rename_i k b o hx;(try simp only[hx]);exact .of h fun _ _ j _=>j
  ·rename_i k b i w o hx;(try simp only[hx]);exact .of h fun _ _ j _=>j
  ·rename_i r hx;(try simp only[hx]);exact .of h fun _ _ j _=>j
  ·rename_i k f c hx;(try simp only[hx]);exact .of h fun _ _ j _=>j
  ·exact h.elim
 case binOp op t x y yt =>
  simp only[steady,Option.isNone_iff_eq_none] at hst
  simp only[hst] at h ⊢
  unfold Bel at h ⊢
  split at h
  ·rename_i r hr
   (try simp only[hr])
   exact .of h fun _ _ j _=>j
  ·rename_i hr
   (try simp only[hr])
   obtain ⟨d,h1,h2⟩:=Bhs h
   exact .of h1 fun S' J j _=>h2 S' J j
 case unOp op t x =>
  unfold Bnw at h ⊢
  split at h
  ·rename_i b hx;(try simp only[hx]);exact .of h fun _ _ j _=>j
  ·rename_i k n hx;(try simp only[hx]);exact .of h fun _ _ j _=>j
  ·rename_i k n hx;(try simp only[hx]);exact .of h fun _ _ j _=>j
  ·exact h.elim
 case makeInterface t x =>
  split at h
  ·rename_i ti ht
   have h:=Ba.1 h
   try simp only[ht]
   exact .of h.2 fun _ _ j _=>Ba.2 ⟨h.1,j⟩
  ·exact h.elim
 case makeFunc f x c=>exact .of h fun _ _ j _=>j
 case slice t x lo hi mx =>
  cases mx with
  |some _=>cases hp
  |none =>
  simp only at h ⊢
  ·split at h
   ·rename_i ti ht
    try simp only[ht]
    split at h
    ·rename_i hd
     try simp only[hd]
     unfold IY at h ⊢
     simp only[Bc,and_assoc] at h ⊢
     split at h
     ·rename_i s hx
      try simp only[hx]
      split at h
      ·rename_i l r e1 e2
       try simp only[e1,e2]
       obtain ⟨a1,a2,a3,a4⟩:=h
       exact .of a4 fun _ _ j _=>⟨a1,a2,a3,j⟩
      ·exact h.elim
     ·exact h.elim
    ·rename_i e hd
     try simp only[hd]
     split at h
     ·rename_i ei he
      try simp only[he]
      unfold MM at h ⊢
      simp only[Bc,and_assoc] at h ⊢
      split at h
      ·rename_i wd n f m hx
       try simp only[hx]
       split at h
       ·rename_i l r e1 e2
        try simp only[e1,e2]
        obtain ⟨a0,a1,a2,a3,a4⟩:=Ba.1 h
        exact .of a4 fun _ _ j _=>Ba.2 ⟨a0,a1,a2,a3,j⟩
       ·exact h.elim
      ·rename_i k b o len cap wd hx
       try simp only[hx]
       split at h
       ·rename_i l r e1 e2
        try simp only[e1,e2]
        obtain ⟨a0,a1,a2,a3,a4,a5⟩:=Ba.1 h
        exact .of a5 fun _ _ j _=>Ba.2 ⟨a0,a1,a2,a3,a4,j⟩
       ·exact h.elim
      ·rename_i k b len cap wd hx
       try simp only[hx]
       split at h
       ·rename_i l e1 e2
        try simp only[e1,e2]
        obtain ⟨a0,a1,a2,a3,a4⟩:=Ba.1 h
        exact .of a4 fun _ _ j _=>Ba.2 ⟨a0,a1,a2,a3,j⟩
       ·rename_i lo' hi' hn
        split at h
        ·rename_i l r e1 e2
         try simp only[e1,e2]
         obtain ⟨a0,a1,a2,a3⟩:=Ba.1 h
         exact .of a3 fun _ _ j _=>Ba.2 ⟨a0,a1,a2,j⟩
        ·exact h.elim
      ·exact h.elim
     ·exact h.elim
    ·rename_i n e hd
     try simp only[hd]
     split at h
     ·rename_i ei he
      try simp only[he]
      unfold IU at h ⊢
      simp only[Bc,and_assoc] at h ⊢
      split at h
      ·rename_i k b o hx
       try simp only[hx]
       split at h
       ·rename_i l r e1 e2
        try simp only[e1,e2]
        obtain ⟨a0,a1,a2,a3,a4,a5⟩:=h
        exact .of a5 fun _ _ j _=>⟨a0,a1,a2,a3,a4,j⟩
       ·exact h.elim
      ·exact h.elim
     ·exact h.elim
    ·exact h.elim
   ·exact h.elim
 case fieldAddr t x f =>
  split at h
  ·rename_i ti ht
   try simp only[ht]
   split at h
   ·rename_i fd hf
    try simp only[hf]
    split at h
    ·rename_i fi hfi
     try simp only[hfi]
     obtain ⟨hc,h⟩:=Ba.1 h
     unfold G8 at h ⊢
     split at h
     ·rename_i k b o hx;(try simp only[hx]);exact .of h fun _ _ j _=>Ba.2 ⟨hc,j⟩
     ·rename_i row hx;(try simp only[hx]);exact .of h fun _ _ j _=>Ba.2 ⟨hc,j⟩
     ·rename_i k b i w o hx;(try simp only[hx]);exact .of h fun _ _ j _=>Ba.2 ⟨hc,j⟩
     ·exact h.elim
    ·exact h.elim
   ·exact h.elim
  ·exact h.elim
 case field t x f =>
  split at h
  ·rename_i ti ht
   try simp only[ht]
   split at h
   ·rename_i fd hf
    try simp only[hf]
    split at h
    ·rename_i fi hfi
     try simp only[hfi]
     unfold UM at h ⊢
     split at h
     ·rename_i cs hx
      try simp only[hx]
      have h:=Ba.1 h
      exact .of h.2 fun _ _ j _=>Ba.2 ⟨h.1,j⟩
     ·exact h.elim
    ·exact h.elim
   ·exact h.elim
  ·exact h.elim
 case indexAddr t x i =>
  split at h
  ·rename_i ti ht
   try simp only[ht]
   split at h
   ·rename_i e hd
    try simp only[hd]
    split at h
    ·rename_i ei he
     try simp only[he]
     unfold Ic at h ⊢
     simp only[Bc,and_assoc] at h ⊢
     split at h
     ·rename_i wd n f m k j hx hi
      try simp only[hx,hi]
      obtain ⟨a0,a1,a2,a3⟩:=Ba.1 h
      exact .of a3 fun _ _ j _=>Ba.2 ⟨a0,a1,a2,j⟩
     ·rename_i t b o len cap wd k j hx hi
      try simp only[hx,hi]
      obtain ⟨a0,a1,a2,a3⟩:=Ba.1 h
      exact .of a3 fun _ _ j _=>Ba.2 ⟨a0,a1,a2,j⟩
     ·rename_i t b len cap wd k j hx hi
      try simp only[hx,hi]
      obtain ⟨a0,a1,a2,a3⟩:=Ba.1 h
      exact .of a3 fun _ _ j _=>Ba.2 ⟨a0,a1,a2,j⟩
     ·exact h.elim
    ·exact h.elim
   ·rename_i n e hd
    try simp only[hd]
    split at h
    ·rename_i ei he
     try simp only[he]
     unfold IQ at h ⊢
     simp only[Bc,and_assoc] at h ⊢
     split at h
     ·rename_i t b o k j hx hi
      try simp only[hx,hi]
      obtain ⟨a1,a2,a3⟩:=h
      exact .of a3 fun _ _ j _=>⟨a1,a2,j⟩
     ·rename_i row k j hx hi
      try simp only[hx,hi]
      obtain ⟨a1,a2,a3⟩:=h
      exact .of a3 fun _ _ j _=>⟨a1,a2,j⟩
     ·exact h.elim
    ·exact h.elim
   ·exact h.elim
  ·exact h.elim
 case index t x i =>
  split at h
  ·rename_i ti ht
   try simp only[ht]
   split at h
   ·rename_i hd
    try simp only[hd]
    unfold IL at h ⊢
    simp only[Bc,and_assoc] at h ⊢
    split at h
    ·rename_i s k j hx hi
     try simp only[hx,hi]
     obtain ⟨a1,a2,a3⟩:=h
     exact .of a3 fun _ _ j _=>⟨a1,a2,j⟩
    ·exact h.elim
   ·rename_i n e hd
    try simp only[hd]
    split at h
    ·rename_i ei he
     try simp only[he]
     unfold IZ at h ⊢
     split at h
     ·rename_i cs k j hx hi
      try simp only[hx,hi]
      have h:=Ba.1 h
      simp only[Bc,and_assoc] at h
      obtain ⟨a0,a1,a2,a3⟩:=h
      exact .of a3 fun _ _ j _=>Ba.2 ⟨a0,by simp only[Bc,and_assoc];exact⟨a1,a2,j⟩⟩
     ·exact h.elim
    ·exact h.elim
   ·exact h.elim
  ·exact h.elim
 case extract x i =>
  unfold MJ at h ⊢
  split at h
  ·rename_i ds hx
   try simp only[hx]
   have h:=Ba.1 h
   exact .of h.2 fun _ _ j _=>Ba.2 ⟨h.1,j⟩
  ·exact h.elim
 case call c =>
  split at hp
  ·rename_i hc
   simp only[hc] at h
   simp only[Gq,hc]
   unfold GF at h ⊢
   simp only at h ⊢
   split at h
   ·rename_i t x h1 h2
    simp only[h2]
    split at h
    ·rename_i ti ht
     try simp only[ht]
     obtain ⟨hl,h⟩:=Ba.1 h
     unfold Bf8 at h ⊢
     split at h
     ·exact .of h fun _ _ j _=>Ba.2 ⟨hl,j⟩
     ·exact .of h fun _ _ j _=>Ba.2 ⟨hl,j⟩
     ·exact .of h fun _ _ j _=>Ba.2 ⟨hl,j⟩
     ·exact .of h fun _ _ j _=>Ba.2 ⟨hl,j⟩
     ·exact .of h fun _ _ j _=>Ba.2 ⟨hl,j⟩
     ·split at h
      ·rename_i y es hg
       exact⟨_,h.2,fun J j _=>Ba.2 ⟨hl,by simp only[hg];exact⟨h.1,j⟩⟩,fun hr=>by simp at hr⟩
      ·exact h.elim
     ·exact h.elim
    ·exact h.elim
   ·exact h.elim
  ·rename_i hc
   simp only[hc] at h
   simp only[hc]
   unfold GF at h ⊢
   simp only at h ⊢
   split at h
   ·rename_i d hd;(try simp only[hd]);exact .of h fun _ _ j _=>j
   ·exact h.elim
  ·rename_i hc
   simp only[hc] at h
   simp only[hc]
   unfold GF at h ⊢
   simp only at h ⊢
   split at h
   ·rename_i d hd;(try simp only[hd]);exact .of h fun _ _ j _=>j
   ·exact h.elim
  ·cases hp
abbrev Bw (ops:List Oper) (o:Oper):List Nat:=o.looksAt ops.toArray
def CB(l:List Nat)(env:Env):Env:=l.map fun t=>(t,look env t)
theorem IG(env:Env)(t:Nat):∀l,look (CB l env) t=if t∈l then look env t else .unk
 | []=>by simp[CB,look]
 |s::l=>by
  have ih:=IG env t l
  simp only[CB,List.map_cons,look,List.mem_cons] at ih ⊢
  by_cases e:s=t
  ·subst e;simp
  ·have e':¬t=s:=fun h=>e h.symm
   simp only[e,e',if_false,false_or];exact ih
structure Pend where
 i:Nat
 o:Oper
 e:Env
 run:Bool
 d:D
def Bkk(E:Senv):List Pend->St->Prop->Prop
 | [],_,X=>X
 |p::ps,S,X=>match p.run&&Gq p.o.op p.e with
  |true=>Gs E p.o.op p.e S (fun d _=>d=p.d) (fun _ _=>False)/\Bkk E ps S X
  |false=>Bkk E ps S X
def UX(an:List Nat)(rest:List Nat)(j:Nat):Bool:=rest.all fun k=>!Ce an j k
def O8(an:List Nat)(ch:Nat->Bool)(rest:List Nat):Option Nat:=rest.find? fun j=>!ch j&&UX an rest j
def Ble(f:Nat->Prop):List Nat->Prop
 | []=>True
 |j::l=>match l with
  | []=>f j
  |_=>f j/\Ble f l
theorem BcU{f:Nat->Prop}:∀ {l:List Nat},Ble f l->∀j,j∈l->f j
 | [],_,j,hj=>by cases hj
 | [i],h,j,hj=>by
  simp only[Ble] at h
  rw[List.mem_singleton] at hj;subst hj;exact h
 |i::k::l,h,j,hj=>by
  have h:f i/\Ble f (k::l):=h
  rcases List.mem_cons.1 hj with rfl | hj
  ·exact h.1
  ·exact BcU h.2 j hj
def Bpb(t t':Nat):D->D
 |.ref k x o=>match Nat.beq k t with
  |true=>.ref t' x o
  |false=>.ref k x o
 |.ms k x o l c w=>match Nat.beq k t with
  |true=>.ms t' x o l c w
  |false=>.ms k x o l c w
 |.vs k x l c w=>match Nat.beq k t with
  |true=>.vs t' x l c w
  |false=>.vs k x l c w
 |.er k x i w o=>match Nat.beq k t with
  |true=>.er t' x i w o
  |false=>.er k x i w o
 |.map k x=>match Nat.beq k t with
  |true=>.map t' x
  |false=>.map k x
 |d=>d
def reT(t':Nat)(S:St)(d:D)(S':St)(K:D->St->Prop):Prop :=
 match S'.objs with
 |(t,x,o)::r=>match Nat.beq r.length S.objs.length with
  |true=>K (Bpb t t' d) ⟨(t',x,o)::r,S'.toks⟩
  |false=>K d S'
 | []=>K d S'
theorem BjQ{t t':Nat}{C:Ctx}{d:D}{v:Value}(h:Rep C d v):Rep C (Bpb t t' d) v:=by
 unfold Bpb
 split
 ·split
  ·simpa[Rep] using h
  ·exact h
 ·split
  ·simpa[Rep] using h
  ·exact h
 ·split
  ·simpa[Rep] using h
  ·exact h
 ·split
  ·simpa[Rep] using h
  ·exact h
 ·split
  ·simpa[Rep] using h
  ·exact h
 ·exact h
theorem Sat.retag{C:Ctx}{t t' x:Nat}{o:AObj}{r:List (Nat×Nat×AObj)}{k:List (Nat×Nat)}{F:St}{w:World}(H:Sat C (St.add ⟨(t,x,o)::r,k⟩ F) w):Sat C (St.add ⟨(t',x,o)::r,k⟩ F) w:=by
 obtain ⟨h1,h2,h3,h4,h5,h6,h7,h8,h9⟩:=H
 have key:∀p,p∈(St.add ⟨(t',x,o)::r,k⟩ F).objs->∃q,q∈(St.add ⟨(t,x,o)::r,k⟩ F).objs/\q.2=p.2:=by
  intro p hp
  simp only[St.add,List.cons_append,List.mem_cons] at hp ⊢
  rcases hp with rfl | hp
  ·exact⟨_,.inl rfl,rfl⟩
  ·exact⟨p,.inr hp,rfl⟩
 refine⟨h1,h2,h3,fun p hp=>?_,by simpa[St.add] using h5,fun q hq=>?_,by simpa[St.add] using h7,h8,by simpa[St.add] using h9⟩
 ·obtain ⟨q,hq,e⟩:=key p hp
  rw[<- e];exact h4 q hq
 ·obtain ⟨y,e1,e2,e3⟩:=h6 q (by simpa[St.add] using hq)
  refine⟨y,e1,e2,fun p hp=>?_⟩
  obtain ⟨q',hq',e⟩:=key p hp
  rw[<- e];exact e3 q' hq'
theorem BiD{t':Nat}{S:St}{d:D}{S':St}{K:D->St->Prop}(h:reT t' S d S' K):∃d' S'',K d' S''/\(∀C v,Rep C d v->Rep C d' v)/\∀C F w,Sat C (S'.add F) w->Sat C (S''.add F) w:=by
 unfold reT at h
 split at h
 ·rename_i t x o r ho
  split at h
  ·refine⟨_,_,h,fun C v hv=>BjQ hv,fun C F w hs=>?_⟩
   have hs':Sat C (St.add ⟨(t,x,o)::r,S'.toks⟩ F) w:=by rw[<- ho];exact hs
   exact hs'.retag
  ·exact⟨d,S',h,fun _ _ h=>h,fun _ _ _ h=>h⟩
 ·exact⟨d,S',h,fun _ _ h=>h,fun _ _ _ h=>h⟩
def Bqb:Op->Bool
 |.call c=>match c.callee with
  |.value _=>true
  |_=>false
 |_=>false
def reC(b:Bool)(t':Nat)(S:St)(d:D)(S':St)(K:D->St->Prop):Prop:=match b with
 |true=>K d S'
 |false=>reT t' S d S' K
theorem Bkf{b:Bool}{t':Nat}{S:St}{d:D}{S':St}{K:D->St->Prop}(h:reC b t' S d S' K):∃d' S'',K d' S''/\(∀C v,Rep C d v->Rep C d' v)/\∀C F w,Sat C (S'.add F) w->Sat C (S''.add F) w:=by
 cases b with
 |true=>exact⟨d,S',h,fun _ _ h=>h,fun _ _ _ h=>h⟩
 |false=>exact BiD h
def C8(E:Senv)(ops:List Oper)(an:List Nat)(ch:Nat->Bool)(Q:APostT)(tb:Nat):Nat->List Nat->List Pend->Env->St->Prop
 |0,rest,_,env,S=>match rest with
  | []=>Q .normal env S
  |_=>False
 |fuel+1,rest,ps,env,S=>match O8 an ch rest with
  |some i=>match ops[i]? with
   |none=>False
   |some o=>chk (Wj o.op) (E1 ops o env
     (fun env=>chk (steady E o.op (CB (Bw ops o) env)) (Gs E o.op (CB (Bw ops o) env) S
      (fun d S'=>C8 E ops an ch Q tb fuel (rest.erase i) (⟨i,o,CB (Bw ops o) env,true,d⟩::ps) (putD env o.dst d) S')
      (fun _ _=>False)))
     (fun env=>C8 E ops an ch Q tb fuel (rest.erase i) (⟨i,o,CB (Bw ops o) env,false,.tup []⟩::ps) (putD env o.dst (.tup [])) S))
  |none=>match rest with
   | []=>Q .normal env S
   |_=>Ble (fun i=>match ops[i]? with
    |none=>False
    |some o=>E1 ops o env
     (fun env=>Gs E o.op (CB (Bw ops o) env) S
      (fun d S'=>reC (Bqb o.op) (tb+i) S d S' fun d S'=>Bkk E (ps.filter fun p=>!Ce an i p.i) S' (C8 E ops an ch Q tb fuel (rest.erase i) (ps.filter fun p=>!Ce an i p.i) (putD env o.dst d) S'))
      (fun d S'=>Q (.panic d) [] S'))
     (fun env=>C8 E ops an ch Q tb fuel (rest.erase i) (ps.filter fun p=>!Ce an i p.i) (putD env o.dst (.tup [])) S)) (rest.filter fun i=>ch i&&UX an rest i)
def Bgw(o:Oper)(l:List Nat):Bool:=match o.dst with
 |some d=>l.contains d
 |none=>false
def UY(x y:Oper):Bool:=match x.dst,y.dst with
 |some a,some b=>a==b
 |_,_=>false
def OH:Nat->List Oper->Bool
 |_,[]=>true
 |i,o::l=>o.after.toList.all (fun e=>!Region.binds .any e||decide (e.on<i))&&OH (i+1) l
def Bln(x y:Oper)(ops:List Oper):Bool:=!Bgw x (Bw ops y)&&!Bgw y (Bw ops x)
def BjZ(ops:List Oper)(an:List Nat)(i j:Nat):Bool :=
 match ops[i]?,ops[j]? with
 |some x,some y=>Nat.beq i j||Ce an j i||Ce an i j||Bln x y ops
 |_,_=>false
def Bfy(ops:List Oper):List Nat->Bool
 | []=>true
 |i::l=>(match ops[i]? with
  |some o=>l.all fun j=>match ops[j]? with
   |some o'=>!UY o o'
   |none=>false
  |none=>false)&&!l.contains i&&Bfy ops l
def BfR(ops:List Oper)(an:List Nat)(n:Nat):Bool :=
 (List.range ops.length).all (fun i=>(List.range ops.length).all fun j=>BjZ ops an i j)&&Bfy ops (List.range ops.length)&&ops.all (fun o=>En n o.dst)&&OH 0 ops
theorem BcT:∀ {l:List Oper} {k:Nat},OH k l=true->∀i o,l[i]? =some o->∀e,e∈o.after.toList->Region.binds .any e=true->e.on<k+i
 | [],_,_,i,o,ho=>by simp at ho
 |p::l,k,h,0,o,ho=>by
  simp only[OH,Bool.and_eq_true] at h
  simp at ho;subst ho
  intro e he hb
  have:=List.all_eq_true.1 h.1 e he
  simpa[hb] using this
 |p::l,k,h,i+1,o,ho=>by
  simp only[OH,Bool.and_eq_true] at h
  intro e he hb
  have:=BcT h.2 i o (by simpa using ho) e he hb
  omega
def GuardIs(ops:List Oper)(o:Oper)(env:Env)(run:Bool):Prop :=
 match o.guard with
 |none=>run=true
 |some (j,want)=>∃oj d,ops[j]? =some oj/\oj.dst=some d/\((∃b,look env d=.bool b/\run=(b==want))\/(look env d=.tup []/\run=false))
theorem Ra{ops : List Oper}{o : Oper}{env : Env}{run skip : Env -> Prop}(h : E1 ops o env run skip) :
  ∃env' r,(∀t,look env' t=look env t)/\GuardIs ops o env' r/\((r=true/\run env')\/(r=false/\skip env')):=by
 unfold E1 at h
 unfold GuardIs
 split at h
 ·rename_i hg;(try simp only[hg]);exact⟨env,true,fun _=>rfl,rfl,.inl ⟨rfl,h⟩⟩
 ·rename_i j want hg
  (try simp only[hg])
  split at h
  ·rename_i oj hj
   split at h
   ·rename_i d hd
    split at h
    ·rename_i b hl
     have hlk:∀t,look ((d,D.bool b)::env) t=look env t:=by
      intro t;simp only[look];split
      ·rename_i e;subst e;exact hl.symm
      ·rfl
     refine⟨(d,.bool b)::env,b==want,hlk,⟨oj,d,hj,hd,.inl ⟨b,by simp[look],rfl⟩⟩,?_⟩
     cases want<;>simp only at h<;>have h:=C7 h<;>cases b
     ·exact .inl ⟨rfl,h.2 rfl⟩
     ·exact .inr ⟨rfl,h.1 rfl⟩
     ·exact .inr ⟨rfl,h.2 rfl⟩
     ·exact .inl ⟨rfl,h.1 rfl⟩
    ·rename_i hl
     exact⟨env,false,fun _=>rfl,⟨oj,d,hj,hd,.inr ⟨hl,rfl⟩⟩,.inr ⟨rfl,h⟩⟩
    ·exact h.elim
   ·exact h.elim
  ·exact h.elim
theorem Uk{ops:List Oper}{o:Oper}{env:Env}{r:Bool}(h:GuardIs ops o env r):GuardIs ops o (CB (Bw ops o) env) r:=by
 unfold GuardIs at h ⊢
 split
 ·rename_i hg;simp only[hg] at h;exact h
 ·rename_i j want hg
  simp only[hg] at h
  obtain ⟨oj,d,h1,h2,h3⟩:=h
  have hm:d∈Bw ops o:=by
   unfold Bw Oper.looksAt
   rw[hg]
   simp[h1,h2]
  have:=IG env d (Bw ops o)
  rw[if_pos hm] at this
  exact⟨oj,d,h1,h2,by rw[this];exact h3⟩
theorem O7{ops:List Oper}{o:Oper}{env:Env}{r:Bool}{C:Ctx}{tmps:Array Value}(h:GuardIs ops o env r)(he:RepEnv C env tmps):Region.wanted o (yielded ops.toArray tmps)=r:=by
 unfold GuardIs at h
 unfold Region.wanted
 split
 ·rename_i hg;simp only[hg] at h;exact h.symm
 ·rename_i j want hg
  simp only[hg] at h
  obtain ⟨oj,d,h1,h2,h3⟩:=h
  have hr:=he d
  rcases h3 with ⟨b,hl,rfl⟩ | ⟨hl,rfl⟩
  ·rw[hl] at hr
   simp only[Rep] at hr
   have ht:tmps[d]? =some (.bool b):=by
    cases hq:tmps[d]? with
    |none=>simp[Array.getD_eq_getD_getElem?,hq,undef] at hr
    |some v=>simp[Array.getD_eq_getD_getElem?,hq] at hr;rw[hr]
   have:yielded ops.toArray tmps j=some b:=by simp[yielded,h1,h2,ht]
   rw[this]
   cases b<;>cases want<;>rfl
  ·rw[hl] at hr
   simp only[Rep,RepL] at hr
   obtain ⟨vs,hr,_⟩:=hr
   have:yielded ops.toArray tmps j=none:=by
    cases hq:tmps[d]? with
    |none=>simp[yielded,h1,h2,hq]
    |some v=>simp[Array.getD_eq_getD_getElem?,hq] at hr;simp[yielded,h1,h2,hq,hr]
   simp[this]
section
variable {E:Senv} {ops:List Oper} {an:List Nat} {ch:Nat->Bool} {Q:APostT}
structure PendOk (E:Senv) (ops:List Oper) (C:Ctx) (L:Nat->Bool) (tm:Nat->Value) (S:St) (p:Pend) (qs:List Pend):Prop where
 op:ops[p.i]? =some p.o
 pure:Wj p.o.op=true
 steady:p.run=true->steady E p.o.op p.e=true
 guard:GuardIs ops p.o p.e p.run
 val:p.run=true->Gs E p.o.op p.e S (fun d S'=>d=p.d/\S'=S) (fun _ _=>False)
 free:p.run=true->Gq p.o.op p.e=false->∀S',Gs E p.o.op p.e S' (fun d S''=>d=p.d/\S''=S') (fun _ _=>False)
 skip:p.run=false->p.d=.tup []
 out:∀t,t ∉ Bw ops p.o->look p.e t=.unk
 rep:∀t,(∀q,q∈qs->L q.i=false->q.o.dst≠some t)->Rep C (look p.e t) (tm t)
 old:∀q,q∈qs->L q.i=false->∀t,q.o.dst=some t->t∈Bw ops p.o->look p.e t=q.d
def AllPend(E:Senv)(ops:List Oper)(C:Ctx)(L:Nat->Bool)(tm:Nat->Value)(S:St):List Pend->Prop
 | []=>True
 |p::ps=>(L p.i=false->PendOk E ops C L tm S p ps)/\AllPend E ops C L tm S ps
structure Inv (E:Senv) (ops:List Oper) (an:List Nat) (ch:Nat->Bool) (Q:APostT) (tb n:Nat) (C:Ctx) (L:Nat->Bool) (tm:Nat->Value) (rest:List Nat) (ps:List Pend) (env:Env) (S:St):Prop where
 can:C8 E ops an ch Q tb n rest ps env S
 un:∀i,i∈rest->L i=false
 all:∀i,i<ops.length->L i=false->i∈rest\/∃p,p∈ps/\p.i=i
 rep:∀t,(∀q,q∈ps->L q.i=false->q.o.dst≠some t)->Rep C (look env t) (tm t)
 cur:∀q,q∈ps->L q.i=false->∀t,q.o.dst=some t->look env t=q.d
 ok:AllPend E ops C L tm S ps
 pp:(ps.map (·.i)).Pairwise fun j i=>Ce an i j=false
 pr:∀p,p∈ps->∀j,j∈rest->Ce an p.i j=false
 lt:∀i,i∈rest->i<ops.length
 nd:∀p,p∈ps->p.i ∉ rest
 ndp:(ps.map (·.i)).Nodup
 ndr:rest.Nodup
 op:∀p,p∈ps->ops[p.i]? =some p.o
 plt:∀p,p∈ps->p.i<ops.length
def Apart(ops:List Oper)(an:List Nat):Prop:=∀i j x y,i≠j->ops[i]? =some x->ops[j]? =some y->Ce an i j=false->Ce an j i=false->(∀t,x.dst=some t->t ∉ Bw ops y)/\(∀t,y.dst=some t->t ∉ Bw ops x)
theorem AllPend.mem{C:Ctx}{L:Nat->Bool}{tm:Nat->Value}{S:St}:∀ {ps:List Pend},AllPend E ops C L tm S ps->∀p,p∈ps->L p.i=false->∃pre qs,PendOk E ops C L tm S p qs/\ps=pre++p::qs
 | [],_,p,hp,_=>by cases hp
 |q::ps,h,p,hp,hl=>by
  rcases List.mem_cons.1 hp with rfl | hp
  ·exact⟨[],ps,h.1 hl,rfl⟩
  ·obtain ⟨pre,qs,h1,h2⟩:=AllPend.mem h.2 p hp hl
   exact⟨q::pre,qs,h1,by rw[h2];rfl⟩
theorem AllPend.imp{C C' : Ctx}{L L' : Nat -> Bool}{tm tm' : Nat -> Value}{S S' : St} : ∀ {ps : List Pend}, AllPend E ops C L tm S ps ->
  (∀pre p qs,ps=pre++p::qs->L' p.i=false->L p.i=false/\(PendOk E ops C L tm S p qs->PendOk E ops C' L' tm' S' p qs))->AllPend E ops C' L' tm' S' ps
 | [],_,_=>trivial
 |p::ps,h,k=>⟨fun hl=>let ⟨h1,h2⟩:=k [] p ps rfl hl;h2 (h.1 h1),AllPend.imp h.2 fun pre q qs hs=>k (p::pre) q qs (by rw[hs];rfl)⟩
theorem AllPend.filter{C:Ctx}{L:Nat->Bool}{tm:Nat->Value}{S:St}(f:Pend->Bool):∀ {ps:List Pend},(∀p,p∈ps->f p=false->L p.i=true)->AllPend E ops C L tm S ps->AllPend E ops C L tm S (ps.filter f)
 | [],_,_=>trivial
 |p::ps,hf,h=>by
  have ih:=AllPend.filter f (fun p hp=>hf p (by simp[hp])) h.2
  simp only[List.filter_cons]
  split
  ·refine⟨fun hl=>?_,ih⟩
   have H:=h.1 hl
   refine⟨H.op,H.pure,H.steady,H.guard,H.val,H.free,H.skip,H.out,fun t ht=>H.rep t fun q hq hql=>?_,fun q hq=>H.old q (List.mem_filter.1 hq).1⟩
   by_cases hfq:f q=true
   ·exact ht q (List.mem_filter.2 ⟨hq,hfq⟩) hql
   ·have:=hf q (by simp[hq]) (by simpa using hfq)
    rw[this] at hql;cases hql
  ·exact ih
theorem MN(env:Env)(dst:Option Nat)(d:D)(t:Nat):look (putD env dst d) t=if dst=some t then d else look env t:=by
 cases dst with
 |none=>simp[putD]
 |some s=>simp[putD,look]
theorem Bgm:∀ {l:List Nat},Bfy ops l=true->∀i j x y,i∈l->j∈l->i≠j->ops[i]? =some x->ops[j]? =some y->∀d,x.dst=some d->y.dst≠some d
 | [],_,i,_,_,_,h,_,_,_,_=>by cases h
 |k::l,h,i,j,x,y,hi,hj,hne,hx,hy=>by
  simp only[Bfy,Bool.and_eq_true] at h
  obtain ⟨⟨h1,_⟩,h3⟩:=h
  have key:∀(j:Nat) (o x y:Oper),ops[k]? =some o->j∈l->ops[j]? =some y->UY o y=false:=by
   intro j o x y ho hj hy
   rw[ho] at h1
   have:=List.all_eq_true.1 h1 j hj
   rw[hy] at this
   simpa using this
  rcases List.mem_cons.1 hi with rfl | hi1<;>rcases List.mem_cons.1 hj with rfl | hj1
  ·exact (hne rfl).elim
  ·have:=key j x x y hx hj1 hy
   intro d hd hd'
   simp[UY,hd,hd'] at this
  ·have:=key i y x x hy hi1 hx
   intro d hd hd'
   simp[UY,hd,hd'] at this
  ·exact Bgm h3 i j x y hi1 hj1 hne hx hy
theorem Closed.no{L : Nat -> Bool}(hc : Closed ops L)(hlt : ∀i o, ops[i]? =some o -> ∀e, e∈o.after.toList -> Region.binds .any e=true -> e.on<i){i k : Nat}(hr : ∀o, ops[i]? =some o -> ∀e, e∈o.after.toList -> Region.binds .any e=true -> L e.on=true)
  (hk:L k=false):Ce (G1 ops []) i k=false:=by
 cases h:Ce (G1 ops []) i k with
 |false=>rfl
 |true=>rw[Closed.anc hc hlt (i+1) i k (by omega) h hr] at hk;cases hk
theorem Ba3{tb : Nat}{C : Ctx}{L : Nat -> Bool}{tm : Nat -> Value}{S : St} : ∀(n : Nat) (rest : List Nat) (ps : List Pend) (env : Env), Inv E ops an ch Q tb n C L tm rest ps env S ->
  (hnew:∀i j x y,i<ops.length->j<ops.length->i≠j->ops[i]? =some x->ops[j]? =some y->∀d,x.dst=some d->y.dst≠some d) ->
  ∃n' rest' ps' env',Inv E ops an ch Q tb n' C L tm rest' ps' env' S/\O8 an ch rest'=none
 |0,rest,ps,env,H,_=>by
  refine⟨0,rest,ps,env,H,?_⟩
  have hcan:=H.can
  simp only[C8] at hcan
  split at hcan
  ·rfl
  ·exact hcan.elim
 |n+1,rest,ps,env,H,hnew=>by
  cases hpk:O8 an ch rest with
  |none=>exact⟨n+1,rest,ps,env,H,hpk⟩
  |some i =>
   have hcan:=H.can
   simp only[C8,hpk] at hcan
   have him:i∈rest:=List.mem_of_find?_eq_some hpk
   have hrd:=List.find?_some hpk
   simp only[Bool.and_eq_true,Bool.not_eq_true'] at hrd
   have hra:∀k,k∈rest->Ce an i k=false:=fun k hk=>by
    have:=List.all_eq_true.1 hrd.2 k hk
    simpa using this
   have hmem:∀j,j∈rest.erase i->j∈rest/\j≠i:=fun j hj=>⟨List.mem_of_mem_erase hj,fun e=>by
    subst e;exact (H.ndr.not_mem_erase) hj⟩
   split at hcan
   ·exact hcan.elim
   ·rename_i o ho
    obtain ⟨hp,hg⟩:=Ba.1 hcan
    obtain ⟨env',r,hl,hG,hcase⟩:=Ra hg
    have hG':=Uk hG
    have hlk:∀t,look (CB (Bw ops o) env') t=if t∈Bw ops o then look env t else .unk:=by
     intro t;rw[IG];split
     ·exact hl t
     ·rfl
    have mk : ∀(d : D), (r=true -> steady E o.op (CB (Bw ops o) env')=true) -> (r=true -> Gs E o.op (CB (Bw ops o) env') S (fun d' S'=>d'=d /\ S'=S) (fun _ _=>False)) ->
      (r=true->Gq o.op (CB (Bw ops o) env')=false->∀S',Gs E o.op (CB (Bw ops o) env') S' (fun d' S''=>d'=d/\S''=S') (fun _ _=>False)) ->
      (r=false->d=.tup [])->C8 E ops an ch Q tb n (rest.erase i) (⟨i,o,CB (Bw ops o) env',r,d⟩::ps) (putD env' o.dst d) S ->
      Inv E ops an ch Q tb n C L tm (rest.erase i) (⟨i,o,CB (Bw ops o) env',r,d⟩::ps) (putD env' o.dst d) S:=by
     intro d hsd hv hf hs hc
     have hiL:L i=false:=H.un i him
     have hilt:=H.lt i him
     refine⟨hc,fun j hj=>H.un j (hmem j hj).1,?_,?_,?_,⟨fun _=>⟨ho,hp,hsd,hG',hv,hf,hs,?_,?_,?_⟩,H.ok⟩,?_,?_,fun j hj=>H.lt j (hmem j hj).1,?_,?_,H.ndr.erase i,?_,?_⟩
     ·intro j hj hjl
      rcases H.all j hj hjl with h | ⟨p,h1,h2⟩
      ·by_cases e:j=i
       ·subst e;exact .inr ⟨_,List.mem_cons_self ..,rfl⟩
       ·exact .inl ((List.mem_erase_of_ne e).2 h)
      ·exact .inr ⟨p,List.mem_cons_of_mem _ h1,h2⟩
     ·intro t ht
      rw[MN,if_neg (ht _ (List.mem_cons_self ..) hiL),hl]
      exact H.rep t fun q hq=>ht q (List.mem_cons_of_mem _ hq)
     ·intro q hq hql t ht
      rw[MN]
      rcases List.mem_cons.1 hq with rfl | hq
      ·rw[if_pos ht]
      ·have hne:i≠q.i:=fun e=>H.nd q hq (by rw[<- e];exact him)
       have:o.dst≠some t:=hnew q.i i q.o o (H.plt q hq) hilt (Ne.symm hne) (H.op q hq) ho t ht
       rw[if_neg this,hl];exact H.cur q hq hql t ht
     ·intro t ht
      show look (CB (Bw ops o) env') t=.unk
      rw[hlk,if_neg ht]
     ·intro t ht
      show Rep C (look (CB (Bw ops o) env') t) (tm t)
      rw[hlk];split
      ·exact H.rep t fun q hq=>ht q hq
      ·simp[Rep]
     ·intro q hq hql t ht htr
      show look (CB (Bw ops o) env') t=q.d
      rw[hlk,if_pos htr];exact H.cur q hq hql t ht
     ·simp only[List.map_cons]
      exact List.pairwise_cons.2 ⟨fun j hj=>by
       obtain ⟨p,hp,rfl⟩:=List.mem_map.1 hj
       exact H.pr p hp i him,H.pp⟩
     ·intro p hp j hj
      rcases List.mem_cons.1 hp with rfl | hp
      ·exact hra j (hmem j hj).1
      ·exact H.pr p hp j (hmem j hj).1
     ·intro p hp
      rcases List.mem_cons.1 hp with rfl | hp
      ·exact fun h=>(hmem _ h).2 rfl
      ·exact fun h=>H.nd p hp (hmem _ h).1
     ·simp only[List.map_cons,List.nodup_cons]
      refine⟨fun h=>?_,H.ndp⟩
      obtain ⟨p,hp,e⟩:=List.mem_map.1 h
      exact H.nd p hp (by rw[e];exact him)
     ·intro p hp
      rcases List.mem_cons.1 hp with rfl | hp
      ·exact ho
      ·exact H.op p hp
     ·intro p hp
      rcases List.mem_cons.1 hp with rfl | hp
      ·exact hilt
      ·exact H.plt p hp
    rcases hcase with ⟨rfl,hrun⟩ | ⟨rfl,hskip⟩
    ·obtain ⟨hsd,hrun⟩:=Ba.1 hrun
     obtain ⟨d,hk,hv,hf⟩:=Rk hp hsd hrun
     exact Ba3 n _ _ _ (mk d (fun _=>hsd) (fun _=>hv (fun d' S'=>d'=d/\S'=S) ⟨rfl,rfl⟩ _) (fun _ hr S'=>hf hr S' (fun d' S''=>d'=d/\S''=S') ⟨rfl,rfl⟩ _) (fun h=>by cases h) hk) hnew
    ·exact Ba3 n _ _ _ (mk (.tup []) (fun h=>by cases h) (fun h=>by cases h) (fun h=>by cases h) (fun _=>rfl) hskip) hnew
end
section
variable {E:Senv} {ops:List Oper} {ch:Nat->Bool} {Q:APostT} {C0 C C':Ctx} {F S:St} {dfs:List Deferred}
def more(L:Nat->Bool)(i:Nat):Nat->Bool:=fun j=>(j==i)||L j
theorem CQ{L:Nat->Bool}{i j:Nat}(h:more L i j=false):j≠i/\L j=false:=by
 simpa[more] using h
def RU(a:Act):Nat->Value:=fun t=>a.tmps.getD t undef
theorem Bby{a:Act}{o:Oper}{v:Value}(hok:En a.tmps.size o.dst=true)(t:Nat):RU (a.put o.dst v) t=if o.dst=some t then v else RU a t:=by
 unfold RU
 cases h:o.dst with
 |none=>simp[Act.put]
 |some d =>
  have hlt:d<a.tmps.size:=by rw[h] at hok;simpa[En] using hok
  by_cases e:d=t
  ·subst e;simp[Act.put,hlt]
  ·simp[Act.put,e]
theorem TQ{X:Prop}:∀ {ps:List Pend} {S:St},Bkk E ps S X->X/\∀p,p∈ps->p.run=true->Gq p.o.op p.e=true->Gs E p.o.op p.e S (fun d _=>d=p.d) (fun _ _=>False)
 | [],_,h=>⟨h,fun _ hp=>by cases hp⟩
 |q::ps,S,h=>by
  simp only[Bkk] at h
  split at h
  ·obtain ⟨h1,h2⟩:=TQ h.2
   refine⟨h1,fun p hp hr hs=>?_⟩
   rcases List.mem_cons.1 hp with rfl | hp
   ·exact h.1
   ·exact h2 p hp hr hs
  ·rename_i hf
   obtain ⟨h1,h2⟩:=TQ h
   refine⟨h1,fun p hp hr hs=>?_⟩
   rcases List.mem_cons.1 hp with rfl | hp
   ·rw[hr,hs] at hf;cases hf
   ·exact h2 p hp hr hs
theorem BgJ{α β:Type}{f:α->β}:∀ {l:List α},(l.map f).Nodup->∀ {a b},a∈l->b∈l->f a=f b->a=b
 | [],_,_,_,h,_,_=>by cases h
 |x::l,h,a,b,ha,hb,e=>by
  simp only[List.map_cons,List.nodup_cons] at h
  rcases List.mem_cons.1 ha with q1 | q1<;>rcases List.mem_cons.1 hb with q2 | q2
  ·rw[q1,q2]
  ·exact (h.1 (List.mem_map.2 ⟨b,q2,by rw[<- e,q1]⟩)).elim
  ·exact (h.1 (List.mem_map.2 ⟨a,q1,by rw[e,q2]⟩)).elim
  ·exact BgJ h.2 q1 q2 e
theorem Inv.done{an : List Nat}{tb n : Nat}{L : Nat -> Bool}{a : Act}{rest : List Nat}{ps : List Pend}{env : Env}(hap : Apart ops an)(H : Inv E ops an ch Q tb n C L (RU a) rest ps env S)(hle : C.le C'){p : Pend}(hp : p∈ps)(hl : L p.i=false)
  (hna:∀k,L k=false->Ce an p.i k=false) (hok:En a.tmps.size p.o.dst=true) {v:Value} (hv:Rep C' p.d v) :
  Inv E ops an ch Q tb n C' (more L p.i) (RU (a.put p.o.dst v)) rest ps env S:=by
 have uniq:∀q,q∈ps->q.i=p.i->q=p:=by
  intro q hq e
  exact BgJ H.ndp hq hp e
 refine⟨H.can,?_,?_,?_,?_,?_,H.pp,H.pr,H.lt,H.nd,H.ndp,H.ndr,H.op,H.plt⟩
 ·intro i hi
  have:i≠p.i:=fun e=>H.nd p hp (e ▸ hi)
  simp[more,this,H.un i hi]
 ·intro i hi hil
  exact H.all i hi (CQ hil).2
 ·intro t ht
  rw[Bby hok]
  split
  ·rename_i hd
   rw[H.cur p hp hl t hd];exact hv
  ·rename_i hd
   refine Rep.mono hle _ _ (H.rep t fun q hq hql=>?_)
   by_cases e:q.i=p.i
   ·rw[uniq q hq e];exact hd
   ·exact ht q hq (by simp[more,e,hql])
 ·intro q hq hql
  exact H.cur q hq (CQ hql).2
 ·refine H.ok.imp ?_
  intro pre p' qs hps hl'
  obtain ⟨hne,hl0⟩:=CQ hl'
  refine⟨hl0,fun P=>⟨P.op,P.pure,P.steady,P.guard,P.val,P.free,P.skip,P.out,?_,?_⟩⟩
  ·intro t ht
   rw[Bby hok]
   by_cases htr:t∈Bw ops p'.o
   ·split
    ·rename_i hd
     have hp':p∈pre++p'::qs:=hps ▸ hp
     rcases List.mem_append.1 hp' with h | h
     ·have hpw:=H.pp
      rw[hps,List.map_append,List.pairwise_append] at hpw
      have hpair:=hpw.2.2 p.i (List.mem_map.2 ⟨p,h,rfl⟩) p'.i (by simp)
      have hpo:=H.op p hp
      have:=(hap p'.i p.i p'.o p.o hne P.op hpo hpair (hna _ hl0)).2 t hd
      exact (this htr).elim
     ·rcases List.mem_cons.1 h with rfl | h
      ·exact (hne rfl).elim
      ·rw[P.old p h hl t hd htr];exact hv
    ·rename_i hd
     refine Rep.mono hle _ _ (P.rep t fun q hq hql=>?_)
     by_cases e:q.i=p.i
     ·rw[uniq q (by rw[hps];simp[hq]) e];exact hd
     ·exact ht q hq (by simp[more,e,hql])
   ·rw[P.out t htr];simp[Rep]
  ·intro q hq hql
   exact P.old q hq (CQ hql).2
theorem Inv.chain{an : List Nat}{tb n n' : Nat}{L : Nat -> Bool}{a : Act}{c : Nat}{rest : List Nat}{ps : List Pend}{env env' : Env}{S' : St}{o : Oper}(hap : Apart ops an)(H : Inv E ops an ch Q tb n C L (RU a) rest ps env S)(hcr : c∈rest)(hle : C.le C')(ho : ops[c]? =some o)
  (hna:∀k,L k=false->Ce an c k=false) (hok:En a.tmps.size o.dst=true) {d:D} {v:Value} (hv:Rep C' d v) (hlk:∀t,look env' t=look env t)
  (hnew:∀i j x y,i<ops.length->j<ops.length->i≠j->ops[i]? =some x->ops[j]? =some y->∀d,x.dst=some d->y.dst≠some d)
  (hcan:C8 E ops an ch Q tb n' (rest.erase c) (ps.filter fun p=>!Ce an c p.i) (putD env' o.dst d) S')
  (hst:∀p,p∈ps.filter (fun p=>!Ce an c p.i)->p.run=true->S'=S\/(Gq p.o.op p.e=true->Gs E p.o.op p.e S' (fun d _=>d=p.d) (fun _ _=>False))) :
  Inv E ops an ch Q tb n' C' (more L c) (RU (a.put o.dst v)) (rest.erase c) (ps.filter fun p=>!Ce an c p.i) (putD env' o.dst d) S':=by
 have hclt:c<ops.length:=H.lt c hcr
 have hmem:∀j,j∈rest.erase c->j∈rest/\j≠c:=fun j hj=>⟨List.mem_of_mem_erase hj,fun e=>by
  subst e;exact (H.ndr.not_mem_erase) hj⟩
 have mem:∀p,p∈ps->L p.i=false->p∈ps.filter (fun p=>!Ce an c p.i):=fun p hp hl=>List.mem_filter.2 ⟨hp,by simp[hna _ hl]⟩
 have neq:∀p,p∈ps->p.i≠c:=fun p hp e=>H.nd p hp (by rw[e];exact hcr)
 have hsub:(ps.filter fun p=>!Ce an c p.i).Sublist ps:=List.filter_sublist
 refine⟨hcan,?_,?_,?_,?_,?_,H.pp.sublist (hsub.map _),fun p hp j hj=>H.pr p (hsub.subset hp) j (hmem j hj).1,fun i hi=>H.lt i (hmem i hi).1,fun p hp h=>H.nd p (hsub.subset hp) (hmem _ h).1,(hsub.map _).nodup H.ndp,H.ndr.erase c,fun p hp=>H.op p (hsub.subset hp),fun p hp=>H.plt p (hsub.subset hp)⟩
 ·intro i hi
  simp[more,(hmem i hi).2,H.un i (hmem i hi).1]
 ·intro i hi hil
  obtain ⟨hne,hl⟩:=CQ hil
  rcases H.all i hi hl with h | ⟨p,h1,h2⟩
  ·exact .inl ((List.mem_erase_of_ne hne).2 h)
  ·exact .inr ⟨p,mem p h1 (h2 ▸ hl),h2⟩
 ·intro t ht
  rw[Bby hok,MN]
  split
  ·exact hv
  ·rw[hlk]
   exact Rep.mono hle _ _ (H.rep t fun q hq hql=>ht q (mem q hq hql) (by simp[more,neq q hq,hql]))
 ·intro q hq hql t ht
  have hq':=hsub.subset hq
  have hqo:=H.op q hq'
  have hqlt:q.i<ops.length:=H.plt q hq'
  rw[MN,if_neg (hnew q.i c q.o o hqlt hclt (neq q hq') hqo ho t ht),hlk]
  exact H.cur q hq' (CQ hql).2 t ht
 ·have h1:AllPend E ops C L (RU a) S (ps.filter fun p=>!Ce an c p.i):=by
   refine H.ok.filter _ fun p hp hf=>?_
   cases hl:L p.i with
   |true=>rfl
   |false=>rw[hna _ hl] at hf;cases hf
  refine h1.imp ?_
  intro pre p qs hps hl'
  obtain ⟨hne,hl0⟩:=CQ hl'
  have hpm:p∈ps.filter (fun p=>!Ce an c p.i):=by rw[hps];simp
  refine⟨hl0,fun P=>⟨P.op,P.pure,P.steady,P.guard,?_,P.free,P.skip,P.out,?_,?_⟩⟩
  ·intro hr
   rcases hst p hpm hr with rfl | h
   ·exact P.val hr
   ·cases hs:Gq p.o.op p.e with
    |false=>exact P.free hr hs S'
    |true =>
     obtain ⟨d',e1,e2,_⟩:=Rk P.pure (P.steady hr) (h hs)
     exact e2 (fun d S''=>d=p.d/\S''=S') ⟨e1,rfl⟩ _
  ·intro t ht
   rw[Bby hok]
   by_cases htr:t∈Bw ops p.o
   ·split
    ·rename_i hd
     have hpair:=H.pr p (hsub.subset hpm) c hcr
     exact ((hap p.i c p.o o hne P.op ho hpair (hna _ hl0)).2 t hd htr).elim
    ·refine Rep.mono hle _ _ (P.rep t fun q hq hql=>ht q hq ?_)
     have hqm:q∈ps:=hsub.subset (by rw[hps];simp[hq])
     simp[more,neq q hqm,hql]
   ·rw[P.out t htr];simp[Rep]
  ·intro q hq hql
   exact P.old q hq (CQ hql).2
end
section
variable {E:Senv} {ops:List Oper} {ch:Nat->Bool} {Q:APostT} {C0:Ctx} {F:St} {dfs:List Deferred}
abbrev lst (listed:Array Bool):Nat->Bool:=fun i=>listed.getD i false
theorem BnU{listed:Array Bool}{i:Nat}(h:i<listed.size):lst (listed.setIfInBounds i true)=more (lst listed) i:=by
 funext j
 unfold lst more
 by_cases e:i=j
 ·subst e;simp[h]
 ·have e':¬j=i:=fun h=>e h.symm
  simp[e,e']
def left(n:Nat)(L:Nat->Bool):Nat:=(List.range n).countP fun i=>!L i
theorem BhC{n:Nat}{L:Nat->Bool}{i:Nat}(hi:i<n)(hl:L i=false):left n (more L i)<left n L:=by
 have key:∀(l:List Nat),l.countP (fun j=>!more L i j)<=l.countP (fun j=>!L j)/\(i∈l->l.countP (fun j=>!more L i j)<l.countP (fun j=>!L j)):=by
  intro l
  induction l with
  |nil=>simp
  |cons k l ih =>
   simp only[List.countP_cons]
   by_cases e:k=i
   ·subst e
    simp only[more,beq_self_eq_true,Bool.true_or,Bool.not_true,Bool.false_eq_true,if_false,hl,Bool.not_false,if_true]
    have:=ih.1
    simp only[more] at this
    refine⟨by omega,fun _=>by omega⟩
   ·have e':¬i=k:=fun h=>e h.symm
    have hm:more L i k=L k:=by simp[more,e]
    rw[hm]
    refine⟨by have:=ih.1;omega,fun h=>?_⟩
    rcases List.mem_cons.1 h with h | h
    ·exact (e' h).elim
    ·have:=ih.2 h;omega
 exact (key (List.range n)).2 (List.mem_range.2 hi)
theorem Closed.more{L:Nat->Bool}(h:Closed ops L){i:Nat}(hi:∀o,ops[i]? =some o->∀e,e∈o.after.toList->Region.binds .any e=true->L e.on=true):Closed ops (more L i):=by
 intro j o hj hl e he hb
 by_cases hji:j=i
 ·subst hji;simp[Ab.more,hi o hj e he hb]
 ·have:L j=true:=by simpa[Ab.more,hji] using hl
  simp[Ab.more,h j o hj this e he hb]
theorem Bgo{an:List Nat}{tb n:Nat}{ps:List Pend}{env:Env}{S:St}(h:C8 E ops an ch Q tb n [] ps env S):Q .normal env S:=by
 cases n with
 |zero=>simpa[C8] using h
 |succ n=>simpa[C8,O8] using h
theorem Bh2(hT : EnvOk E)(hdst : ops.all (fun o=>En E.n o.dst)=true)
  (hlt:∀i o,ops[i]? =some o->∀e,e∈o.after.toList->Region.binds .any e=true->e.on<i)
  (hap:Apart ops (G1 ops [])) (tb:Nat) (hnew:∀i j x y,i<ops.length->j<ops.length->i≠j->ops[i]? =some x->ops[j]? =some y->∀d,x.dst=some d->y.dst≠some d) :
  ∀(fuel:Nat) (listed:Array Bool) (C:Ctx) (n:Nat) (rest:List Nat) (ps:List Pend) (env:Env) (S:St) (a:Act) (w:World),listed.size=ops.length->left ops.length (lst listed)<=fuel->Closed ops (lst listed) ->
   C0.le C->a.tmps.size=E.n->a.defers=dfs->Sat C (S.add F) w->Inv E ops (G1 ops []) ch Q tb n C (lst listed) (RU a) rest ps env S ->
   wpAny E.P .any ops.toArray (APost C0 F E.n dfs Q) fuel listed a w:=by
 intro fuel
 induction fuel with
 |zero =>
  intro listed C n rest ps env S a w hsz hleft hcl h0 h2 h3 h4 H
  have hall:∀i,i<ops.length->lst listed i=true:=by
   intro i hi
   have:left ops.length (lst listed)=0:=by omega
   have:=List.countP_eq_zero.1 this i (List.mem_range.2 hi)
   simpa using this
  refine⟨?_,?_⟩
  ·apply List.eq_nil_iff_forall_not_mem.2
   intro i hi
   obtain ⟨h1,o,ho,_⟩:=mem_ready.1 hi
   have hlt':i<ops.length:=by
    have:=(Array.getElem?_eq_some_iff.1 ho).1
    simpa using this
   have:=hall i hlt'
   unfold lst at this
   rw[<- hsz] at hlt'
   simp[hlt'] at h1 this
   rw[h1] at this;cases this
  ·cases rest with
   |nil =>
    have hc:=Bgo H.can
    refine⟨C,.normal,env,S,h0,fun t=>H.rep t fun q hq hql=>?_,h2,h3,h4,trivial,hc⟩
    have hqo:=H.op q hq
    have hqlt:q.i<ops.length:=by
     rcases Nat.lt_or_ge q.i ops.length with h | h
     ·exact h
     ·rw[List.getElem?_eq_none_iff.2 h] at hqo;cases hqo
    rw[hall _ hqlt] at hql;cases hql
   |cons i l =>
    have:=H.un i (by simp)
    rw[hall i (H.lt i (by simp))] at this;cases this
 |succ fuel ih =>
  intro listed C n rest ps env S a w hsz hleft hcl h0 h2 h3 h4 H
  obtain ⟨n,rest,ps,env,H,hpos⟩:=Ba3 n rest ps env H hnew
  refine⟨fun hr=>?_,fun i hi=>?_⟩
  ·-- all are done
   have hall:∀n i,i<n->i<ops.length->lst listed i=true:=by
    intro n
    induction n with
    |zero=>intro i hi;omega
    |succ n ihn =>
     intro i hi hil
     cases hL:lst listed i with
     |true=>rfl
     |false =>
      have hm:i∈Region.ready .any ops.toArray listed:=by
       refine mem_ready.2 ⟨?_,ops[i],by simp[hil],?_⟩
       ·unfold lst at hL
        have hil':i<listed.size:=by omega
        simp[hil'] at hL ⊢; exact hL
       ·intro e he hb
        have hlt':=hlt i ops[i] (by simp[hil]) e (by simpa using he) hb
        exact ihn e.on (by omega) (by omega)
      rw[hr] at hm;cases hm
   have hall:=fun i h=>hall (i+1) i (by omega) h
   cases rest with
   |nil =>
    have hc:=Bgo H.can
    refine⟨C,.normal,env,S,h0,fun t=>H.rep t fun q hq hql=>?_,h2,h3,h4,trivial,hc⟩
    have hqo:=H.op q hq
    have hqlt:q.i<ops.length:=by
     rcases Nat.lt_or_ge q.i ops.length with h | h
     ·exact h
     ·rw[List.getElem?_eq_none_iff.2 h] at hqo;cases hqo
    rw[hall _ hqlt] at hql;cases hql
   |cons i l =>
    have:=H.un i (by simp)
    rw[hall i (H.lt i (by simp))] at this;cases this
  ·obtain ⟨hi1,o,ho,hedge⟩:=mem_ready.1 hi
   have hilt:i<ops.length:=by
    have:=(Array.getElem?_eq_some_iff.1 ho).1
    simpa using this
   have ho':ops[i]? =some o:=by simpa using ho
   have hL:lst listed i=false:=by
    unfold lst
    have hil':i<listed.size:=by omega
    simp[hil'] at hi1 ⊢; exact hi1
   have hedge':∀o',ops[i]? =some o'->∀e,e∈o'.after.toList->Region.binds .any e=true->lst listed e.on=true:=by
    intro o' h e he hb
    rw[ho'] at h;injection h with h;subst h
    exact hedge e (by simpa using he) hb
   have hna:∀k,lst listed k=false->Ce (G1 ops []) i k=false:=fun k hk=>hcl.no hlt hedge' hk
   have hset:lst (listed.setIfInBounds i true)=more (lst listed) i:=BnU (by omega)
   have hokd:En a.tmps.size o.dst=true:=by
    rw[h2];exact List.all_eq_true.1 hdst o (List.mem_of_getElem? ho')
   have goOn : ∀(C' : Ctx) (v : Value) (w' : World) (n' : Nat) (rest' : List Nat) (ps' : List Pend) (env' : Env) (S' : St), C.le C' -> Sat C' (S'.add F) w' -> Inv E ops (G1 ops []) ch Q tb n' C' (more (lst listed) i) (RU (a.put o.dst v)) rest' ps' env' S' ->
     wpAny E.P .any ops.toArray (APost C0 F E.n dfs Q) fuel (listed.setIfInBounds i true) (a.put o.dst v) w':=by
    intro C' v w' n' rest' ps' env' S' hle hs' H'
    refine ih _ C' n' rest' ps' env' S' _ w' (by simpa using hsz) ?_ ?_ (h0.trans hle) (by rw[GS,h2]) (by rw[Ef,h3]) hs' (by rw[hset];exact H')
    ·rw[hset];have:=BhC hilt hL;omega
    ·rw[hset];exact hcl.more hedge'
   unfold wpOp
   rw[ho]
   simp only
   rcases H.all i hilt hL with hir | ⟨p,hp,rfl⟩
   ·-- an operation of the chain
    have hrd:UX (G1 ops []) rest i=true:=List.all_eq_true.2 fun k hk=>by
     simp[hna k (H.un k hk)]
    have hch:ch i=true:=by
     cases h:ch i with
     |true=>rfl
     |false =>
      have:=List.find?_eq_none.1 hpos i hir
      simp[h,hrd] at this
    have hcan:=H.can
    cases n with
    |zero =>
     simp only[C8] at hcan
     split at hcan
     ·cases hir
     ·exact hcan.elim
    |succ n =>
    simp only[C8,hpos] at hcan
    split at hcan
    ·cases hir
    have hcan:=BcU hcan i (List.mem_filter.2 ⟨hir,by simp[hch,hrd]⟩)
    simp only[ho'] at hcan
    obtain ⟨env',r,hlk,hG,hcase⟩:=Ra hcan
    have hG':=Uk hG
    have he:RepEnv C (CB (Bw ops o) env') a.tmps:=by
     intro t
     rw[IG]
     split
     ·rename_i htr
      rw[hlk]
      refine H.rep t fun q hq hql hd=>?_
      have hpair:=H.pr q hq i hir
      have hne:q.i≠i:=fun e=>H.nd q hq (by rw[e];exact hir)
      exact (hap q.i i q.o o hne (H.op q hq) ho' hpair (hna _ hql)).1 t hd htr
     ·simp[Rep]
    have hw:=O7 hG' he
    rw[hw]
    rcases hcase with ⟨rfl,hrun⟩ | ⟨rfl,hskip⟩
    ·simp only[if_true]
     refine .inl (UQ (M0 hT he h4 o hrun) ?_ ?_)
     ·intro C' d S' v w' k1 k2 k3 k4
      obtain ⟨d',S'',k4,r1,r2⟩:=Bkf k4
      obtain ⟨k5,k6⟩:=TQ k4
      exact goOn C' v w' _ _ _ _ S'' k1 (r2 _ _ _ k3) (H.chain hap hir k1 ho' hna hokd (r1 _ _ k2) hlk hnew k5 fun p hp hr=>.inr (k6 p hp hr))
     ·intro C' d S' v w' k1 k2 k3 k4
      exact⟨C',.panic d,[],S',h0.trans k1,fun t=>by simp[look,Rep],h2,h3,k3,⟨v,rfl,k2⟩,k4⟩
    ·simp only[Bool.false_eq_true,if_false]
     exact goOn C undef w _ _ _ _ S (.refl C) h4 (H.chain hap hir (.refl C) ho' hna hokd (GG C) hlk hnew hskip fun p hp hr=>.inl rfl)
   ·-- a pending one
    have hpo:=H.op p hp
    rw[ho'] at hpo;injection hpo with hpo;subst hpo
    obtain ⟨pre,qs,P,hps⟩:=H.ok.mem p hp hL
    have he:RepEnv C p.e a.tmps:=by
     intro t
     by_cases htr:t∈Bw ops p.o
     ·refine P.rep t fun q hq hql hd=>?_
      have hpw:=H.pp
      rw[hps,List.map_append,List.pairwise_append] at hpw
      have hpair:=(List.pairwise_cons.1 hpw.2.1).1 q.i (List.mem_map.2 ⟨q,hq,rfl⟩)
      have hqm:q∈ps:=by rw[hps];simp[hq]
      have hne:q.i≠p.i:=fun e=>by
       have hnd:=H.ndp
       rw[hps,List.map_append,List.nodup_append] at hnd
       exact (List.nodup_cons.1 hnd.2.1).1 (List.mem_map.2 ⟨q,hq,e⟩)
      exact (hap q.i p.i q.o p.o hne (H.op q hqm) ho' hpair (hna _ hql)).1 t hd htr
     ·rw[P.out t htr];simp[Rep]
    have hw:=O7 P.guard he
    rw[hw]
    cases hr:p.run with
    |true =>
     simp only[if_true]
     refine .inl (UQ (M0 hT he h4 p.o (P.val hr)) ?_ ?_)
     ·rintro C' d S' v w' k1 k2 k3 ⟨rfl,rfl⟩
      exact goOn C' v w' _ _ _ _ S' k1 k3 (H.done hap k1 hp hL hna hokd k2)
     ·intro C' d S' v w' _ _ _ k4
      exact k4.elim
    |false =>
     simp only[Bool.false_eq_true,if_false]
     exact goOn C undef w _ _ _ _ S (.refl C) h4 (H.done hap (.refl C) hp hL hna hokd (by rw[P.skip hr];exact GG C))
def Mz(E:Senv)(ops:List Oper)(_:List Nat)(chain:List Nat)(Q:APostT)(env:Env)(S:St):Prop :=
 chk (BfR ops (G1 ops []) E.n) (C8 E ops (G1 ops []) (fun i=>chain.contains i) Q (B2 S.objs) ops.length (List.range ops.length) [] env S)
theorem BjG{an:List Nat}{n:Nat}(h:BfR ops an n=true):Apart ops an:=by
 intro i j x y hne hx hy h1 h2
 simp only[BfR,Bool.and_eq_true] at h
 have hi:i<ops.length:=(List.getElem?_eq_some_iff.1 hx).1
 have hj:j<ops.length:=(List.getElem?_eq_some_iff.1 hy).1
 have:=List.all_eq_true.1 (List.all_eq_true.1 h.1.1.1 i (List.mem_range.2 hi)) j (List.mem_range.2 hj)
 unfold BjZ at this
 rw[hx,hy] at this
 have hb:Nat.beq i j=false:=by
  cases hb:Nat.beq i j with
  |false=>rfl
  |true=>exact (hne (Nat.eq_of_beq_eq_true hb)).elim
 simp only[hb,h1,h2,Bool.false_or,Bln,Bool.and_eq_true,Bool.not_eq_true'] at this
 refine⟨fun t ht hm=>?_,fun t ht hm=>?_⟩
 ·have:=this.1;simp[Bgw,ht] at this;exact this hm
 ·have:=this.2;simp[Bgw,ht] at this;exact this hm
theorem Beh(hT:EnvOk E){id:Nat}{ord chain:List Nat}{env:Env}{S:St}(h:Mz E ops ord chain Q env S):AWpK E.P E.n dfs (GQ ops) (.region id ops.toArray true) Q env S:=by
 obtain ⟨hc,hcan⟩:=Ba.1 h
 have hap:=BjG hc
 simp only[BfR,Bool.and_eq_true] at hc
 obtain ⟨⟨⟨c1,c2⟩,c5⟩,c6⟩:=hc
 intro C F a w h1 h2 h3 h4
 refine wp_region_any hT.mix (Bch (BgF ops) _ _ _ _ (.refl _ _) ?_)
 have hnl:∀i,lst (Array.replicate ops.toArray.size false) i=false:=by
  intro i;simp only[lst]
  by_cases hi:i<ops.length
  ·simp[hi]
  ·simp[hi]
 refine Bh2 (ch:=fun i=>chain.contains i) (C0:=C) hT c5 (fun i o ho e he hb=>by have:=BcT c6 i o ho e he hb;omega) hap (B2 S.objs) (fun i j x y hi hj hne hx hy=>Bgm c2 i j x y (List.mem_range.2 hi) (List.mem_range.2 hj) hne hx hy)
  _ _ C ops.length (List.range ops.length) [] env S a _ (by simp) ?_ ?_ (.refl C) h2 h3 (by exact h4.drew) ?_
 ·unfold left
  refine Nat.le_trans (List.countP_le_length) ?_
  simp
 ·intro i o hi hl
  rw[hnl] at hl;cases hl
 ·exact {
   can:=hcan,un:=fun i _=>hnl i,all:=fun i hi _=>.inl (List.mem_range.2 hi),rep:=fun t _=>h1 t,cur:=fun _ hq=>(by cases hq),ok:=trivial,pp:=List.Pairwise.nil,pr:=fun _ hp=>(by cases hp),
   lt:=fun i hi=>List.mem_range.1 hi,nd:=fun _ hp=>(by cases hp),ndp:=List.Pairwise.nil,ndr:=List.nodup_range,op:=fun _ hp=>(by cases hp),plt:=fun _ hp=>(by cases hp) }
end
def Bqh(op:BinOp)(k:IntKind)(a b:Int):D :=
 match op with
 |.add=>.int k (k.wrap (a+b))
 |.sub=>.int k (k.wrap (a-b))
 |.mul=>.int k (k.wrap (a*b))
 |.quo=>.int k (k.wrap (a.tdiv b))
 |.rem=>.int k (a.tmod b)
 |.and=>.int k (Mq k a b)
 |.or=>.int k (orI k a b)
 |.xor=>.int k (BoM k a b)
 |.eql=>.bool (a==b)
 |.neq=>.bool (a != b)
 |.lss=>.bool (decide (a<b))
 |.leq=>.bool (decide (a<=b))
 |.gtr=>.bool (decide (b<a))
 |.geq=>.bool (decide (b<=a))
 |_=>.unk
def Bp9(op:BinOp)(a b:List UInt8):D :=
 match op with
 |.add=>.str (a++b)
 |.eql=>.bool (a==b)
 |.neq=>.bool (a != b)
 |.lss=>.bool (Op.bytesLess a b)
 |_=>.unk
def pvOf(op:BinOp):Option Bool->D
 |some r=>match op with
  |.eql=>.bool r
  |.neq=>.bool !r
  |_=>.unk
 |none=>.unk
def BqF(S:St):D->D
 |.str s=>.int .i64 s.length
 |.sl _ n _ _=>.int .i64 n
 |.ms _ _ _ len _ _=>.int .i64 len
 |.vs _ _ len _ _=>.int .i64 len
 |.nmap=>.int .i64 0
 |.map k _=>match Bt S.objs k with
  |some (_,.amap _ es)=>.int .i64 es.length
  |_=>.unk
 |_=>.unk
def BpB(ti:TI)(S:St):D->D
 |.ref k _ o=>match Bt S.objs k with
  |some (_,.cells ds)=>Ch ti ds o
  |_=>.unk
 |.pt row=>Ch ti row 0
 |.er k _ i _ fo=>match Bt S.objs k with
  |some (_,.vec _ _ _ f)=>Ch ti (f i) fo
  |_=>.unk
 |_=>.unk
def pvOp(E:Senv)(env:Env)(S:St)(o:Op):D :=
 match o with
 |.move x=>evD env x
 |.assign x=>evD env x
 |.pick c a b=>match evD env c with
  |.bool t=>match evD env a,evD env b with
   |.bool p,.bool q=>.bool (bif t then p else q)
   |.int k p,.int _ q=>.int k (bif t then p else q)
   |.str p,.str q=>.str (bif t then p else q)
   |_,_=>.unk
  |_=>.unk
 |.load t a=>match E.tt t with
  |some ti=>BpB ti S (evD env a)
  |none=>.unk
 |.nilCheck x=>evD env x
 |.binOp op t x y _=>match evD env x with
  |.int k n=>match evD env y with
   |.int _ m=>Bqh op k n m
   |_=>.unk
  |.str s=>match evD env y with
   |.str r=>Bp9 op s r
   |_=>.unk
  |a=>match BfA E.tt E.eqs op t a (evD env y) with
   |some r=>.bool r
   |none=>match E.tt t with
    |some ti=>pvOf op (eqT ti.desc a (evD env y))
    |none=>.unk
 |.unOp op _ x=>match op,evD env x with
  |.not,.bool b=>.bool !b
  |.neg,.int k n=>.int k (k.wrap (0-n))
  |.xor,.int k n=>.int k (Bpu k n)
  |_,_=>.unk
 |.convert _ d x=>match E.tt d with
  |some di=>match di.desc,evD env x with
   |.int k,.int _ n=>.int k (k.wrap n)
   |.string,.str s=>.str s
   |_,_=>.unk
  |none=>.unk
 |.fieldAddr t x f=>match E.tt t with
  |some ti=>match Gr ti.desc f with
   |some fd=>match evD env x with
    |.ref k b o=>.ref k b (o+fd.offset)
    |.pt row=>.pt (row.drop fd.offset)
    |.er k b i w o=>.er k b i w (o+fd.offset)
    |_=>.unk
   |none=>.unk
  |none=>.unk
 |.field t x f=>match E.tt t with
  |some ti=>match Gr ti.desc f with
   |some fd=>match E.tt fd.type with
    |some fi=>match evD env x with
     |.agg cs=>Ch fi cs fd.offset
     |_=>.unk
    |none=>.unk
   |none=>.unk
  |none=>.unk
 |.indexAddr _ x i=>match evD env x,evD env i with
  |.sl _ _ f _,.int _ i=>.pt (f i.toNat)
  |.vs k b _ _ wd,.int _ i=>.er k b i.toNat wd 0
  |.ms k b o _ _ wd,.int _ i=>.ref k b (o+i.toNat*wd)
  |_,_=>.unk
 |.index _ x i=>match evD env x,evD env i with
  |.str s,.int _ i=>.int .u8 ((s.getD i.toNat 0).toNat:Int)
  |_,_=>.unk
 |.slice _ x lo hi _=>match evD env x with
  |.str s=>match I3 (evO env lo) 0,I3 (evO env hi) s.length with
   |some l,some h=>.str ((s.take h.toNat).drop l.toNat)
   |_,_=>.unk
  |_=>.unk
 |.makeInterface t x=>.iface t (evD env x)
 |.makeFunc f a c=>.fn f (a.toList.map (evD env)) (c.toList.map (evD env))
 |.extract x i=>match evD env x with
  |.tup ds=>ds.getD i .unk
  |_=>.unk
 |.call c=>match c.callee with
  |.builtin .len=>BqF S (evD env (c.args.getD 0 (.const undef)))
  |.value f=>match evD env f with
   |.fn (.func k) first cap=>E.pvt k (first++c.args.toList.map (evD env)++cap)
   |_=>.unk
  |_=>.unk
 |_=>.unk
def BnZ(E:Senv)(S:St):List Oper->Env->Env
 | [],env=>env
 |o::r,env=>BnZ E S r (match o.dst with
  |some t=>(t,pvOp E env S o.op)::env
  |none=>env)
def Uc(E:Senv)(o:Op):Bool :=
 Wj o||match o with
  |.convert _ d _=>match E.tt d with
   |some di=>match di.desc with
    |.int _=>true
    |_=>false
   |none=>false
  |_=>false
theorem Bfz{E:Senv}{op:Op}{env:Env}{S:St}{K X:D->St->Prop}(hp:Uc E op=true)(h:Gs E op env S K X):∃d,K d S/\∀J X',(∀r,K r S->J r S)->Gs E op env S J X':=by
 unfold Uc at hp
 rw[Bool.or_eq_true] at hp
 rcases hp with hp | hp
 ·by_cases hst:steady E op env=true
  ·obtain ⟨d,h1,h2,_⟩:=Rk hp hst h
   exact⟨d,h1,fun J X' hj=>h2 J (hj d h1) X'⟩
  ·unfold steady at hst
   split at hst
   ·rename_i op t x y yt
    simp only[Gs] at h ⊢
    cases hq:Wy E.tt op t (evD env x) (evD env y) with
    |none=>simp[hq] at hst
    |some q =>
     obtain ⟨n,pos⟩:=q
     simp only[hq] at h ⊢
     cases pos with
     |true=>exact⟨_,h false (fun e=>nomatch e),fun J _ hj r hr=>hj _ (h r hr)⟩
     |false=>exact⟨_,h false (fun e=>nomatch e),fun J _ hj r hr=>hj _ (h r hr)⟩
   ·simp at hst
 ·split at hp
  ·rename_i s d x
   simp only[Gs] at h ⊢
   split at hp
   ·rename_i di hdi
    split at hp
    ·rename_i k hk
     cases hs:E.tt s with
     |none=>simp only[hs] at h
     |some si =>
      simp only[hs,hdi] at h ⊢
      cases hx:evD env x with
      |int k' n =>
       simp only[hx,MY,GB,hk] at h ⊢
       exact⟨_,h,fun J _ hj=>hj _ h⟩
      |sl w n f m =>
       simp only[hx] at h
       exfalso
       revert h
       unfold MY
       cases m<;>simp only[M1,GB,hk]<;>(repeat' split)<;>simp_all[BbT]
      |_ =>
       simp only[hx,MY,GB,hk] at h
       (try exact h.elim)
       (try (exfalso;revert h;(repeat' split)<;>simp_all))
    ·cases hp
   ·cases hp
  ·cases hp
theorem OP{E:Senv}{ops:List Oper}(hops:∀(i:Nat) o,ops[i]? =some o->Uc E o.op=true){Q:APostT}{S:St}:∀(l:List Nat) (env:Env),EL E ops Q l env S->EL E ops (fun e env' S'=>S'=S/\Q e env' S) l env S
 | [],env,h=>⟨rfl,h⟩
 |i::rest,env,h=>by
  simp only[EL] at h ⊢
  split at h
  ·rename_i hi;(try simp only[hi]);exact OP hops rest env h
  ·rename_i o hi
   (try simp only[hi])
   have run:∀env,Gs E o.op env S (fun d S'=>EL E ops Q rest (putD env o.dst d) S') (fun d S'=>Q (.panic d) env S')->Gs E o.op env S (fun d S'=>EL E ops (fun e env' S'=>S'=S/\Q e env' S) rest (putD env o.dst d) S') (fun d S'=>S'=S/\Q (.panic d) env S):=by
    intro env h
    obtain ⟨d,h1,h2⟩:=Bfz (hops i o hi) h
    exact h2 _ _ fun r hr=>OP hops rest _ hr
   have skip:∀env,EL E ops Q rest (putD env o.dst (.tup [])) S->EL E ops (fun e env' S'=>S'=S/\Q e env' S) rest (putD env o.dst (.tup [])) S:=fun env h=>OP hops rest _ h
   unfold E1 at h ⊢
   split at h
   ·exact run _ h
   ·split at h
    ·split at h
     ·split at h
      ·split at h
       ·have h:=C7 h
        exact BbP (fun e=>run _ (h.1 e)) (fun e=>skip _ (h.2 e))
       ·have h:=C7 h
        exact BbP (fun e=>skip _ (h.1 e)) (fun e=>run _ (h.2 e))
      ·exact skip _ h
      ·exact h.elim
     ·exact h.elim
    ·exact h.elim
theorem Mj{E:Senv}{ops:List Oper}{an:List Nat}{tb:Nat}{Q:APostT}{S:St}:∀(fuel:Nat) (rest:List Nat) (ps:List Pend) (env:Env),C8 E ops an (fun _=>false) Q tb fuel rest ps env S->C8 E ops an (fun _=>false) (fun e env' S'=>S'=S/\Q e env' S) tb fuel rest ps env S
 |0,rest,ps,env,h=>by
  simp only[C8] at h ⊢
  split at h
  ·exact⟨trivial,h⟩
  ·exact h.elim
 |fuel+1,rest,ps,env,h=>by
  simp only[C8] at h ⊢
  split at h
  ·rename_i i hp
   (try simp only[hp])
   split at h
   ·exact h.elim
   ·rename_i o ho
    (try simp only[ho])
    obtain ⟨hpu,h⟩:=Ba.1 h
    refine Ba.2 ⟨hpu,?_⟩
    have run : ∀env, chk (steady E o.op (CB (Bw ops o) env)) (Gs E o.op (CB (Bw ops o) env) S (fun d S'=>C8 E ops an (fun _=>false) Q tb fuel (rest.erase i) (⟨i, o, CB (Bw ops o) env, true, d⟩::ps) (putD env o.dst d) S') (fun _ _=>False)) ->
      chk (steady E o.op (CB (Bw ops o) env)) (Gs E o.op (CB (Bw ops o) env) S (fun d S'=>C8 E ops an (fun _=>false) (fun e env' S'=>S'=S/\Q e env' S) tb fuel (rest.erase i) (⟨i,o,CB (Bw ops o) env,true,d⟩::ps) (putD env o.dst d) S') (fun _ _=>False)):=by
     intro env h
     obtain ⟨hst,h⟩:=Ba.1 h
     refine Ba.2 ⟨hst,?_⟩
     obtain ⟨d,h1,h2⟩:=Bfz (by simp[Uc,hpu]) h
     exact h2 _ _ fun r hr=>Mj fuel _ _ _ hr
    unfold E1 at h ⊢
    split at h
    ·exact run _ h
    ·split at h
     ·split at h
      ·split at h
       ·split at h
        ·have h:=C7 h
         exact BbP (fun e=>run _ (h.1 e)) (fun e=>Mj fuel _ _ _ (h.2 e))
        ·have h:=C7 h
         exact BbP (fun e=>Mj fuel _ _ _ (h.1 e)) (fun e=>run _ (h.2 e))
       ·exact Mj fuel _ _ _ h
       ·exact h.elim
      ·exact h.elim
     ·exact h.elim
  ·split at h
   ·exact⟨trivial,h⟩
   ·have e:∀l:List Nat,l.filter (fun i=>false&&UX an rest i)=[]:=fun l=>by simp
    rw[e]
    trivial
theorem BhQ{E:Senv}{ops:List Oper}{l:List Nat}{Q:APostT}{env:Env}{S:St}(h:Mz E ops l [] Q env S):Mz E ops l [] (fun e env' S'=>S'=S/\Q e env' S) env S:=by
 unfold Mz at h ⊢
 obtain ⟨h1,h2⟩:=Ba.1 h
 exact Ba.2 ⟨h1,Mj _ _ _ _ h2⟩
def Ber(E:Senv)(id:Nat)(d:Bool)(ops:List Oper):Bool :=
 (match E.mg id with
  |0=>E.auto&&(ops.any fun o=>o.guard.isSome)
  |1=>true
  |_=>false)&&(match d with
  |true=>(E.ord id).2.isEmpty
  |false=>ops.all fun o=>Uc E o.op)
def Rv(E:Senv)(ops:List Oper):List Nat:=((GQ ops).filter fun t=>decide (t<E.V)||E.cross.contains t).eraseDups
def Bgt(E:Senv)(ops:List Oper)(env:Env)(S:St):List D:=(Rv E ops).map (look (BnZ E S ops env))
def prune(V:Nat)(cross:List Nat)(env:Env):Env:=env.filter fun p=>decide (p.1<V)||cross.contains p.1
theorem Im(f:Nat->Bool):∀(env:Env) (t:Nat),look (env.filter fun p=>f p.1) t=.unk\/look (env.filter fun p=>f p.1) t=look env t
 | [],t=>.inl rfl
 |(s,d)::r,t=>by
  simp only[List.filter_cons]
  split
  ·simp only[look]
   split
   ·exact .inr rfl
   ·exact Im f r t
  ·rename_i hf
   by_cases e:s=t
   ·subst e
    left
    have key:∀(l:Env),look (l.filter fun p=>f p.1) s=.unk:=by
     intro l
     induction l with
     |nil=>rfl
     |cons p l ih =>
      simp only[List.filter_cons]
      split
      ·rename_i hp
       simp only[look]
       split
       ·rename_i e;rw[e] at hp;exact (hf hp).elim
       ·exact ih
      ·exact ih
    exact key r
   ·simp only[look,if_neg e];exact Im f r t
theorem TF(V:Nat)(cross:List Nat)(env:Env):Bla (prune V cross env) env:=fun t=>Im (fun s=>decide (s<V)||cross.contains s) env t
def Ghost(env:Env)(S:St)(J:Env->St->Prop):Prop :=
 ∀(C:Ctx) (F:St) (tmps:Array Value) (w:World),RepEnv C env tmps->Sat C (S.add F) w->∃C' env' S',C.le C'/\RepEnv C' env' tmps/\Sat C' (S'.add F) w/\J env' S'
theorem Ghost.none{env:Env}{S:St}{J:Env->St->Prop}(h:J env S):Ghost env S J:=fun C _ _ _ h1 h2=>⟨C,env,S,.refl C,h1,h2,h⟩
theorem Ghost.bind{env:Env}{S:St}{J J':Env->St->Prop}(h:Ghost env S J)(k:∀env S,J env S->Ghost env S J'):Ghost env S J':=by
 intro C F tmps w h1 h2
 obtain ⟨C1,e1,S1,a1,a2,a3,a4⟩:=h C F tmps w h1 h2
 obtain ⟨C2,e2,S2,b1,b2,b3,b4⟩:=k e1 S1 a4 C1 F tmps w a2 a3
 exact⟨C2,e2,S2,a1.trans b1,b2,b3,b4⟩
def W9:Place->Bool
 |.cell _ _=>false
 |_=>true
def lone:D->Bool
 |.sl _ _ _ .nil=>true
 |.sl _ _ _ .full=>true
 |_=>false
def IX(wd k t:Nat):D->D
 |.sl w n f m=>match wd with
  |0=>.sl w n f (.tok k t)
  |wd+1=>match n,m with
   |0,.nil=>.sl (wd+1) 0 (fun _=>[]) (.tok k t)
   |n,_=>.sl w n f (.tok k t)
 |d=>d
def WI:Place->Nat
 |.cell _ o=>o / 100
 |.slot t=>t / 100000
 |_=>0
theorem MU{C:Ctx}{w n:Nat}{f:Nat->List D}{m:Mode}{v:Value}{k t:Nat}(hl:lone (.sl w n f m)=true)(ht:C.tok t=none)(hte:Eu t=0)(h:Rep C (.sl w n f m) v):Rep (C.tokd t .no) (.sl w n f (.tok k t)) v:=by
 have hle:=Ctx.tokd_le (C:=C) (x:=.no) ht
 ·simp only[Rep] at h ⊢
  obtain ⟨a,len,cap,e,hh,hr⟩:=h
  refine⟨a,len,cap,e,⟨hh.1,hh.2.1,hh.2.2.1,hh.2.2.2.1,hh.2.2.2.2.1,?_⟩,fun x hx i hi=>⟨(hr x hx i hi).1,RepCells.mono hle _ _ _ (hr x hx i hi).2⟩⟩
  simp only[Ctx.tokd,if_true]
  cases m with
  |nil =>
   have h6:a=none:=hh.2.2.2.2.2
   have h4:=hh.2.2.2.1 h6
   exact⟨by omega,fun h=>(h hte).elim⟩
  |full=>exact⟨hh.2.2.2.2.2.1,fun h=>(h hte).elim⟩
  |any=>simp[lone] at hl
  |tok k t=>simp[lone] at hl
theorem BjO{C:Ctx}{d:D}{v:Value}{wd k t:Nat}(hl:lone d=true)(ht:C.tok t=none)(hte:Eu t=0)(h:Rep C d v):Rep (C.tokd t .no) (IX wd k t d) v:=by
 cases d with
 |sl w n f m =>
  cases wd with
  |zero=>exact MU hl ht hte h
  |succ wd =>
   cases n with
   |succ n=>exact MU hl ht hte h
   |zero =>
    cases m with
    |nil =>
     have h':=MU (k:=k) hl ht hte h
     simp only[IX,Rep] at h' ⊢
     obtain ⟨a,len,cap,e,hh,hr⟩:=h'
     refine⟨a,len,cap,e,⟨hh.1,hh.2.1,hh.2.2.1,hh.2.2.2.1,hh.2.2.2.2.1,?_⟩,fun x _ i hi=>absurd hi (Nat.not_lt_zero i)⟩
     have h6:=hh.2.2.2.2.2
     simp only[Ctx.tokd,if_true] at h6 ⊢
     exact h6
    |full=>exact MU hl ht hte h
    |any=>simp[lone] at hl
    |tok _ _=>simp[lone] at hl
 |_=>simp[lone] at hl
def BR(env:Env)(S:St):Place->D
 |.slot t=>look env (t % 100000)
 |.part t o=>match look env t with
  |.agg ds=>ds.getD o .unk
  |_=>.unk
 |.cell k o=>match Bt S.objs k with
  |some (_,.cells ds)=>ds.getD (o % 100) .unk
  |_=>.unk
def CX(env:Env)(d:D):Place->Env
 |.slot t=>(t % 100000,d)::env
 |.part t o=>match look env t with
  |.agg ds=>(t,.agg (ds.set o d))::env
  |_=>env
 |.cell _ _=>env
def Gw(S:St)(d:D):Place->St
 |.cell k o=>match Bt S.objs k with
  |some (_,.cells ds)=>S.set k (.cells (ds.set (o % 100) d))
  |_=>S
 |_=>S
def BfK(p:Place)(k:Nat):Bool:=match p with
 |.cell k0 _=>!(Nat.beq k0 k)
 |_=>true
def Ck(J:Env->St->Prop):List Place->Env->St->Prop
 | [],env,S=>J env S
 |p::ps,env,S=>match BR env S p with
  |.vs k x len cap w=>match Bt S.objs k with
   |some (y, .vec w' n c f)=>chk (decide (w=w')&&BfK p k) (y=x /\ c=cap /\ Be (len<=n) ((∀i, i<len -> (f i).all Gi=true) /\
     ∀t,Ck J ps (CX env (.sl w len f (.tok (Bm S.toks) t)) p) ⟨(Gw ⟨Cr S.objs k,(Bm S.toks,t)::S.toks⟩ (.sl w len f (.tok (Bm S.toks) t)) p).objs,(Bm S.toks,t)::S.toks⟩))
   |_=>False
  |_=>chk (lone (BR env S p)) (∀t,Ck J ps (CX env (IX (WI p) (Bm S.toks) t (BR env S p)) p)
   ⟨(Gw S (IX (WI p) (Bm S.toks) t (BR env S p)) p).objs,(Bm S.toks,t)::S.toks⟩)
theorem RepL.weak_set{C C':Ctx}(hle:C.le C'){d':D}:∀ {ds:List D} {vs:List Value} (o:Nat),RepL C ds vs->(∀v,Rep C (ds.getD o .unk) v->Rep C' d' v)->RepL C' (ds.set o d') vs
 | [],vs,o,h,_=>RepL.mono hle _ _ h
 |d::ds,vs,0,h,k=>by
  simp only[RepL] at h
  obtain ⟨x,xs,rfl,r1,r2⟩:=h
  simp only[List.set_cons_zero,RepL]
  exact⟨x,xs,rfl,k x (by simpa using r1),RepL.mono hle _ _ r2⟩
 |d::ds,vs,o+1,h,k=>by
  simp only[RepL] at h
  obtain ⟨x,xs,rfl,r1,r2⟩:=h
  simp only[List.set_cons_succ,RepL]
  exact⟨x,xs,rfl,Rep.mono hle _ _ r1,RepL.weak_set hle o r2 (by simpa using k)⟩
theorem BcF{env : Env}{S : St}{J : Env -> St -> Prop}(p : Place)(hl : lone (BR env S p)=true)
  (h:∀t,J (CX env (IX (WI p) (Bm S.toks) t (BR env S p)) p) ⟨(Gw S (IX (WI p) (Bm S.toks) t (BR env S p)) p).objs,(Bm S.toks,t)::S.toks⟩):Ghost env S J:=by
 intro C F tmps w h1 h2
 obtain ⟨t,ht,hm,hte⟩:=h2.tok_free
 have hle:=Ctx.tokd_le (C:=C) (x:=.no) ht
 have hsat:=h2.tok_no (Bm S.toks) ht hm
 have hsat:Sat (C.tokd t .no) (St.add ⟨S.objs,(Bm S.toks,t)::S.toks⟩ F) w:=Sat.cons_frame hsat
 have hd:∀v,Rep C (BR env S p) v->Rep (C.tokd t .no) (IX (WI p) (Bm S.toks) t (BR env S p)) v:=fun v hv=>BjO hl ht hte hv
 refine⟨C.tokd t .no,_,_,hle,?_,?_,h t⟩
 ·cases p with
  |slot s =>
   intro u
   simp only[CX,look]
   split
   ·rename_i e;subst e;exact hd _ (h1 (s % 100000))
   ·exact (h1.mono hle) u
  |part s o =>
   simp only[CX]
   split
   ·rename_i ds hds
    intro u
    simp only[look]
    split
    ·rename_i e;subst e
     have hr:=h1 s
     rw[hds] at hr
     simp only[Rep] at hr ⊢
     obtain ⟨vs,e,r⟩:=hr
     refine⟨vs,e,RepL.weak_set hle o r fun v hv=>hd v ?_⟩
     simpa[BR,hds] using hv
    ·exact (h1.mono hle) u
   ·exact h1.mono hle
  |cell k o=>exact h1.mono hle
 ·cases p with
  |slot s=>exact hsat
  |part s o=>exact hsat
  |cell k o =>
   simp only[Gw]
   split
   ·rename_i x ds hg
    refine hsat.replace (S:=⟨S.objs,(Bm S.toks,t)::S.toks⟩) (t:=k) hg rfl (fun _ _=>rfl) rfl rfl rfl ?_
    obtain ⟨arr,E,fz,q1,q2,q3⟩:=(h2.obj_of hg).2.2
    refine⟨arr,E,fz,q1,q2,RepL.weak_set hle (o % 100) q3 fun v hv=>hd v ?_⟩
    simpa[BR,hg] using hv
   ·exact hsat
theorem Bju{C C':Ctx}(hle:C.le C'){env:Env}{S:St}{tmps:Array Value}(h1:RepEnv C env tmps){d:D}:∀(p:Place),W9 p=true->(∀v,Rep C (BR env S p) v->Rep C' d v)->RepEnv C' (CX env d p) tmps
 |.slot s,_,hd=>by
  intro u
  simp only[CX,look]
  split
  ·rename_i e;subst e;exact hd _ (h1 (s % 100000))
  ·exact (h1.mono hle) u
 |.part s o,_,hd=>by
  simp only[CX]
  split
  ·rename_i ds hds
   intro u
   simp only[look]
   split
   ·rename_i e;subst e
    have hr:=h1 s
    rw[hds] at hr
    simp only[Rep] at hr ⊢
    obtain ⟨vs,e,r⟩:=hr
    refine⟨vs,e,RepL.weak_set hle o r fun v hv=>hd v ?_⟩
    simpa[BR,hds] using hv
   ·exact (h1.mono hle) u
  ·exact h1.mono hle
 |.cell _ _,h,_=>by cases h
theorem Bc8{C:Ctx}{env:Env}{S:St}{tmps:Array Value}(h1:RepEnv C env tmps){d:D}:∀(p:Place),W9 p=true->BR env S p=d->(∃v,Rep C d v) 
 |.slot s,_,e=>by subst e;exact⟨_,h1 (s % 100000)⟩
 |.part s o,_,e=>by
  subst e
  simp only[BR]
  split
  ·rename_i ds hds
   have hr:=h1 s
   rw[hds] at hr
   simp only[Rep] at hr
   obtain ⟨vs,_,r⟩:=hr
   by_cases ho:o<ds.length
   ·obtain ⟨v,_,h2⟩:=RepL.get r o (ds.getD o .unk) (by simp[List.getD_eq_getElem?_getD,ho])
    exact⟨v,h2⟩
   ·refine⟨undef,?_⟩
    rw[List.getD_eq_getElem?_getD,List.getElem?_eq_none (by omega)]
    simp[Rep]
  ·exact⟨undef,by simp[Rep]⟩
 |.cell _ _,h,_=>by cases h
theorem OZ{env : Env}{S : St}{J : Env -> St -> Prop}(p : Place){k x len cap w n : Nat}{f : Nat -> List D}(hp : W9 p=true)(hv : BR env S p=.vs k x len cap w)(hg : Bt S.objs k=some (x, .vec w n cap f))(hl : len<=n)
  (hok:∀i,i<len->(f i).all Gi=true) (h:∀t,J (CX env (.sl w len f (.tok (Bm S.toks) t)) p) ⟨Cr S.objs k,(Bm S.toks,t)::S.toks⟩):Ghost env S J:=by
 intro C F tmps W h1 h2
 obtain ⟨t,ht,hm,hte⟩:=h2.tok_free
 obtain ⟨v,hr⟩:=Bc8 h1 p hp hv
 simp only[Rep] at hr
 obtain ⟨arr,⟨hle,hs,hd⟩ | hbad⟩:=Sat.settle h2 hg hl hok (Bm S.toks) ht hm hte
 ·refine⟨_,_,_,hle,Bju (S:=S) hle h1 p hp ?_,hs,h t⟩
  intro u hu
  rw[hv] at hu
  simp only[Rep] at hu
  rw[hu.1];exact hd
 ·omega
theorem Uh{k k0:Nat}(h:k0≠k):∀(l:List (Nat×Nat×AObj)),Bt (Cr l k) k0=Bt l k0
 | []=>rfl
 |(s,x,o)::l=>by
  have ih:=Uh h l
  simp only[Cr]
  split
  ·rename_i e
   subst e
   simp only[Bt]
   rw[if_neg (fun e=>h e.symm)]
  ·simp only[Bt]
   rw[ih]
theorem Tt{env : Env}{S : St}{J : Env -> St -> Prop}(k0 o : Nat){k x len cap w n : Nat}{f : Nat -> List D}(hp : k0≠k)(hv : BR env S (.cell k0 o)=.vs k x len cap w)(hg : Bt S.objs k=some (x, .vec w n cap f))(hl : len<=n)
  (hok:∀i,i<len->(f i).all Gi=true) (h:∀t,J env ⟨(Gw ⟨Cr S.objs k,(Bm S.toks,t)::S.toks⟩ (.sl w len f (.tok (Bm S.toks) t)) (.cell k0 o)).objs,(Bm S.toks,t)::S.toks⟩):Ghost env S J:=by
 intro C F tmps W h1 h2
 obtain ⟨t,ht,hm,hte⟩:=h2.tok_free
 simp only[BR] at hv
 split at hv
 ·rename_i x0 ds hg0
  obtain ⟨a1,a2,arr0,E,fz,q1,q2,q3⟩:=h2.obj_of hg0
  have hlt:o % 100<ds.length:=by
   by_cases hc:o % 100<ds.length
   ·exact hc
   ·rw[List.getD_eq_getElem?_getD,List.getElem?_eq_none (by omega)] at hv;cases hv
  obtain ⟨v,hv1,hv2⟩:=RepL.get q3 (o % 100) (ds.getD (o % 100) .unk) (by simp[List.getD_eq_getElem?_getD,hlt])
  have hr:=hv2
  rw[hv] at hr
  simp only[Rep] at hr
  obtain ⟨arr,⟨hle,hs,hd⟩ | hbad⟩:=Sat.settle h2 hg hl hok (Bm S.toks) ht hm hte
  ·refine⟨_,_,_,hle,h1.mono hle,?_,h t⟩
   have hg1:Bt (Cr S.objs k) k0=some (x0,.cells ds):=by rw[Uh hp];exact hg0
   simp only[Gw,hg1]
   refine hs.replace (S:=⟨Cr S.objs k,(Bm S.toks,t)::S.toks⟩) (t:=k0) hg1 rfl (fun _ _=>rfl) rfl rfl rfl ?_
   refine⟨arr0,E,fz,q1,q2,RepL.weak_set hle (o % 100) q3 fun u hu=>?_⟩
   rw[hv] at hu
   simp only[Rep] at hu
   rw[hu.1];exact hd
  ·omega
 ·cases hv
theorem B7{J:Env->St->Prop}:∀(ps:List Place) (env:Env) (S:St),Ck J ps env S->Ghost env S J
 | [],_,_,h=>.none h
 |p::ps,env,S,h=>by
  simp only[Ck] at h
  split at h
  ·rename_i k x len cap w hv
   split at h
   ·rename_i y w' n c f hg
    obtain ⟨hc,rfl,rfl,hk⟩:=Ba.1 h
    simp only[Bool.and_eq_true,decide_eq_true_eq] at hc
    obtain ⟨rfl,hp⟩:=hc
    obtain ⟨hl,hok,hk⟩:=Bc.1 hk
    cases p with
    |cell k0 o =>
     have hne:k0≠k:=fun e=>by subst e;simp[BfK] at hp
     exact (Tt (J:=fun env S=>Ck J ps env S) k0 o hne hv hg hl hok hk).bind fun env S h=>B7 ps env S h
    |slot s=>exact (OZ (J:=fun env S=>Ck J ps env S) (.slot s) rfl hv hg hl hok hk).bind fun env S h=>B7 ps env S h
    |part s o=>exact (OZ (J:=fun env S=>Ck J ps env S) (.part s o) rfl hv hg hl hok hk).bind fun env S h=>B7 ps env S h
   ·exact h.elim
  obtain ⟨h1,h2⟩:=Ba.1 h
  exact (BcF (J:=fun env S=>Ck J ps env S) p h1 h2).bind fun env S h=>B7 ps env S h
def BcM:Env->Env->Prop
 | [],_=>True
 |(t,d)::r,env=>look env t=d/\BcM r env
theorem MX{C:Ctx}{tmps:Array Value}{env:Env}(he:RepEnv C env tmps):∀ {l:Env},BcM l env->RepEnv C l tmps
 | [],_=>fun t=>by simp[look,Rep]
 |(s,d)::r,h=>by
  intro t
  simp only[look]
  split
  ·rename_i e;subst e;rw[<- h.1];exact he s
  ·exact MX he h.2 t
theorem Bce{C:Ctx}{tmps:Array Value}{env:Env}(he:RepEnv C env tmps)(l:List Nat):RepEnv C (CB l env) tmps:=by
 intro t
 rw[IG]
 split
 ·exact he t
 ·simp[Rep]
theorem Ev{C:Ctx}{tmps:Array Value}{env rest:Env}(he:RepEnv C env tmps)(hr:RepEnv C rest tmps):∀(slots:List Nat) (ds:List D),Br (slots.map (look env)) ds->RepEnv C (slots.zip ds++rest) tmps
 | [],ds,_=>by simpa using hr
 |s::slots,[],_=>by simpa using hr
 |s::slots,d::ds,h=>by
  simp only[List.map_cons,Br] at h
  intro t
  simp only[List.zip_cons_cons,List.cons_append,look]
  split
  ·rename_i e;subst e;exact Bq _ _ h.1 _ _ (he s)
  ·exact Ev he hr slots ds h.2 t
theorem AWp.weak{P:Program}{n:Nat}{dfs:List Deferred}{c:Code}{Q:APostT}{env env':Env}{S S':St}(h:AWp P n dfs c Q env' S')(he:EnvTo env env')(hs:StTo S S'):AWp P n dfs c Q env S :=
 fun C F a w h1 h2 h3 h4=>h C F a w (he _ _ h1) h2 h3 (hs _ _ _ h4)
theorem AWp.ghost{P:Program}{n:Nat}{dfs:List Deferred}{c:Code}{Q:APostT}{env:Env}{S:St}(h:Ghost env S fun env S=>AWp P n dfs c Q env S):AWp P n dfs c Q env S:=by
 intro C F a w h1 h2 h3 h4
 obtain ⟨C1,env1,S1,g1,g2,g3,g4⟩:=h C F a.tmps w h1 h4
 exact wp_mono (g4 C1 F a w g2 h2 h3 g3) fun _ _ _ H=>H.up g1
def Bfu(A:Option LoopAnn)(V:APostT->Env->St->Prop)(Q:APostT)(env:Env)(S:St):Prop :=
 match A with
 |none=>False
 |some A=>(∃x,A.inv x/\Br (A.slots.map (look env)) (A.st x).1/\leS (A.st x).2 S) /\
  ∀x,A.inv x->V (M6 (fun env' S'=>BcM (CB A.keep env) env'/\∃y,A.inv y/\A.mu y<A.mu x/\Br (A.slots.map (look env')) (A.st y).1/\leS (A.st y).2 S') Q)
   (A.slots.zip (A.st x).1++CB A.keep env) (A.st x).2
theorem BbK{P : Program}{n : Nat}{dfs : List Deferred}{c : Code}{A : Option LoopAnn}{V : APostT -> Env -> St -> Prop}(hV : ∀Q env S, V Q env S -> AWp P n dfs c Q env S){Q : APostT}{env : Env}{S : St}(h : Bfu A V Q env S) :
  AWp P n dfs (.loop c) Q env S:=by
 unfold Bfu at h
 split at h
 ·exact h.elim
 ·rename_i A
  obtain ⟨⟨x,hx,hw,hl⟩,hr⟩:=h
  refine AWp.weak (env':=A.slots.zip (A.st x).1++CB A.keep env) (S':=(A.st x).2) ?_ (fun C tmps he=>Ev he (Bce he _) _ _ hw) (Bl0 hl)
  refine AWp.loop (fun k env' S'=>∃x,A.inv x/\A.mu x=k/\env'=A.slots.zip (A.st x).1++CB A.keep env/\S'=(A.st x).2) (A.mu x) ⟨x,hx,rfl,rfl,rfl⟩ ?_
  rintro k env' S' ⟨x,hx,rfl,rfl,rfl⟩
  refine (hV _ _ _ (hr x hx)).mono ?_
  intro e env' S' hq
  cases e with
  |normal =>
   obtain ⟨ha,y,hy,hm,hw,hl⟩:=hq
   exact⟨A.mu y,hm,_,_,fun C tmps he=>Ev he (MX he ha) _ _ hw,Bl0 hl,y,hy,rfl,rfl,rfl⟩
  |_=>exact hq
def BnN(Q:APostT):APostT:=fun e env S=>match e with
 |.goto _=>False
 |e=>Q e env S
def Ts(V:APostT->Env->St->Prop)(Q:APostT):Nat->Env->St->Prop
 |0,_,_=>False
 |n+1,env,S=>V (M6 (fun env S=>Ts V Q n env S) Q) env S
theorem Wt{P : Program}{n : Nat}{dfs : List Deferred}{c : Code}{V : APostT -> Env -> St -> Prop}(hV : ∀Q env S, V Q env S -> AWp P n dfs c Q env S){Q : APostT}{k : Nat}{env : Env}{S : St}(h : Ts V Q k env S) :
  AWp P n dfs (.loop c) Q env S:=by
 refine AWp.loop (fun k env S=>Ts V Q k env S) k h ?_
 intro k env S hk
 cases k with
 |zero=>exact hk.elim
 |succ k =>
  refine (hV _ _ _ hk).mono ?_
  intro e env' S' hq
  cases e with
  |normal=>exact⟨k,by omega,env',S',fun _ _ h=>h,StTo.refl _,hq⟩
  |_=>exact hq
theorem AWp.frame{P:Program}{n:Nat}{dfs:List Deferred}{c:Code}{Q:APostT}{env:Env}{S:St}(G:St)(h:AWp P n dfs c Q env S):AWp P n dfs c (fun e env S'=>∃S0,S'=S0.add G/\Q e env S0) env (S.add G):=by
 intro C F a w h1 h2 h3 h4
 refine wp_mono (h C (G.add F) a w h1 h2 h3 (by rw[<- St.add_assoc];exact h4)) ?_
 rintro e a' w' ⟨C',x,env',S',b1,b2,b3,b4,b5,b6,b7⟩
 exact⟨C',x,env',S'.add G,b1,b2,b3,b4,by rw[St.add_assoc];exact b5,b6,S',rfl,b7⟩
def TZ(A:LoopAnn)(k:Option Nat)(env:Env)(S:St):Prop:=∃x,A.inv x/\(match k with
 |none=>True
 |some k=>A.mu x<k)/\Br (A.slots.map (look env)) (A.st x).1/\StTo S ((A.st x).2.add (A.fr x))
def BeJ(A B:LoopAnn)(V:APostT->Env->St->Prop)(Q:APostT)(keep:Env)(X:LoopAnn):Prop :=
 ∀x,X.inv x->V (fun e env' S'=>match e with
  |.normal=>BcM keep env'/\(TZ A (some (X.mu x)) env' (S'.add (X.fr x))\/TZ B (some (X.mu x)) env' (S'.add (X.fr x)))
  |e=>Q e env' (S'.add (X.fr x))) (X.slots.zip (X.st x).1++keep) (X.st x).2
def BfE(A B:LoopAnn)(V:APostT->Env->St->Prop)(Q:APostT)(env:Env)(S:St):Prop :=
 (TZ A none env S\/TZ B none env S)/\BeJ A B V Q (CB A.keep env) A/\BeJ A B V Q (CB A.keep env) B
theorem RZ{P : Program}{n : Nat}{dfs : List Deferred}{c : Code}{A B : LoopAnn}{V : APostT -> Env -> St -> Prop}(hV : ∀Q env S, V Q env S -> AWp P n dfs c Q env S){Q : APostT}{env : Env}{S : St}(h : BfE A B V Q env S) :
  AWp P n dfs (.loop c) Q env S:=by
 obtain ⟨h0,hA,hB⟩:=h
 let I:Nat->Env->St->Prop:=fun k env' S'=>∃X,(X=A\/X=B)/\∃x,X.inv x/\X.mu x=k/\env'=X.slots.zip (X.st x).1++CB A.keep env/\S'=(X.st x).2.add (X.fr x)
 have start:∃X,(X=A\/X=B)/\TZ X none env S:=by
  rcases h0 with h | h
  ·exact⟨A,.inl rfl,h⟩
  ·exact⟨B,.inr rfl,h⟩
 obtain ⟨X,hX,x,hx,_,hw,hl⟩:=start
 refine AWp.weak (env':=X.slots.zip (X.st x).1++CB A.keep env) (S':=(X.st x).2.add (X.fr x)) ?_ (fun C tmps he=>Ev he (Bce he _) _ _ hw) hl
 refine AWp.loop I (X.mu x) ⟨X,hX,x,hx,rfl,rfl,rfl⟩ ?_
 rintro k env' S' ⟨Y,hY,y,hy,rfl,rfl,rfl⟩
 have hb:BeJ A B V Q (CB A.keep env) Y:=by rcases hY with rfl | rfl<;>assumption
 refine ((hV _ _ _ (hb y hy)).frame (Y.fr y)).mono ?_
 rintro e env' S' ⟨S0,rfl,hq⟩
 cases e with
 |normal =>
  obtain ⟨ha,hq⟩:=hq
  have:∃Z,(Z=A\/Z=B)/\TZ Z (some (Y.mu y)) env' (S0.add (Y.fr y)):=by
   rcases hq with h | h
   ·exact⟨A,.inl rfl,h⟩
   ·exact⟨B,.inr rfl,h⟩
  obtain ⟨Z,hZ,z,hz,hm,hw,hl⟩:=this
  exact⟨Z.mu z,hm,_,_,fun C tmps he=>Ev he (MX he ha) _ _ hw,hl,Z,hZ,z,hz,rfl,rfl,rfl⟩
 |_=>exact hq
def Bl3(A:Option LoopAnn)(l:List Nat)(V:APostT->St->Prop)(Q:APostT)(env:Env)(S:St):Prop :=
 match A with
 |none=>V Q S
 |some A=>match A.dry with
  |true=>V (fun e env' _=>match e with
   |.normal=>∃x,A.inv x/\Br (A.slots.map (look env')) (A.st x).1
   |_=>False) ⟨[],[]⟩/\∀x,A.inv x->Q .normal (A.slots.zip (A.st x).1++env.filter fun p=>!l.contains p.1) S
  |false=>V (fun e env' S'=>match e with
   |.normal=>∃x,A.inv x/\Br (A.slots.map (look env')) (A.st x).1/\leS (A.st x).2 S'
   |e=>Q e env' S') S/\∀x,A.inv x->Q .normal (A.slots.zip (A.st x).1++env.filter fun p=>!l.contains p.1) (A.st x).2
theorem My{C:Ctx}{l:List Nat}{env:Env}{a a':Act}(he:RepEnv C env a.tmps)(hs:Same l a a'):RepEnv C (env.filter fun p=>!l.contains p.1) a'.tmps:=by
 intro t
 by_cases ht:l.contains t=true
 ·have:look (env.filter fun p=>!l.contains p.1) t=.unk:=by
   have key:∀env:Env,look (env.filter fun p=>!l.contains p.1) t=.unk:=by
    intro env
    induction env with
    |nil=>rfl
    |cons p env ih =>
     simp only[List.filter_cons]
     split
     ·rename_i hp
      simp only[look]
      split
      ·rename_i e;rw[e,ht] at hp;cases hp
      ·exact ih
     ·exact ih
   exact key env
  rw[this];simp[Rep]
 ·rw[hs t (by simpa using ht)]
  rcases Im (fun s=>!l.contains s) env t with h | h<;>rw[h]
  ·simp[Rep]
  ·exact he t
theorem BdP{P : Program}{n : Nat}{dfs : List Deferred}{c : Code}{A : Option LoopAnn}{l : List Nat}{V : APostT -> St -> Prop}{Q : APostT}{env : Env}{S : St}
  (hV:∀Q S,V Q S->AWpK P n dfs l c Q env S) (h:Bl3 A l V Q env S):AWp P n dfs c Q env S:=by
 unfold Bl3 at h
 split at h
 ·exact (hV _ _ h).awp
 ·rename_i A
  split at h
  ·obtain ⟨h1,h2⟩:=h
   intro C F a w k1 k2 k3 k4
   refine wp_mono (hV _ _ h1 C (S.add F) a w k1 k2 k3 (by simpa[St.add] using k4)) ?_
   rintro e a' w' ⟨⟨C',x,env',S',b1,b2,b3,b4,b5,b6,b7⟩,hs⟩
   cases x with
   |normal =>
    obtain ⟨x,hx,hw⟩:=b7
    have hs:=hs (by cases e<;>first | rfl | exact b6.elim)
    refine⟨C',.normal,_,_,b1,Ev b2 (My (k1.mono b1) hs) _ _ hw,b3,b4,?_,b6,h2 x hx⟩
    have:=b5.leS (S':=⟨[],[]⟩) (by simp[Ab.leS,chk,nodupB,leO,leT])
    simpa[St.add] using this
   |_=>exact b7.elim
  ·obtain ⟨h1,h2⟩:=h
   intro C F a w k1 k2 k3 k4
   refine wp_mono (hV _ _ h1 C F a w k1 k2 k3 k4) ?_
   rintro e a' w' ⟨⟨C',x,env',S',b1,b2,b3,b4,b5,b6,b7⟩,hs⟩
   cases x with
   |normal =>
    obtain ⟨x,hx,hw,hl⟩:=b7
    have hs:=hs (by cases e<;>first | rfl | exact b6.elim)
    exact⟨C',.normal,_,_,b1,Ev b2 (My (k1.mono b1) hs) _ _ hw,b3,b4,b5.leS hl,b6,h2 x hx⟩
   |_=>exact⟨C',_,env',S',b1,b2,b3,b4,b5,b6,b7⟩
def BeH(A:Option (LoopAnn×LoopAnn))(l:List Nat)(V:APostT->St->Prop)(W:Prop)(Q:APostT)(env:Env)(S:St):Prop :=
 match A with
 |none=>W
 |some (A, B)=>V (fun e env' _=>match e with
   |.normal=>(∃x,A.inv x/\Br (A.slots.map (look env')) (A.st x).1)\/∃x,B.inv x/\Br (B.slots.map (look env')) (B.st x).1
   |_=>False) ⟨[],[]⟩/\(∀x,A.inv x->Q .normal (A.slots.zip (A.st x).1++env.filter fun p=>!l.contains p.1) S)/\∀x,B.inv x->Q .normal (B.slots.zip (B.st x).1++env.filter fun p=>!l.contains p.1) S
theorem BbM{P : Program}{n : Nat}{dfs : List Deferred}{c : Code}{A : Option (LoopAnn×LoopAnn)}{l : List Nat}{V : APostT -> St -> Prop}{W : Prop}{Q : APostT}{env : Env}{S : St}
  (hV:∀Q S,V Q S->AWpK P n dfs l c Q env S) (hW:W->AWp P n dfs c Q env S) (h:BeH A l V W Q env S):AWp P n dfs c Q env S:=by
 unfold BeH at h
 split at h
 ·exact hW h
 ·rename_i A B
  obtain ⟨h1,h2,h3⟩:=h
  intro C F a w k1 k2 k3 k4
  refine wp_mono (hV _ _ h1 C (S.add F) a w k1 k2 k3 (by simpa[St.add] using k4)) ?_
  rintro e a' w' ⟨⟨C',x,env',S',b1,b2,b3,b4,b5,b6,b7⟩,hs⟩
  cases x with
  |normal =>
   have hs:=hs (by cases e<;>first | rfl | exact b6.elim)
   have hst:Sat C' (S.add F) w':=by
    have:=b5.leS (S':=⟨[],[]⟩) (by simp[Ab.leS,chk,nodupB,leO,leT])
    simpa[St.add] using this
   rcases b7 with ⟨x,hx,hw⟩ | ⟨x,hx,hw⟩
   ·exact⟨C',.normal,_,_,b1,Ev b2 (My (k1.mono b1) hs) _ _ hw,b3,b4,hst,b6,h2 x hx⟩
   ·exact⟨C',.normal,_,_,b1,Ev b2 (My (k1.mono b1) hs) _ _ hw,b3,b4,hst,b6,h3 x hx⟩
  |_=>exact b7.elim
def Bbw(E:Senv)(id:Nat)(d:Bool)(ops:List Oper)(V:APostT->St->Prop)(Q:APostT)(env:Env)(S:St)(W:Prop):Prop :=
 match Ber E id d ops with
 |true=>V (fun e env' _=>match e with
   |.normal=>Br ((Rv E ops).map (look env')) (Bgt E ops env S)
   |_=>False) S/\Q .normal ((Rv E ops).zip (Bgt E ops env S)++env.filter fun p=>!(GQ ops).contains p.1) S
 |false=>W
theorem RS{E : Senv}{n : Nat}{dfs : List Deferred}{c : Code}{id : Nat}{d : Bool}{ops : List Oper}{V : APostT -> St -> Prop}{Q : APostT}{env : Env}{S : St}{W : Prop}
  (hV:∀Q S,V Q S->AWpK E.P n dfs (GQ ops) c Q env S) (hk:Ber E id d ops=true->∀Q S,V Q S->V (fun e env' S'=>S'=S/\Q e env' S) S) (hW:W->AWp E.P n dfs c Q env S) (h:Bbw E id d ops V Q env S W):AWp E.P n dfs c Q env S:=by
 unfold Bbw at h
 split at h
 ·rename_i hm
  obtain ⟨h1,h2⟩:=h
  intro C F a w k1 k2 k3 k4
  refine wp_mono (hV _ _ (hk hm _ _ h1) C F a w k1 k2 k3 k4) ?_
  rintro e a' w' ⟨⟨C',x,env',S',b1,b2,b3,b4,b5,b6,b7⟩,hs⟩
  cases x with
  |normal =>
   obtain ⟨rfl,hw⟩:=b7
   have hs:=hs (by cases e<;>first | rfl | exact b6.elim)
   exact⟨C',.normal,_,_,b1,Ev b2 (My (k1.mono b1) hs) _ _ hw,b3,b4,b5,b6,h2⟩
  |_=>exact b7.2.elim
 ·exact hW h
def Ba6(A:Option LoopAnn)(V:APostT->Prop)(Q:APostT)(env:Env):Prop :=
 match A with
 |none=>V Q
 |some A=>V (fun e env' S'=>match e with
   |.normal=>BcM (CB A.keep env) env'/\∃x,A.inv x/\Br (A.slots.map (look env')) (A.st x).1/\leS (A.st x).2 S'
   |e=>Q e env' S')/\∀x,A.inv x->Q .normal (A.slots.zip (A.st x).1++CB A.keep env) (A.st x).2
theorem RV{P : Program}{n : Nat}{dfs : List Deferred}{c : Code}{A : Option LoopAnn}{V : APostT -> Prop}{Q : APostT}{env : Env}{S : St}
  (hV:∀Q,V Q->AWp P n dfs c Q env S) (h:Ba6 A V Q env):AWp P n dfs c Q env S:=by
 unfold Ba6 at h
 split at h
 ·exact hV _ h
 ·rename_i A
  obtain ⟨h1,h2⟩:=h
  intro C F a w k1 k2 k3 k4
  refine wp_mono (hV _ h1 C F a w k1 k2 k3 k4) ?_
  rintro e a' w' ⟨C',x,env',S',b1,b2,b3,b4,b5,b6,b7⟩
  cases x with
  |normal =>
   obtain ⟨ha,x,hx,hw,hl⟩:=b7
   exact⟨C',.normal,_,_,b1,Ev b2 (MX b2 ha) _ _ hw,b3,b4,b5.leS hl,b6,h2 x hx⟩
  |_=>exact⟨C',_,env',S',b1,b2,b3,b4,b5,b6,b7⟩
def vc(E:Senv):Code->Nat->APostT->Env->St->Prop
 |.skip,_,Q,env,S=>Q .normal env S
 |.label _,_,Q,env,S=>Q .normal env S
 |.exit i,_,Q,env,S=>Q (.exit i) env S
 |.goto i,_,Q,env,S=>Q (.goto i) env S
 |.ret,_,Q,env,S=>Q .ret env S
 |.region id ops d,_,Q,env,S=>Ck (fun env S=>Bbw E id d ops.toList (fun Q S=>match d with
  |true=>Mz E ops.toList (E.ord id).1 (E.ord id).2 (fun e env S=>Q e (prune E.V E.cross env) S) env S
  |false=>chk (ops.toList.all fun o=>En E.n o.dst) (EL E ops.toList (fun e env S=>Q e (prune E.V E.cross env) S) (List.range ops.size) env S)) Q env S <|
  BeH (E.cut2 id env S) (GQ ops.toList) (fun Q S=>match d with
  |true=>Mz E ops.toList (E.ord id).1 (E.ord id).2 (fun e env S=>Q e (prune E.V E.cross env) S) env S
  |false=>chk (ops.toList.all fun o=>En E.n o.dst) (EL E ops.toList (fun e env S=>Q e (prune E.V E.cross env) S) (List.range ops.size) env S))
  (Bl3 (E.cut id env S) (GQ ops.toList) (fun Q S=>match d with
  |true=>Mz E ops.toList (E.ord id).1 (E.ord id).2 (fun e env S=>Q e (prune E.V E.cross env) S) env S
  |false=>chk (ops.toList.all fun o=>En E.n o.dst) (EL E ops.toList (fun e env S=>Q e (prune E.V E.cross env) S) (List.range ops.size) env S)) Q env S) Q env S) (E.gz id) env S
 |.seq x y,b,Q,env,S=>vc E x b (M6 (fun env S=>vc E y b Q env S) Q) env S
 |.cond c x y,b,Q,env,S=>match evD env c with
  |.bool t=>ifB t (vc E x b Q env S) (vc E y b Q env S)
  |_=>False
 |.block id c,_,Q,env,S=>Ba6 (E.bcut id env S) (fun Q=>vc E c id (Bew id Q) env S) Q env
 |.loop c,b,Q,env,S=>match E.unr b with
  |0=>Ck (fun env S=>match E.ann2 b env S with
   |some (A,B)=>BfE A B (fun Q env S=>vc E c b Q env S) Q env S
   |none=>Bfu (E.ann b env S) (fun Q env S=>vc E c b Q env S) Q env S) (E.gh b) env S
  |k+1=>Ts (fun Q env S=>vc E c b Q env S) Q (k+1) env S
 |.scope c,b,Q,env,S=>vc E c b (BnN Q) env S
 |_,_,_,_,_=>False
section
variable {E:Senv} {dfs:List Deferred}
theorem Cf(hT : EnvOk E) :
  ∀(c:Code) (b:Nat) (Q:APostT) (env:Env) (S:St),vc E c b Q env S->AWp E.P E.n dfs c Q env S
 |.skip,_,_,_,_,h=>.skip h
 |.label _,_,_,_,_,h=>.label h
 |.exit _,_,_,_,_,h=>.exit h
 |.goto _,_,_,_,_,h=>.goto h
 |.ret,_,_,_,_,h=>.ret h
 |.region id ops d,_,Q,env0,S0,h=>by
  simp only[vc] at h
  refine .ghost ((B7 _ _ _ h).bind fun env S h=>.none ?_)
  have pr:∀Q S,AWpK E.P E.n dfs (GQ ops.toList) (.region id ops d) (fun e env S=>Q e (prune E.V E.cross env) S) env S->AWpK E.P E.n dfs (GQ ops.toList) (.region id ops d) Q env S:=by
   intro Q S H C F a w h1 h2 h3 h4
   refine wp_mono (H C F a w h1 h2 h3 h4) ?_
   rintro e a' w' ⟨⟨C',x,env',S',b1,b2,b3,b4,b5,b6,b7⟩,hs⟩
   exact⟨⟨C',x,_,S',b1,b2.sub (TF E.V E.cross env'),b3,b4,b5,b6,b7⟩,hs⟩
  have one : ∀(Q : APostT) (S : St), (match d with
    |true=>Mz E ops.toList (E.ord id).1 (E.ord id).2 (fun e env S=>Q e (prune E.V E.cross env) S) env S
    |false=>chk (ops.toList.all fun o=>En E.n o.dst) (EL E ops.toList (fun e env S=>Q e (prune E.V E.cross env) S) (List.range ops.size) env S))->AWpK E.P E.n dfs (GQ ops.toList) (.region id ops d) Q env S:=by
   intro Q S h
   cases d with
   |true =>
    have:=Beh (dfs:=dfs) (id:=id) hT h
    exact pr Q S (by simpa using this)
   |false =>
    obtain ⟨hc,h⟩:=Ba.1 h
    refine pr Q S ?_
    intro C F a w h1 h2 h3 h4
    refine wp_region (BcS (by have:=BgF ops.toList;simpa using this) _ _ _ (.refl _ _) ?_)
    have:=GH (dfs:=dfs) hT hc (List.range ops.size) C C F env S a w (.refl C) h1 h2 h3 h4 h
    simpa using this
  refine RS one (fun hm Q S hv=>?_) (fun h=>BbM one (fun h=>BdP one h) h) h
  unfold Ber at hm
  rw[Bool.and_eq_true] at hm
  cases d with
  |true =>
   have h2:(E.ord id).2=[]:=by simpa using hm.2
   simp only[h2] at hv ⊢
   exact BhQ hv
  |false =>
   obtain ⟨hc,hv⟩:=Ba.1 hv
   refine Ba.2 ⟨hc,?_⟩
   have hall:ops.toList.all (fun o=>Uc E o.op)=true:=hm.2
   exact OP (fun i o ho=>List.all_eq_true.1 hall o (List.mem_of_getElem? ho)) _ _ hv
 |.seq x y,b,Q,env,S,h=>by
  simp only[vc] at h
  refine .seq ((Cf hT x b _ env S h).mono ?_)
  intro e env S hq
  cases e with
  |normal=>exact Cf hT y b Q env S hq
  |_=>exact hq
 |.cond c x y,b,Q,env,S,h=>by
  simp only[vc] at h
  split at h
  ·have h:=C7 h
   exact .cond ‹_› (fun e=>Cf hT x b Q env S (by first | exact h.1 e | exact h.2 e)) (fun e=>Cf hT y b Q env S (by first | exact h.1 e | exact h.2 e))
  ·exact h.elim
 |.block id c,_,Q,env,S,h=>by
  simp only[vc] at h
  exact RV (fun Q h=>.block (Cf hT c id _ env S h)) h
 |.loop c,b,Q,env,S,h=>by
  simp only[vc] at h
  split at h
  ·refine .ghost ((B7 _ _ _ h).bind fun env S h=>.none ?_)
   split at h
   ·exact RZ (fun Q env S h=>Cf hT c b Q env S h) h
   ·exact BbK (fun Q env S h=>Cf hT c b Q env S h) h
  ·exact Wt (fun Q env S h=>Cf hT c b Q env S h) h
 |.rangeFunc ..,_,_,_,_,h=>h.elim
 |.scope c,b,Q,env,S,h=>by
  simp only[vc] at h
  have:=Cf hT c b _ env S h
  intro C F a w h1 h2 h3 h4
  refine wp_scope_straight (wp_mono (this C F a w h1 h2 h3 h4) ?_)
  rintro e a' w' ⟨C',x,env',S',b1,b2,b3,b4,b5,b6,b7⟩
  cases e<;>cases x<;>simp only[RepExit] at b6
  case goto.goto=>exact b7.elim
  all_goals exact⟨C',_,env',S',b1,b2,b3,b4,b5,(by simp only[RepExit];try exact b6),b7⟩
 |.refuse _,_,_,_,_,h=>h.elim
end
def Bbt(tt:Nat->Option TI)(r:ResultVar)(env:Env)(S:St):Option D :=
 match r with
 |.tmp t=>some (look env t)
 |.cell t ty=>match look env t with
  |.ref b _ o=>match tt ty with
   |some ti=>match Bt S.objs b with
    |some (_,.cells ds)=>if o+Ew ti<=ds.length then some (Ch ti ds o) else none
    |_=>none
   |none=>none
  |_=>none
def Eg:List ResultVar->Env->St->Prop
 | [],_,_=>True
 |.tmp _::rs,env,S=>Eg rs env S
 |.cell t _::rs,env,S=>match look env t with
  |.ref k x _=>match Bt S.objs k with
   |some (y,_)=>y=x/\Eg rs env S
   |none=>False
  |_=>False
def G2(tt:Nat->Option TI):List ResultVar->Env->St->Option (List D)
 | [],_,_=>some []
 |r::rs,env,S=>match Bbt tt r env S with
  |some d=>match G2 tt rs env S with
   |some ds=>some (d::ds)
   |none=>none
  |none=>none
def RR:List D->D
 | [d]=>d
 |ds=>.tup ds
def BbB(A:FnSpec)(x:A.β)(tt:Nat->Option TI)(rs:List ResultVar)(env:Env)(S:St):Prop :=
 match G2 tt rs env S with
 |some ds=>Eg rs env S/\∃y,A.post x y/\(match A.res x y with
  |.ret d=>Bg (RR ds) d
  |.pan _=>False)/\leS (A.out x y) S
 |none=>False
def BoW(A:FnSpec)(x:A.β)(tt:Nat->Option TI)(gr:List Place)(rs:List ResultVar):APostT:=fun e env S=>match e with
 |.normal=>Ck (fun env S=>BbB A x tt rs env S) gr env S
 |.ret=>Ck (fun env S=>BbB A x tt rs env S) gr env S
 |.panic d=>∃y,A.post x y/\(match A.res x y with
  |.ret _=>False
  |.pan d'=>Bg d d')/\leS (A.out x y) S
 |_=>False
def Rl(tmps:Array Value):ResultVar->Sem Value
 |.tmp t=>pure (tmps.getD t undef)
 |.cell a t=>do loadVar t (<- asAddr (tmps.getD a undef))
theorem BeL{P : Program}{tt : Nat -> Option TI}{C : Ctx}{F S : St}{w : World}{env : Env}{tmps : Array Value}(hT : TabOk P tt)(he : RepEnv C env tmps)(hs : Sat C (S.add F) w){r : ResultVar}{d : D}
  (h:Bbt tt r env S=some d) (heq:Eg [r] env S):∃v,(Rl tmps r).run P w=.ok v w/\Rep C d v:=by
 cases r with
 |tmp t =>
  simp only[Bbt,Option.some.injEq] at h;subst h
  exact⟨_,rfl,he t⟩
 |cell t ty =>
  simp only[Bbt] at h
  split at h
  ·rename_i b o hl
   split at h
   ·rename_i ti ht
    split at h
    ·rename_i ds hg
     split at h
     ·rename_i hn
      simp only[Option.some.injEq] at h;subst h
      have hr:=he t
      simp only[Eg,hl,hg] at heq
      obtain ⟨rfl,_⟩:=heq
      rw[hl] at hr
      simp only[Rep] at hr
      have hn':if C6 ti.desc then ti.size<=(ds.drop o).length else 0<(ds.drop o).length:=by
       simp only[Ew] at hn
       split at hn<;>simp_all<;>omega
      obtain ⟨u,h1,h2⟩:=Eo (P:=P) hT ht (Gy hs hg o) hn'
      rw[Of] at h2
      refine⟨u,?_,h2⟩
      simp[Rl,hr,asAddr,h1]
     ·cases h
    ·cases h
   ·cases h
  ·cases h
theorem Wu{P:Program}{tt:Nat->Option TI}{C:Ctx}{F S:St}{w:World}{env:Env}{tmps:Array Value}(hT:TabOk P tt)(he:RepEnv C env tmps)(hs:Sat C (S.add F) w):∀ {rs:List ResultVar} {ds:List D},
  G2 tt rs env S=some ds->Eg rs env S->∃vs:List Value,(rs.mapM (Rl tmps)).run P w=.ok vs w/\RepL C ds vs
 | [],ds,h,_=>by simp only[G2,Option.some.injEq] at h;subst h;exact⟨[],by simp,by simp[RepL]⟩
 |r::rs,ds,h,heq=>by
  have h0:Eg [r] env S/\Eg rs env S:=by
   cases r with
   |tmp t=>exact⟨trivial,heq⟩
   |cell t ty =>
    simp only[Eg] at heq ⊢
    split at heq
    ·split at heq
     ·exact⟨⟨heq.1,trivial⟩,heq.2⟩
     ·exact heq.elim
    ·exact heq.elim
  simp only[G2] at h
  split at h
  ·rename_i d hd
   split at h
   ·rename_i ds' hds
    simp only[Option.some.injEq] at h;subst h
    obtain ⟨v,h1,h2⟩:=BeL (P:=P) hT he hs hd h0.1
    obtain ⟨vs,h3,h4⟩:=Wu hT he hs hds h0.2
    refine⟨v::vs,?_,by simp only[RepL];exact⟨v,vs,rfl,h2,h4⟩⟩
    simp[List.mapM_cons,h1,h3]
   ·cases h
  ·cases h
theorem Ib{P : Program}{tt : Nat -> Option TI}{C : Ctx}{F S : St}{w : World}{env : Env}{tmps : Array Value}(hT : TabOk P tt)(he : RepEnv C env tmps)(hs : Sat C (S.add F) w){fn : Func}{ds : List D}
  (h:G2 tt fn.results.toList env S=some ds) (heq:Eg fn.results.toList env S):∃v,(results fn tmps).run P w=.ok v w/\Rep C (RR ds) v:=by
 obtain ⟨vs,h1,h2⟩:=Wu (P:=P) hT he hs h heq
 have hf:results fn tmps=(do let vs <- fn.results.mapM (Rl tmps);pure (if h:vs.size=1 then vs[0] else .tuple vs)):=by
  unfold results
  congr 1
 have hm:(fn.results.mapM (Rl tmps)).run P w=.ok vs.toArray w:=by
  rw[Array.mapM_eq_mapM_toList]
  simp only[Sem.run_map,h1,Result.andThen_ok]
 have hr:(results fn tmps).run P w=.ok (if h:vs.toArray.size=1 then vs.toArray[0] else .tuple vs.toArray) w:=by
  rw[hf]
  simp only[Sem.run_bind,hm,Result.andThen_ok,Sem.run_pure]
 refine⟨_,hr,?_⟩
 have hl:=RepL.length h2
 cases ds with
 |nil =>
  simp only[RepL] at h2;subst h2
  simp[RR,Rep,RepL]
 |cons d r =>
  cases r with
  |nil =>
   simp only[RepL] at h2
   obtain ⟨x,xs,rfl,hx,rfl⟩:=h2
   simpa[RR] using hx
  |cons d' r =>
   have hne:vs.toArray.size≠1:=by simp[hl]
   rw[dif_neg hne]
   simp only[RR,Rep]
   exact⟨_,rfl,by simpa using h2⟩
def BV:Nat->List D->Env
 |_,[]=>[]
 |i,d::ds=>(i,d)::BV (i+1) ds
theorem If{C:Ctx}:∀ {ds:List D} {vs:List Value} (k:Nat),RepL C ds vs->∀t,k<=t->Rep C (look (BV k ds) t) (vs.getD (t-k) undef)\/look (BV k ds) t=.unk
 | [],vs,k,_,t,_=>.inr rfl
 |d::ds,vs,k,h,t,ht=>by
  simp only[RepL] at h
  obtain ⟨x,xs,rfl,r1,r2⟩:=h
  simp only[BV,look]
  split
  ·rename_i e;subst e;left;simpa using r1
  ·rename_i e
   rcases If (k+1) r2 t (by omega) with h' | h'
   ·left
    have:t-k=(t-(k+1))+1:=by omega
    rw[this];simpa using h'
   ·exact .inr h'
theorem Bic{P : Program}{tt : Nat -> Option TI}{gr : List Place}{f n : Nat}{fn : Func}{c : Code}{A : FnSpec}{x : A.β}(hT : TabOk P tt)(hf : P.funcs[f]? =some fn)(hb : fn.body=some c)
  (hname : (fn.name == "runtime.NumGoroutine") = false) (hn : fn.ntmps = n) (hl : (A.args x).length ≤ n)
  (h:AWp P n [] c (BoW A x tt gr fn.results.toList) (BV 0 (A.args x)) (A.st x)):ACalls P f (A.args x) (A.st x) (SpecR A x):=by
 refine⟨⟨fn,hf,hname,by simp[hb]⟩,fun C F args w ha hs=>?_⟩
 have hal:args.size=(A.args x).length:=by have:=RepL.length ha;simpa using this
 have hret : ∀ {C' : Ctx} {env' : Env} {S' : St} {a' : Act} {w' : World}, C.le C' -> RepEnv C' env' a'.tmps -> Sat C' (S'.add F) w' -> Ck (fun env S=>BbB A x tt fn.results.toList env S) gr env' S' ->
   ∃v,(results fn a'.tmps).run P w'=.ok v w'/\∃C' r S',C.le C'/\Sat C' (S'.add F) w'/\RepEnd C' r (.returned v)/\SpecR A x r S':=by
  intro C0 env0 S0 a' w' b1 b2 b5 b7
  obtain ⟨C',env',S',b0,b2,b5,b7⟩:=B7 _ _ _ b7 C0 F a'.tmps w' b2 b5
  have b1:=b1.trans b0
  unfold BbB at b7
  split at b7
  ·rename_i ds' hds
   obtain ⟨q0,y,q1,q2,q3⟩:=b7
   split at q2
   ·rename_i d hd
    obtain ⟨v,r1,r2⟩:=Ib (P:=P) hT b2 b5 hds q0
    exact⟨v,r1,C',.ret d,_,b1,b5.leS q3,Bq _ _ q2 _ _ r2,y,q1,hd.symm,rfl⟩
   ·exact q2.elim
  ·exact b7.elim
 refine calls_of_wp hf hb (wp_mono (h C F _ w ?_ ?_ rfl hs) ?_)
 ·intro t
  rcases If 0 ha t (Nat.zero_le _) with h' | h'
  ·by_cases ht:t<args.size
   ·have:(args++Array.replicate (fn.ntmps-args.size) undef).getD t undef=args.toList.getD (t-0) undef:=by
     simp[Array.getD_eq_getD_getElem?,Array.getElem?_append_left ht,List.getD_eq_getElem?_getD]
    rw[this];exact h'
   ·have hu:look (BV 0 (A.args x)) t=.unk:=by
     have key:∀(l:List D) (k t:Nat),k+l.length<=t->look (BV k l) t=.unk:=by
      intro l
      induction l with
      |nil=>intros;rfl
      |cons d l ih=>intro k t ht;simp only[List.length_cons] at ht;simp only[BV,look];rw[if_neg (by omega)];exact ih (k+1) t (by omega)
     exact key _ 0 t (by omega)
    rw[hu];simp[Rep]
  ·rw[h'];simp[Rep]
 ·simp only[Array.size_append,Array.size_replicate];omega
 ·rintro e a' w' ⟨C',x',env',S',b1,b2,b3,b4,b5,b6,b7⟩
  cases e<;>cases x'<;>simp only[RepExit] at b6<;>simp only[BoW] at b7
  case normal.normal =>
   obtain ⟨v,r1,r2⟩:=hret b1 b2 b5 b7
   exact⟨b4,v,r1,r2⟩
  case ret.ret =>
   obtain ⟨v,r1,r2⟩:=hret b1 b2 b5 b7
   exact⟨b4,v,r1,r2⟩
  case panic.panic ch d =>
   obtain ⟨y,q1,q2,q3⟩:=b7
   split at q2
   ·exact q2.elim
   ·rename_i d' hd
    obtain ⟨v,e,hv⟩:=b6
    exact⟨b4,C',.pan d',_,b1,b5.leS q3,⟨v,e,Bq _ _ q2 _ _ hv⟩,y,q1,hd.symm,rfl⟩
  all_goals exact b7.elim
theorem Bk{X T:Prop}(h:X=T)(t:T):X:=h ▸ t
theorem Bf{E : Senv}{f : Nat}{fn : Func}{c : Code}{A : FnSpec}{x : A.β}(hE : EnvOk E)(hf : E.P.funcs[f]? =some fn)(hb : fn.body=some c)
  (hname : (fn.name == "runtime.NumGoroutine") = false) (hn : fn.ntmps = E.n) (hl : (A.args x).length ≤ E.n)
  (h:vc E c 0 (BoW A x E.tt E.gr fn.results.toList) (BV 0 (A.args x)) (A.st x)):ACalls E.P f (A.args x) (A.st x) (SpecR A x) :=
 Bic hE.tab hf hb hname hn hl (Cf hE c 0 _ _ _ h)
def Bh7(R:AEnd->St->Prop)(tt:Nat->Option TI)(rs:List ResultVar):APostT:=fun e env S=>match e with
 |.normal=>match G2 tt rs env S with
  |some ds=>Eg rs env S/\R (.ret (RR ds)) S
  |none=>False
 |.ret=>match G2 tt rs env S with
  |some ds=>Eg rs env S/\R (.ret (RR ds)) S
  |none=>False
 |.panic d=>R (.pan d) S
 |_=>False
theorem Bd3{P : Program}{tt : Nat -> Option TI}{f n : Nat}{fn : Func}{c : Code}{ds : List D}{S : St}{R : AEnd -> St -> Prop}(hT : TabOk P tt)(hf : P.funcs[f]? =some fn)(hb : fn.body=some c)
  (hname : (fn.name == "runtime.NumGoroutine") = false) (hn : fn.ntmps = n) (hl : ds.length ≤ n)
  (h:AWp P n [] c (Bh7 R tt fn.results.toList) (BV 0 ds) S):ACalls P f ds S R:=by
 refine⟨⟨fn,hf,hname,by simp[hb]⟩,fun C F args w ha hs=>?_⟩
 have hal:args.size=ds.length:=by have:=RepL.length ha;simpa using this
 have hret : ∀ {C' : Ctx} {env' : Env} {S' : St} {a' : Act} {w' : World}, C.le C' -> RepEnv C' env' a'.tmps -> Sat C' (S'.add F) w' -> (match G2 tt fn.results.toList env' S' with
    |some ds=>Eg fn.results.toList env' S'/\R (.ret (RR ds)) S'
    |none=>False) ->
   ∃v,(results fn a'.tmps).run P w'=.ok v w'/\∃C' r S',C.le C'/\Sat C' (S'.add F) w'/\RepEnd C' r (.returned v)/\R r S':=by
  intro C0 env0 S0 a' w' b1 b2 b5 b7
  split at b7
  ·rename_i ds' hds
   obtain ⟨v,r1,r2⟩:=Ib (P:=P) hT b2 b5 hds b7.1
   exact⟨v,r1,C0,.ret _,_,b1,b5,r2,b7.2⟩
  ·exact b7.elim
 refine calls_of_wp hf hb (wp_mono (h C F _ w ?_ ?_ rfl hs) ?_)
 ·intro t
  rcases If 0 ha t (Nat.zero_le _) with h' | h'
  ·by_cases ht:t<args.size
   ·have:(args++Array.replicate (fn.ntmps-args.size) undef).getD t undef=args.toList.getD (t-0) undef:=by
     simp[Array.getD_eq_getD_getElem?,Array.getElem?_append_left ht,List.getD_eq_getElem?_getD]
    rw[this];exact h'
   ·have hu:look (BV 0 ds) t=.unk:=by
     have key:∀(l:List D) (k t:Nat),k+l.length<=t->look (BV k l) t=.unk:=by
      intro l
      induction l with
      |nil=>intros;rfl
      |cons d l ih=>intro k t ht;simp only[List.length_cons] at ht;simp only[BV,look];rw[if_neg (by omega)];exact ih (k+1) t (by omega)
     exact key _ 0 t (by omega)
    rw[hu];simp[Rep]
  ·rw[h'];simp[Rep]
 ·simp only[Array.size_append,Array.size_replicate];omega
 ·rintro e a' w' ⟨C',x',env',S',b1,b2,b3,b4,b5,b6,b7⟩
  cases e<;>cases x'<;>simp only[RepExit] at b6<;>simp only[Bh7] at b7
  case normal.normal =>
   obtain ⟨v,r1,r2⟩:=hret b1 b2 b5 b7
   exact⟨b4,v,r1,r2⟩
  case ret.ret =>
   obtain ⟨v,r1,r2⟩:=hret b1 b2 b5 b7
   exact⟨b4,v,r1,r2⟩
  case panic.panic ch d =>
   obtain ⟨v,e,hv⟩:=b6
   exact⟨b4,C',.pan d,_,b1,b5,⟨v,e,hv⟩,b7⟩
  all_goals exact b7.elim
structure Frm where
 fn:Func
 n:Nat
 V:Nat
 cross:List Nat
 ord:Nat->List Nat×List Nat
 unr:Nat->Nat:=fun _=>5000
 own:Nat->Bool:=fun _=>false
 mg:Nat->Nat:=fun _=>0
def Og:List (Nat×Frm)->Nat->Option Frm
 | [],_=>none
 |(s,i)::r,t=>match Nat.beq s t with
  |true=>some i
  |false=>Og r t
def FrmOk(P : Program)(fr : Nat → Option Frm) : Prop := ∀ k A, fr k = some A → P.funcs[k]? = some A.fn ∧ A.fn.ntmps = A.n ∧ (A.fn.name == "runtime.NumGoroutine") = false
theorem FrmOk.nil(P:Program):FrmOk P (Og []):=by intro k A h;cases h
theorem FrmOk.cons{P : Program}{l : List (Nat × Frm)}{k : Nat}{A : Frm}(h1 : P.funcs[k]? = some A.fn)(h2 : A.fn.ntmps = A.n)(h3 : (A.fn.name == "runtime.NumGoroutine") = false)(h : FrmOk P (Og l)) : FrmOk P (Og ((k, A) :: l)) := by
 intro j B hj
 simp only[Og] at hj
 split at hj
 ·rename_i e
  have e:=Nat.eq_of_beq_eq_true e
  subst e
  injection hj with hj;subst hj
  exact⟨h1,h2,h3⟩
 ·exact h j B hj
theorem ACalls.to{P:Program}{k:FuncId}{ds:List D}{S:St}{R R':AEnd->St->Prop}(h:ACalls P k ds S R)(hr:∀r S',R r S'->∃S'',StTo S' S''/\R' r S''):ACalls P k ds S R' :=
 ⟨h.1,fun C F args w ha hs=>(h.2 C F args w ha hs).mono fun _ _ ⟨C',r,_S',h1,h2,h3,h4⟩=>let ⟨S'',q1,q2⟩:=hr _ _ h4;⟨C',r,S'',h1,q1 _ _ _ h2,h3,q2⟩⟩
theorem ACalls.from{P:Program}{k:FuncId}{ds:List D}{S S0:St}{R:AEnd->St->Prop}(h:ACalls P k ds S0 R)(hs:StTo S S0):ACalls P k ds S R :=
 ⟨h.1,fun C F args w ha h0=>h.2 C F args w ha (hs _ _ _ h0)⟩
abbrev CN (α:Type) (a b:α):Prop:=a=b
theorem Oq(m:Mode):BE m m:=by cases m<;>simp[BE]
mutual
theorem Bd:∀(d:D),Bg d d
 |.unk=>by simp[Bg]
 |.bool b=>by simp[Bg]
 |.int k n=>by simp[Bg,Ba,kEq]
 |.str s=>by simp[Bg]
 |.nilp=>by simp[Bg]
 |.ref _ x o=>by simp[Bg,Ba]
 |.pt row=>by simp[Bg]
 |.sl w n f m=>by simp[Bg,Ba,Oq]
 |.ms _ x o len cap w=>by simp[Bg,Ba]
 |.vs _ x len cap w=>by simp[Bg,Ba]
 |.er _ x i w fo=>by simp[Bg,Ba]
 |.nmap=>by simp[Bg]
 |.map _ x=>by simp[Bg]
 |.fn f a c=>by simp[Bg]
 |.nilf=>by simp[Bg]
 |.iface t d=>by simp only[Bg];exact⟨trivial,Bd d⟩
 |.nili=>by simp[Bg]
 |.agg cs=>by simp only[Bg];exact Bj cs
 |.tup cs=>by simp only[Bg];exact Bj cs
theorem Bj:∀(ds:List D),Br ds ds
 | []=>by simp[Br]
 |d::ds=>by simp only[Br];exact⟨Bd d,Bj ds⟩
end
theorem Bh{b:Bool}{X Y:Prop}:ifB b X Y↔(b=true->X)/\(b=false->Y):=by cases b<;>simp[ifB]
def ON:List (Nat×Nat×AObj)->List (Nat×Nat×AObj)->Prop
 | [],[]=>True
 |(_,x,o)::r,(_,y,o')::r'=>x=y/\CT o o'/\ON r r'
 |_,_=>False
def T9:List (Nat×Nat)->List (Nat×Nat)->Prop
 | [],[]=>True
 |(_,t)::r,(_,t')::r'=>t=t'/\T9 r r'
 |_,_=>False
def T0(S S':St):Prop:=ON S.objs S'.objs/\T9 S.toks S'.toks
theorem Uq:∀ {l l':List (Nat×Nat×AObj)},ON l l'->l.map (·.2.1)=l'.map (·.2.1)
 | [],[],_=>rfl
 |(_,x,o)::r,(_,y,o')::r',h=>by
  obtain ⟨h1,_,h3⟩:=h
  simp only[List.map_cons,Uq h3,h1]
 | [],_::_,h=>h.elim
 |_::_,[],h=>h.elim
theorem BcW:∀ {l l':List (Nat×Nat×AObj)},ON l l'->∀p,p∈l'->∃q,q∈l/\q.2.1=p.2.1/\CT q.2.2 p.2.2
 | [],[],_,_,hp=>by cases hp
 |(k,x,o)::r,(_,y,o')::r',h,p,hp=>by
  obtain ⟨h1,h2,h3⟩:=h
  rcases List.mem_cons.1 hp with rfl | hp
  ·exact⟨(k,x,o),by simp,h1,h2⟩
  ·obtain ⟨q,q1,q2,q3⟩:=BcW h3 p hp
   exact⟨q,by simp[q1],q2,q3⟩
 | [],_::_,h,_,_=>h.elim
 |_::_,[],h,_,_=>h.elim
theorem BaD:∀ {l l':List (Nat×Nat)},T9 l l'->l.map (·.2)=l'.map (·.2)
 | [],[],_=>rfl
 |(_,x)::r,(_,y)::r',h=>by
  obtain ⟨h1,h3⟩:=h
  simp only[List.map_cons,BaD h3,h1]
 | [],_::_,h=>h.elim
 |_::_,[],h=>h.elim
theorem Sat.pos{C:Ctx}{S S' F:St}{w:World}(H:Sat C (S.add F) w)(h:T0 S S'):Sat C (S'.add F) w:=by
 obtain ⟨hO,hT⟩:=h
 have b1:=Uq hO
 have b2:=BaD hT
 have mem:∀p,p∈(S'.add F).objs->∃q,q∈(S.add F).objs/\q.2.1=p.2.1/\(CT q.2.2 p.2.2\/q=p):=by
  intro p hp
  rcases List.mem_append.1 hp with hp | hp
  ·obtain ⟨q,q1,q2,q3⟩:=BcW hO p hp
   exact⟨q,by simp[St.add,q1],q2,.inl q3⟩
  ·exact⟨p,by simp[St.add,hp],rfl,.inr rfl⟩
 have tk:∀t,t∈(S'.add F).toks->∃s,s∈(S.add F).toks/\s.2=t.2:=by
  intro t ht
  rcases List.mem_append.1 ht with ht | ht
  ·have:t.2∈S.toks.map (·.2):=by rw[b2];exact List.mem_map.2 ⟨t,ht,rfl⟩
   obtain ⟨s,hs,e⟩:=List.mem_map.1 this
   exact⟨s,by simp[St.add,hs],e⟩
  ·exact⟨t,by simp[St.add,ht],rfl⟩
 refine⟨H.below,H.imm,H.one,?_,?_,?_,?_,H.tfin,?_⟩
 ·intro p hp
  obtain ⟨q,q1,q2,q3⟩:=mem p hp
  obtain ⟨c1,c2,c3⟩:=H.objs q q1
  rw[q2] at c1 c2 c3
  rcases q3 with q3 | rfl
  ·exact⟨c1,c2,Ww q3 c3⟩
  ·exact⟨c1,c2,c3⟩
 ·have:=H.nodup
  simp only[St.add,List.map_append,b1] at this ⊢
  exact this
 ·intro t ht
  obtain ⟨s,s1,s2⟩:=tk t ht
  obtain ⟨x,k1,k2,k3⟩:=H.toks s s1
  rw[s2] at k1 k2
  refine⟨x,k1,k2,fun p hp=>?_⟩
  obtain ⟨q,q1,q2,_⟩:=mem p hp
  rw[<- q2];exact k3 q q1
 ·have:=H.tnodup
  simp only[St.add,List.map_append,b2] at this ⊢
  exact this
 ·intro t t' b n c wd b' n' c' wd' ht ht' hne e e'
  obtain ⟨s,s1,s2⟩:=tk t ht
  obtain ⟨s',s1',s2'⟩:=tk t' ht'
  exact H.tdist s s' b n c wd b' n' c' wd' s1 s1' (by rw[s2,s2'];exact hne) (by rw[s2];exact e) (by rw[s2'];exact e')
def Ii:AEnd->AEnd->Prop
 |.ret d,.ret d'=>Bg d d'
 |.pan d,.pan d'=>Bg d d'
 |_,_=>False
theorem Bcc{C:Ctx}{r r':AEnd}{e:Ending}(h:Ii r r')(H:RepEnd C r e):RepEnd C r' e:=by
 cases r<;>cases r'<;>cases e<;>simp only[Ii,RepEnd] at h H ⊢
 ·exact Bq _ _ h _ _ H
 ·obtain ⟨v,e,hv⟩:=H
  exact⟨v,e,Bq _ _ h _ _ hv⟩
theorem ACalls.respec{P : Program}{f : FuncId}{A A' : FnSpec}{x : A.β}{x' : A'.β}(h : ACalls P f (A.args x) (A.st x) (SpecR A x))(ha : Br (A'.args x') (A.args x))(hs : T0 (A'.st x') (A.st x))
  (hp:∀y,A.post x y->∃y',A'.post x' y'/\Ii (A.res x y) (A'.res x' y')/\T0 (A.out x y) (A'.out x' y')):ACalls P f (A'.args x') (A'.st x') (SpecR A' x'):=by
 refine⟨h.1,fun C F args w hr hsat=>?_⟩
 refine (h.2 C F args w (B5 _ _ ha _ _ hr) (hsat.pos hs)).mono ?_
 rintro e w' ⟨C',r,S',h1,h2,h3,y,hy,rfl,rfl⟩
 obtain ⟨y',q1,q2,q3⟩:=hp y hy
 exact⟨C',_,_,h1,h2.pos q3,Bcc q2 h3,y',q1,rfl,rfl⟩
def FnSpec.fits(A:FnSpec)(x:A.β)(p:Prop):FnSpec where
 β:=A.β
 α:=A.α
 args:=A.args
 st:=A.st
 pre:=fun y=>p/\A.pre y
 post:=A.post
 res:=A.res
 out:=A.out
 fit:=some x
theorem ConOk.plain{P : Program}{k : Nat}{ds : List D}{S : St}{A : FnSpec}(h1 : ∀y, A.pre y -> ACalls P k (A.args y) (A.st y) (SpecR A y))(h : A.fit=none)(h' : A.all=false) :
  (∀y,A.pre y->ACalls P k (A.args y) (A.st y) (SpecR A y))/\(∀y,A.fit=some y->A.pre y->Br ds (A.args y)/\leS (A.st y) S)/\(A.all=true->∀y,A.pre y->Br ds (A.args y)/\A.st y=S) :=
 ⟨h1,fun y hy=>(by rw[h] at hy;cases hy),fun h0=>(by rw[h'] at h0;cases h0)⟩
theorem ConOk.whole{P : Program}{k : Nat}{ds : List D}{S : St}{A : FnSpec}(h1 : ∀y, A.pre y -> ACalls P k (A.args y) (A.st y) (SpecR A y))(h : A.fit=none)(h2 : ∀y, A.pre y -> Br ds (A.args y) /\ A.st y=S) :
  (∀y,A.pre y->ACalls P k (A.args y) (A.st y) (SpecR A y))/\(∀y,A.fit=some y->A.pre y->Br ds (A.args y)/\leS (A.st y) S)/\(A.all=true->∀y,A.pre y->Br ds (A.args y)/\A.st y=S) :=
 ⟨h1,fun y hy=>(by rw[h] at hy;cases hy),fun _=>h2⟩
theorem StTo.perm{S S':St}{r1:List (Nat×AObj)}{r2:List Nat}(h1:List.Perm (S'.objs.map (·.2)++r1) (S.objs.map (·.2)))(h2:List.Perm (S'.toks.map (·.2)++r2) (S.toks.map (·.2))):StTo S S':=by
 intro C F w H
 obtain ⟨q1,q2,q3,q4,q5,q6,q7,q8,q9⟩:=H
 have ho:∀p,p∈(S'.add F).objs->∃q,q∈(S.add F).objs/\q.2=p.2:=by
  intro p hp
  rcases List.mem_append.1 hp with hp | hp
  ·have:p.2∈S.objs.map (·.2):=h1.subset (List.mem_append.2 (.inl (List.mem_map.2 ⟨p,hp,rfl⟩)))
   obtain ⟨q,hq,e⟩:=List.mem_map.1 this
   exact⟨q,List.mem_append.2 (.inl hq),e⟩
  ·exact⟨p,List.mem_append.2 (.inr hp),rfl⟩
 have ht:∀p,p∈(S'.add F).toks->∃q,q∈(S.add F).toks/\q.2=p.2:=by
  intro p hp
  rcases List.mem_append.1 hp with hp | hp
  ·have:p.2∈S.toks.map (·.2):=h2.subset (List.mem_append.2 (.inl (List.mem_map.2 ⟨p,hp,rfl⟩)))
   obtain ⟨q,hq,e⟩:=List.mem_map.1 this
   exact⟨q,List.mem_append.2 (.inl hq),e⟩
  ·exact⟨p,List.mem_append.2 (.inr hp),rfl⟩
 have n1:((S'.add F).objs.map (·.2.1)).Nodup:=by
  have e1:((S'.objs.map (·.2.1)++r1.map (·.1))++F.objs.map (·.2.1)).Nodup:=by
   have hp:((S'.objs.map (·.2.1)++r1.map (·.1))++F.objs.map (·.2.1)).Perm ((S.add F).objs.map (·.2.1)):=by
    have:=(h1.map (·.1)).append_right (F.objs.map (·.2.1))
    simpa[St.add,List.map_map,Function.comp_def] using this
   exact hp.nodup_iff.2 q5
  rw[List.append_assoc] at e1
  have hs:List.Sublist ((S'.add F).objs.map (·.2.1)) (S'.objs.map (·.2.1)++(r1.map (·.1)++F.objs.map (·.2.1))):=by
   simp only[St.add,List.map_append]
   exact List.Sublist.append (List.Sublist.refl _) (List.sublist_append_right _ _)
  exact hs.nodup e1
 have n2:((S'.add F).toks.map (·.2)).Nodup:=by
  have e1:((S'.toks.map (·.2)++r2)++F.toks.map (·.2)).Nodup:=by
   have hp:((S'.toks.map (·.2)++r2)++F.toks.map (·.2)).Perm ((S.add F).toks.map (·.2)):=by
    have:=h2.append_right (F.toks.map (·.2))
    simpa[St.add] using this
   exact hp.nodup_iff.2 q7
  rw[List.append_assoc] at e1
  have hs:List.Sublist ((S'.add F).toks.map (·.2)) (S'.toks.map (·.2)++(r2++F.toks.map (·.2))):=by
   simp only[St.add,List.map_append]
   exact List.Sublist.append (List.Sublist.refl _) (List.sublist_append_right _ _)
  exact hs.nodup e1
 refine⟨q1,q2,q3,fun p hp=>?_,n1,fun t htm=>?_,n2,q8,fun t t' b n c wd b' n' c' wd' m1 m2 hne e1 e2=>?_⟩
 ·obtain ⟨q,hq,e⟩:=ho p hp
  rw[<- e];exact q4 q hq
 ·obtain ⟨q,hq,e⟩:=ht t htm
  obtain ⟨x,r1,r2,r3⟩:=q6 q hq
  rw[e] at r1 r2
  refine⟨x,r1,r2,fun p hp=>?_⟩
  obtain ⟨q',hq',e'⟩:=ho p hp
  rw[<- e'];exact r3 q' hq'
 ·obtain ⟨s,hs,es⟩:=ht t m1
  obtain ⟨s',hs',es'⟩:=ht t' m2
  exact q9 s s' b n c wd b' n' c' wd' hs hs' (by rw[es,es'];exact hne) (by rw[es];exact e1) (by rw[es'];exact e2)
theorem StTo.trans{A B C:St}(h:StTo A B)(k:StTo B C):StTo A C:=fun X F w H=>k X F w (h X F w H)
def FnSpec.over(A:FnSpec)(S:St)(p:A.β->Prop):FnSpec where
 β:=A.β
 α:=A.α
 args:=A.args
 st:=fun _=>S
 pre:=fun x=>p x/\A.pre x
 post:=A.post
 res:=A.res
 out:=fun x y=>(A.out x y).add (S.less (A.st x))
 all:=true
def Od(W:World)(hG:G0 W):Ctx:=⟨W,hG,fun b o=>(W.cell? ⟨b,o,none⟩).filter (·.oneCell'),fun _=>none⟩
theorem Bl2{W:World}{hG:G0 W}{b o:Nat}{v:Value}(h:W.cell? ⟨b,o,none⟩=some v)(h1:v.oneCell'=true):(Od W hG).imm b o=some v:=by
 simp[Od,h,h1]
theorem sat0(W:World)(hG:G0 W):Sat (Od W hG) (⟨[],[]⟩:St) W where
 below:=Below.refl _ _
 imm:=fun b o v h=>by
  simp only[Od,Option.filter_eq_some_iff] at h
  exact h.1
 one:=fun b o v h=>by
  simp only[Od,Option.filter_eq_some_iff] at h
  exact h.2
 objs:=fun p hp=>by cases hp
 nodup:=by simp
 toks:=fun t ht=>by cases ht
 tnodup:=by simp
 tfin:=⟨0,fun _ _=>rfl⟩
 tdist:=fun t t' b n c wd b' n' c' wd' h=>by cases h
variable {P:Program} {W:World}
def wOk{H:Type}(P:Program)(t:TypeId)(d:DataW H):Prop:=∀x∈d.weights P t,x<=By
theorem BfZ{H:Type}{P:Program}{e:TypeId}:∀ {l:List (DataW H)},(∀x∈DataW.weightsAll P e l,x<=By)->∀d∈l,wOk P e d
 | [],_,d,hd=>by cases hd
 |a::l,h,d,hd=>by
  simp only[DataW.weightsAll,List.mem_append] at h
  rcases List.mem_cons.1 hd with rfl | hd
  ·exact fun x hx=>h x (.inl hx)
  ·exact BfZ (fun x hx=>h x (.inr hx)) d hd
def ReadAt(P:Program)(W:World)(n:Nat)(t:TypeId)(R:List D->Prop):Prop :=
 ∀(hG:G0 W) (H:Type) (enc:TypeId×Value->H) (cs:List Value) (d:DataW H) (ps:List MemPlace),DataW.trod enc P W 0 (fun _=>true) true n t cs=some (d,ps)->wOk P t d ->
  (∃ds,R ds/\RepL (Od W hG) ds cs)/\∀v∈cs,v.oneCell'=true
def Reads(P:Program)(t:TypeId)(R:List D->Prop):Prop:=∀W n,ReadAt P W n t R
theorem ReadAt.zero(t:TypeId)(R:List D->Prop):ReadAt P W 0 t R:=by
 intro hG H enc cs d ps h _;simp[DataW.trod] at h
theorem ReadAt.mono{n:Nat}{t:TypeId}{R R':List D->Prop}(h:ReadAt P W n t R)(k:∀ds,R ds->R' ds):ReadAt P W n t R':=by
 intro hG H enc cs d ps hd hw
 obtain ⟨⟨ds,h1,h2⟩,h3⟩:=h hG H enc cs d ps hd hw
 exact⟨⟨ds,k _ h1,h2⟩,h3⟩
def RInt(k:IntKind):List D->Prop:=fun ds=>∃n,ds=[.int k n]/\k.min<=n/\n<=k.max
def RStr:List D->Prop:=fun ds=>∃s:List UInt8,ds=[.str s]/\s.length<=By
def RSlice(w:Nat)(R:List D->Prop):List D->Prop:=fun ds=>ds=[.sl w 0 (fun _=>[]) .nil]\/∃l:List (List D),(∀x∈l,R x)/\l.length<=By/\ds=[.sl w l.length (fun i=>l.getD i []) .any]
def RSeq:List (List D->Prop)->List D->Prop
 | [],ds=>ds=[]
 |R::Rs,ds=>∃a b,R a/\RSeq Rs b/\ds=a++b
theorem Iv{t:TypeId}{k:IntKind}(ht:P.underlying t=some (.int k)):Reads P t (RInt k):=by
 intro W n
 cases n with
 |zero=>exact .zero _ _
 |succ n =>
  intro hG H enc cs d ps h hwt
  simp only[DataW.trod,ht] at h
  split at h<;>try (simp_all;done)
  rename_i k' k2 m h1
  injection h1 with h1;injection h1 with h1;subst h1
  split at h
  ·rename_i hc
   obtain ⟨rfl,hw⟩:=hc
   refine⟨⟨[.int k2 m],⟨m,rfl,?_⟩,by simp[RepL,Rep]⟩,by simp[Value.oneCell']⟩
   simpa[Lit.wf] using hw
  ·cases h
theorem Ui{t:TypeId}(ht:P.underlying t=some .string):Reads P t RStr:=by
 intro W n
 cases n with
 |zero=>exact .zero _ _
 |succ n =>
  intro hG H enc cs d ps h hwt
  simp only[DataW.trod,ht] at h
  split at h<;>try (simp_all;done)
  rename_i s h1
  split at h
  ·rename_i hc
   injection h with h;injection h with h _;subst h
   exact⟨⟨[.str s.data.toList],⟨_,rfl,hwt _ (by simp[DataW.weights])⟩,by simp[RepL,Rep]⟩,by simp[Value.oneCell']⟩
  ·cases h
theorem Bap{base:Nat}{a:Addr}{n:Nat}{cs:List Value}(h:W.cells? base a n=some cs):cs.length=n/\∀i,i<n->W.cell? (a.add i)=cs[i]? :=by
 unfold World.cells? at h
 split at h
 ·refine⟨by simpa using mapM_some_length h,fun i hi=>mapM_some_get h i i (by simp[hi])⟩
 ·cases h
theorem Bcq{a:Addr}(h:a.spot=none)(i:Nat):a.add i=⟨a.block,a.off+i,none⟩:=by
 obtain ⟨b,o,s⟩:=a
 simp only at h;subst h
 exact Addr.add_mk ..
theorem BnI{a:Addr}{v:Value}(h:W.cell? a=some v):a.spot=none:=by
 unfold World.cell? at h
 split at h
 ·split at h
  ·cases h
  ·rename_i hs;simpa using hs
 ·cases h
theorem Bir{hG:G0 W}{b o:Nat}:∀ {ds:List D} {cs:List Value},RepL (Od W hG) ds cs->(∀v∈cs,v.oneCell'=true)->(∀i,i<cs.length->W.cell? ⟨b,o+i,none⟩=cs[i]?)->RepCells (Od W hG) b o ds:=by
 intro ds
 induction ds generalizing o with
 |nil=>intro cs _ _ _;trivial
 |cons d ds ih =>
  intro cs h1 h2 h3
  simp only[RepL] at h1
  obtain ⟨x,xs,rfl,r1,r2⟩:=h1
  simp only[RepCells]
  refine⟨⟨x,Bl2 (by simpa using h3 0 (by simp)) (h2 x (by simp)),r1⟩,ih r2 (fun v hv=>h2 v (by simp[hv])) fun i hi=>?_⟩
  have:=h3 (i+1) (by simpa using hi)
  simpa[Nat.add_assoc,Nat.add_comm 1 i] using this
theorem Bek{t e:TypeId}{w:Nat}{R:List D->Prop}(ht:P.underlying t=some (.slice e))(hw:P.cellsOf e=w)(hc:0<w)(hby:0<P.bytesOf e){n:Nat}(he:ReadAt P W n e R):ReadAt P W (n+1) t (RSlice w R):=by
 intro hG H enc cs d ps h hwt
 simp only[DataW.trod,ht] at h
 split at h<;>try (simp_all;done)
 ·refine⟨⟨_,.inl rfl,?_⟩,by simp[Value.oneCell']⟩
  simp only[RepL,Rep]
  exact⟨_,_,rfl,⟨none,0,0,rfl,⟨rfl,Nat.le_refl _,by simp[maxLen],fun _=>⟨rfl,rfl⟩,fun _ h=>(by cases h),rfl⟩,fun _ h=>by cases h⟩,rfl⟩
 ·rename_i e' a len cap h1
  injection h1 with h1;injection h1 with h1;subst h1
  rw[hw] at h
  split at h
  ·rename_i hb
   obtain ⟨_,hlc,hcm⟩:=hb
   obtain ⟨els,hels,h⟩:=Option.bind_eq_some_iff.1 h
   obtain ⟨rest,hrest,hde⟩:=Option.map_eq_some_iff.1 h
   injection hde with hde _
   subst hde
   have hwt:∀y∈(els.length+rest.length)*P.bytesOf e::(DataW.weightsAll P e (els.map (·.1))++DataW.weightsAll P e (rest.map (·.1))),y<=By:=fun y hy=>hwt y (by simpa[DataW.weights,ht] using hy)
   have hwe:=BfZ (P:=P) (e:=e) (l:=els.map (·.1)) fun y hy=>hwt y (List.mem_cons_of_mem _ (List.mem_append_left _ hy))
   simp only[if_true] at hrest
   have hlen:els.length=len:=by simpa using mapM_some_length hels
   have hlb:len<=By:=by
    have h1:=hwt _ List.mem_cons_self
    have h2:els.length+rest.length<=(els.length+rest.length)*P.bytesOf e:=Nat.le_mul_of_pos_right _ hby
    omega
   have hat:∀i,i<len->∃cs' x,W.cells? 0 (a.add (i*w)) w=some cs'/\DataW.trod enc P W 0 (fun _=>true) true n e cs'=some x/\wOk P e x.1:=by
    intro i hi
    have:=mapM_some_get hels i i (by simp[hi])
    rw[List.getElem?_eq_getElem (by omega)] at this
    obtain ⟨cs',q1,q2⟩:=Option.bind_eq_some_iff.1 this
    exact⟨cs',_,q1,q2,hwe _ (List.mem_map.2 ⟨_,List.getElem_mem _,rfl⟩)⟩
   have hsp:0<cap->a.spot=none:=by
    intro hcap
    have key:∃cs',W.cells? 0 (a.add 0) w=some cs':=by
     by_cases hl:0<len
     ·obtain ⟨cs',_,q,_,_⟩:=hat 0 hl
      exact⟨cs',by simpa using q⟩
     ·have hrl:rest.length=cap-len:=by simpa using mapM_some_length hrest
      have:=mapM_some_get hrest 0 0 (by rw[List.getElem?_range (by omega)])
      rw[List.getElem?_eq_getElem (by omega)] at this
      obtain ⟨cs',q1,_⟩:=Option.bind_eq_some_iff.1 this
      have hz:len=0:=by omega
      subst hz
      exact⟨cs',by simpa using q1⟩
    obtain ⟨cs',q⟩:=key
    obtain ⟨hl,hq⟩:=Bap q
    have h0:=hq 0 hc
    rw[List.getElem?_eq_getElem (by omega)] at h0
    have:=BnI h0
    simpa[Addr.add] using this
   have rows:∀i,i<len->∃row,R row/\row.length=w/\RepCells (Od W hG) a.block (a.off+i*w) row:=by
    intro i hi
    obtain ⟨cs',x,q1,q2,q3⟩:=hat i hi
    obtain ⟨⟨row,hR,hrep⟩,h1⟩:=he hG H enc cs' x.1 x.2 q2 q3
    obtain ⟨hl,hq⟩:=Bap q1
    have hs:=hsp (by omega)
    refine⟨row,hR,by rw[<- RepL.length hrep,hl],?_⟩
    refine Bir hrep h1 fun j hj=>?_
    have:=hq j (by omega)
    rw[Bcq hs,Bcq rfl] at this
    exact this
   have mk:∀m,m<=len->∃l:List (List D),l.length=m/\(∀x∈l,R x)/\∀i,i<m->(l.getD i []).length=w/\RepCells (Od W hG) a.block (a.off+i*w) (l.getD i []):=by
    intro m
    induction m with
    |zero=>exact fun _=>⟨[],rfl,by simp,fun i hi=>by omega⟩
    |succ m ih =>
     intro hm
     obtain ⟨l,q1,q2,q3⟩:=ih (by omega)
     obtain ⟨row,r1,r2,r3⟩:=rows m (by omega)
     refine⟨l++[row],by simp[q1],fun x hx=>?_,fun i hi=>?_⟩
     ·rcases List.mem_append.1 hx with hx | hx
      ·exact q2 x hx
      ·rw[List.mem_singleton] at hx;subst hx;exact r1
     ·by_cases him:i<m
      ·have:(l++[row]).getD i []=l.getD i []:=by
        simp[List.getD_eq_getElem?_getD,List.getElem?_append_left (show i<l.length by omega)]
       rw[this];exact q3 i him
      ·have hi:i=m:=by omega
       subst hi
       have:(l++[row]).getD i []=row:=by simp[List.getD_eq_getElem?_getD,<- q1]
       rw[this];exact⟨r2,r3⟩
   obtain ⟨l,q1,q2,q3⟩:=mk len (Nat.le_refl _)
   refine⟨⟨_,.inr ⟨l,q2,by omega,rfl⟩,?_⟩,by simp[Value.oneCell']⟩
   simp only[RepL,Rep]
   refine⟨_,_,rfl,⟨some a,len,cap,rfl,⟨q1.symm,by omega,hcm,(fun h=>by cases h),fun x hx h0=>by cases hx;exact hsp h0,trivial⟩,fun x hx i hi=>?_⟩,rfl⟩
   cases hx
   exact q3 i (by omega)
  ·cases h
def Bl9(P:Program):List Field->Nat->Nat->Bool
 | [],o,n=>o==n
 |f::fs,o,n=>f.offset==o&&Bl9 P fs (o+P.cellsOf f.type) n
def FieldsAt(P:Program)(W:World)(n:Nat):List Field->List (List D->Prop)->Prop
 | [],[]=>True
 |f::fs,R::Rs=>ReadAt P W n f.type R/\FieldsAt P W n fs Rs
 |_,_=>False
theorem Ue(hG : G0 W){H : Type}{enc : TypeId×Value -> H}{n : Nat}{cs : List Value} : ∀(fs : List Field) (Rs : List (List D -> Prop)) (o : Nat) (xs : List (DataW H×List MemPlace)), Bl9 P fs o cs.length=true -> FieldsAt P W n fs Rs -> (∀y∈DataW.weightsEach P (fs.map (·.type)) (xs.map (·.1)), y<=By) ->
  (fs.mapM fun f=>DataW.trod enc P W 0 (fun _=>true) true n f.type ((cs.drop f.offset).take (P.cellsOf f.type)))=some xs ->
  (∃ds,RSeq Rs ds/\RepL (Od W hG) ds (cs.drop o))/\∀v∈cs.drop o,v.oneCell'=true
 | [],Rs,o,xs,hl,hf,_,_=>by
  simp only[Bl9,beq_iff_eq] at hl
  subst hl
  cases Rs with
  |nil=>exact⟨⟨[],rfl,by simp[RepL]⟩,by simp⟩
  |cons _ _=>exact hf.elim
 |f::fs,Rs,o,xs,hl,hf,hwt,hm=>by
  simp only[Bl9,Bool.and_eq_true,beq_iff_eq] at hl
  obtain ⟨ho,hl⟩:=hl
  cases Rs with
  |nil=>exact hf.elim
  |cons R Rs =>
   obtain ⟨h1,h2⟩:=hf
   rw[List.mapM_cons] at hm
   obtain ⟨x,hx,hm⟩:=Option.bind_eq_some_iff.1 hm
   obtain ⟨ys,hy,hm⟩:=Option.bind_eq_some_iff.1 hm
   obtain rfl:x::ys=xs:=by simpa using hm
   simp only[List.map_cons,DataW.weightsEach,List.mem_append] at hwt
   obtain ⟨⟨a,ra,rb⟩,r1⟩:=h1 hG H enc _ x.1 x.2 hx (fun y hy=>hwt y (.inl hy))
   obtain ⟨⟨b,sa,sb⟩,s1⟩:=Ue hG fs Rs (o+P.cellsOf f.type) ys hl h2 (fun y hy=>hwt y (.inr hy)) hy
   rw[ho] at rb r1
   have e:cs.drop o=(cs.drop o).take (P.cellsOf f.type)++cs.drop (o+P.cellsOf f.type):=by
    rw[<- List.drop_drop,List.take_append_drop]
   refine⟨⟨a++b,⟨a,b,ra,sa,rfl⟩,by rw[e];exact RepL.append rb sb⟩,fun v hv=>?_⟩
   rw[e] at hv
   rcases List.mem_append.1 hv with hv | hv
   ·exact r1 v hv
   ·exact s1 v hv
theorem Ik{t:TypeId}{fs:Array Field}{Rs:List (List D->Prop)}(ht:P.underlying t=some (.struct fs))(hl:Bl9 P fs.toList 0 (P.cellsOf t)=true){n:Nat}(hf:FieldsAt P W n fs.toList Rs):ReadAt P W (n+1) t (RSeq Rs):=by
 intro hG H enc cs d ps h hwt
 unfold DataW.trod at h
 rw[ht] at h
 simp only at h
 split at h
 ·rename_i hc
  obtain ⟨xs,hx,hde⟩:=Option.map_eq_some_iff.1 h
  injection hde with hde _
  subst hde
  rw[<- hc] at hl
  simpa using Ue hG fs.toList Rs 0 xs hl hf (fun y hy=>hwt y (by simpa[DataW.weights,ht] using hy)) hx
 ·cases h
def Ut(P:Program)(t:TypeId):Bool:=match P.underlying t with
 |some (.struct _)=>false
 |some (.array _ _)=>false
 |_=>true
theorem BeD{t:TypeId}{base:Nat}{v:Value}(hf:Ut P t=true)(h:Value.okWide P W .any base t v):v.cells.toList=[v]:=by
 cases v with
 |agg cs =>
  unfold Ut at hf
  unfold Value.okWide at h
  split at h<;>try (simp_all;done)
  unfold Cell.okWide at h
  split at h<;>try (simp_all;done)
  unfold Cell.ok at h
  split at h<;>simp_all
 |_=>rfl
theorem Biq{t:TypeId}{base:Nat}{v:Value}(hf:Ut P t=false)(h:Value.okWide P W .any base t v):∃cs,v=.agg cs:=by
 unfold Ut at hf
 unfold Value.okWide at h
 split at hf
 ·rename_i q;rw[q] at h;obtain ⟨cs,h,_⟩:=h;exact⟨cs,h⟩
 ·rename_i q;rw[q] at h;obtain ⟨cs,h,_⟩:=h;exact⟨cs,h⟩
 ·cases hf
def RArgs(P:Program):List (TypeId×(List D->Prop))->List D->Prop
 | [],ds=>ds=[]
 |(t,R)::rs,ds=>∃d r,ds=d::r/\(match Ut P t with
  |true=>R [d]
  |false=>∃cs,d=.agg cs/\R cs)/\RArgs P rs r
theorem Bam(hG : G0 W){H : Type}{enc : TypeId×Value -> H}{base : Nat} : ∀(rs : List (TypeId×(List D -> Prop))) (vs : List Value) (ds : List (DataW H)) (ps : List MemPlace), (∀r∈rs, Reads P r.1 r.2) ->
  (∀(j:Nat) t v,(rs.map (·.1))[j]? =some t->vs[j]? =some v->Value.okWide P W .any base t v)->DataW.TrodAll enc P W 0 (fun _=>true) true (rs.map (·.1)) vs ds ps->(∀x∈DataW.weightsEach P (rs.map (·.1)) ds,x<=By)->∃Ds,RArgs P rs Ds/\RepL (Od W hG) Ds vs
 | [],[],[],_,_,_,_,_=>⟨[],rfl,by simp[RepL]⟩
 |(t,R)::rs,v::vs,d::ds,ps,hr,hv,h,hwt=>by
  simp only[List.map_cons,DataW.weightsEach,List.mem_append] at hwt
  obtain ⟨p,q,h1,h2,_⟩:=h
  obtain ⟨Ds,k1,k2⟩:=Bam hG rs vs ds q (fun r hm=>hr r (by simp[hm])) (fun j t v e1 e2=>hv (j+1) t v (by simpa using e1) (by simpa using e2)) h2 (fun x hx=>hwt x (.inr hx))
  obtain ⟨fuel,h1⟩:=h1
  have ok:=hv 0 t v rfl rfl
  obtain ⟨⟨es,r1,r2⟩,_⟩:=hr (t,R) (by simp) W fuel hG H enc _ d p h1 (fun x hx=>hwt x (.inl hx))
  cases hf:Ut P t with
  |true =>
   rw[BeD hf ok] at r2
   have:∃e,es=[e]:=by
    have:=RepL.length r2
    cases es with
    |nil=>simp[RepL] at r2
    |cons e es'=>cases es' with
     |nil=>exact⟨e,rfl⟩
     |cons _ _=>simp at this
   obtain ⟨e,rfl⟩:=this
   simp only[RepL] at r2
   obtain ⟨x,xs,e1,r2,e2⟩:=r2
   injection e1 with e1;subst e1
   exact⟨e::Ds,⟨e,Ds,rfl,by rw[hf];exact r1,k1⟩,by simp only[RepL];exact⟨v,vs,rfl,r2,k2⟩⟩
  |false =>
   obtain ⟨cs,rfl⟩:=Biq hf ok
   refine⟨.agg es::Ds,⟨.agg es,Ds,rfl,by rw[hf];exact⟨es,rfl,r1⟩,k1⟩,?_⟩
   simp only[RepL]
   exact⟨.agg cs,vs,rfl,by simp only[Rep];exact⟨cs,rfl,r2⟩,k2⟩
 | [],_::_,_,_,_,_,h,_=>h.elim
 | [],[],_::_,_,_,_,h,_=>h.elim
 |_::_,[],_,_,_,_,h,_=>h.elim
 |_::_,_::_,[],_,_,_,h,_=>h.elim
theorem M8{H : Type}{enc : TypeId×Value -> H}(hl : laidOutB P=true){W' : World}(hb : Below W.heap.size W W'){sp : Nat -> Bool} : ∀(ts : List TypeId) (vs : List Value) (ds : List (DataW H)) (ps : List MemPlace), (∀t∈ts, P.readableRec t=true /\ t<P.types.size) ->
  (∀x∈ps,x.block<W.heap.size)->(∀x∈ps,sp x.block=true)->DataW.TrodAll enc P W 0 (fun _=>true) true ts vs ds ps->DataW.TrodAll enc P W' 0 sp true ts vs ds ps
 | [],[],[],ps,_,_,_,h=>h
 |t::ts,v::vs,d::ds,ps,ht,hp,hq,h=>by
  obtain ⟨p,q,h1,h2,rfl⟩:=h
  exact⟨p,q,WideElems.Trod_stays hl (ht t (by simp)).1 (ht t (by simp)).2 h1 (fun x hx=>hb.same (hp x (by simp[hx]))) (fun x hx=>hq x (by simp[hx])),
   M8 hl hb ts vs ds q (fun t hm=>ht t (by simp[hm])) (fun x hx=>hp x (by simp[hx])) (fun x hx=>hq x (by simp[hx])) h2,rfl⟩
 | [],[],_::_,_,_,_,_,h=>h.elim
 | [],_::_,_,_,_,_,_,h=>h.elim
 |_::_,[],_,_,_,_,_,h=>h.elim
 |_::_,_::_,[],_,_,_,_,h=>h.elim
open ChangeShapes in
theorem BbZ{P : Program}{k : FuncId}{fn : Func}{s : ChangeSpec}{apart fresh handsOn again : Bool}{H : Type}{enc : TypeId×Value -> H}
  (hl:laidOutB P=true) (hread:fn.params.toList.all (fun t=>P.readableRec t&&decide (t<P.types.size))=true)
  (hvars:s.vars=[]) (hs:∀ds:List (DataW H),ds.length=fn.params.size->(s.fn H ds).results=[.lit (.bool true)]/\(s.fn H ds).args=ds/\(s.fn H ds).vars=[])
  {rt:TypeId} (hrt:fn.resultTypes=#[rt]) (hb:P.underlying rt=some .bool)
  {rs:List (TypeId×(List D->Prop))} (hrs:rs.map (·.1)=fn.params.toList) (hrd:∀r∈rs,Reads P r.1 r.2)
  (W:World) (hG:G0 W) (base:Nat) (args:Array Value) (ds gs:List (DataW H)) (before:List MemPlace)
  (hval:∀(j:Nat) t v,fn.params[j]? =some t->args[j]? =some v->Value.okWide P W .any base t v)
  (hW:DataW.Whole enc P fn.params.toList s.vars apart W args.toList ds gs before)
  (hsz:(DataW.weightsEach P (fn.params.toList++s.plain.varTypes P) (ds++gs)).all (·<=By)=true)
  (law:∀Ds,RArgs P rs Ds->ACalls P k Ds ⟨[],[]⟩ (fun r _=>r=.ret (.bool true))) :
  Calls P k args W fun e W'=>∃v,e=.returned v/\s.post enc P fn apart fresh handsOn again W args v W':=by
 have hW':=hW
 obtain ⟨p,q,hA,hV,rfl,hfz,hnd⟩:=hW
 rw[hvars] at hV
 obtain ⟨rfl,rfl⟩:gs=[]/\q=[]:=by
  cases gs with
  |nil=>exact⟨rfl,hV⟩
  |cons _ _=>exact hV.elim
 obtain ⟨Ds,r1,r2⟩:=Bam hG rs args.toList ds p hrd (fun j t v e1 e2=>hval j t v (by rw[hrs] at e1;simpa using e1) (by simpa using e2)) (by rw[hrs];exact hA) (by
  have h1:s.plain.varTypes P=[]:=by simp[ChangeSpec.plain,DataSpec.varTypes,hvars]
  rw[h1,List.append_nil,List.append_nil] at hsz
  rw[hrs]
  intro x hx
  simpa using List.all_eq_true.1 hsz x hx)
 refine ((law Ds r1).2 (Od W hG) ⟨[],[]⟩ args W r2 (sat0 W hG)).mono ?_
 rintro e W' ⟨C',r,S',hc,hsat,hr,rfl⟩
 have hbel:Below W.heap.size W W':=by
  have:=hsat.below
  rw[hc.w0] at this
  exact this
 cases e with
 |returned v =>
  simp only[RepEnd,Rep] at hr
  subst hr
  refine⟨.bool true,rfl,?_⟩
  have hlen:(ds++([]:List (DataW H))).length=fn.params.size:=by
   have key:∀(ts:List TypeId) (vs:List Value) (ds:List (DataW H)) (ps:List MemPlace),DataW.TrodAll enc P W 0 (fun _=>true) true ts vs ds ps->ds.length=ts.length:=by
    intro ts
    induction ts with
    |nil=>intro vs ds ps h;cases vs<;>cases ds<;>first | rfl | exact h.elim
    |cons t ts ih=>intro vs ds ps h;cases vs<;>cases ds<;>first | exact h.elim | (obtain ⟨_,_,_,h2,_⟩:=h;simp[ih _ _ _ h2])
   simpa using key _ _ _ _ hA
  obtain ⟨e1,e2,e3⟩:=hs _ hlen
  have hlt:∀x∈p++[],x.block<W.heap.size:=fun x hx=>by simpa using hW'.lt x hx
  have hrd':∀t∈fn.params.toList,P.readableRec t=true/\t<P.types.size:=fun t ht=>by
   have:=List.all_eq_true.1 hread t ht
   simpa using this
  have hres:∀(b:Nat) (sp:Nat->Bool) (hd:Bool),DataW.TrodAll enc P W' b sp hd fn.resultTypes.toList ((Value.bool true).resultList fn.resultTypes.size) (s.fn H (ds++[])).results []:=by
   intro b sp hd
   rw[e1,hrt]
   exact⟨[],[],⟨1,by simp[DataW.trod,hb,Value.cells]⟩,rfl,rfl⟩
  have hargs:∀sp:Nat->Bool,(∀x∈p++[],sp x.block=true)->DataW.TrodAll enc P W' 0 sp true fn.params.toList args.toList (s.fn H (ds++[])).args p:=by
   intro sp hsp
   rw[e2,List.append_nil]
   exact M8 hl hbel _ _ _ _ hrd' (fun x hx=>hlt x (by simpa using hx)) (fun x hx=>hsp x (by simpa using hx)) hA
  have hvars':∀sp:Nat->Bool,DataW.TrodVars enc P W' sp s.vars (s.fn H (ds++[])).vars []:=by
   intro sp;rw[hvars,e3];rfl
  have hold:∀x∈p++[],(fun b=>decide (b<W.heap.size)) x.block=true:=fun x hx=>by simpa using hlt x hx
  refine⟨ds,[],p++[],[],p,[],hW',hres _ _ _,hargs _ hold,hvars' _,World.keptBut_mono (fun x hx=>⟨hx,.inr (by simpa using hx)⟩) (hbel.frame (·∈p++[])),fun _=>?_⟩
  refine⟨?_,_,_,([]++p)++[],⟨[]++p,[],trodAll_append (hargs _ (fun _ _=>rfl)) (hres _ _ _),hvars' _,rfl,?_,?_⟩,?_⟩
  ·intro j t r hj hv
   rw[hrt] at hj hv
   match j with
   |0 =>
    simp[Value.resultList] at hj hv
    subst hj;subst hv
    simp[Value.okWide,hb,Cell.okWide,Cell.ok]
   |j+1=>simp at hj
  ·intro b off hp
   have hx:MemPlace.cell b off∈p:=by simpa using hp
   have:=hlt _ (by simpa using hx)
   rw[hbel.frozen (p:=⟨b,off,none⟩) this]
   exact hfz b off (by simpa using hx)
  ·intro ha
   simpa using hnd ha
  ·intro x hx _
   simpa using hx
 |panicked c=>exact hr.elim
 |outgrown=>exact hr.elim
theorem RArgs.flat{t:TypeId}{R:List D->Prop}{rs:List (TypeId×(List D->Prop))}{Ds:List D}(hf:Ut P t=true)(h:RArgs P ((t,R)::rs) Ds):∃d r,Ds=d::r/\R [d]/\RArgs P rs r:=by
 obtain ⟨d,r,e,h1,h2⟩:=h
 rw[hf] at h1
 exact⟨d,r,e,h1,h2⟩
theorem RArgs.agg{t:TypeId}{R:List D->Prop}{rs:List (TypeId×(List D->Prop))}{Ds:List D}(hf:Ut P t=false)(h:RArgs P ((t,R)::rs) Ds):∃cs r,Ds=.agg cs::r/\R cs/\RArgs P rs r:=by
 obtain ⟨d,r,e,h1,h2⟩:=h
 rw[hf] at h1
 obtain ⟨cs,rfl,h1⟩:=h1
 exact⟨cs,r,e,h1,h2⟩
theorem RArgs.nil{Ds:List D}(h:RArgs P [] Ds):Ds=[]:=h
theorem ACalls.weakArgs{k:FuncId}{ds ds':List D}{S:St}{R:AEnd->St->Prop}(h:ACalls P k ds' S R)(hw:Br ds ds'):ACalls P k ds S R :=
 ⟨h.1,fun C F args w ha hs=>h.2 C F args w (B5 _ _ hw _ _ ha) hs⟩
def DefRep(C:Ctx)(d:Deferred)(g:Nat)(ds:List D):Prop:=∃cap,d.target=.fn (.func g) cap/\RepL C ds (d.args++cap).toList
theorem DefRep.mono{C C':Ctx}(h:C.le C'){d:Deferred}{g:Nat}{ds:List D}(H:DefRep C d g ds):DefRep C' d g ds :=
 let ⟨cap,h1,h2⟩:=H;⟨cap,h1,RepL.mono h _ _ h2⟩
def Bb1:Op->Option (Operand×List Operand)
 |.defer c=>match c.callee with
  |.value f=>some (f,c.args.toList)
  |_=>none
 |_=>none
def Rp(E:Senv)(ops:List Oper)(Q:APostT)(QD:Nat->List D->APostT):List Nat->Env->St->Prop
 | [],_,_=>False
 |i::rest,env,S=>match ops[i]? with
  |none=>False
  |some o=>match Bb1 o.op with
   |some (f,axs)=>match o.guard with
    |none=>match evD env f with
     |.fn (.func g) first cap=>EL E ops (QD g (first++axs.map (evD env)++cap)) rest (putD env o.dst (.tup [])) S
     |_=>False
    |some _=>False
   |none=>E1 ops o env
    (fun env=>Gs E o.op env S (fun d S'=>Rp E ops Q QD rest (putD env o.dst d) S') (fun d S'=>Q (.panic d) env S'))
    (fun env=>Rp E ops Q QD rest (putD env o.dst (.tup [])) S)
def APostD(C0:Ctx)(F:St)(n:Nat)(Q:APostT)(QD:Nat->List D->APostT)(e:Exit)(a:Act)(w:World):Prop :=
 APost C0 F n [] Q e a w\/∃d g ds C',C0.le C'/\DefRep C' d g ds/\APost C' F n [d] (QD g ds) e a w
theorem CO{P:Program}{ops:Array Oper}{Q Q':Exit->Act->World->Prop}(hl:LetsOut Q->LetsOut Q')(h:∀e a w,Q e a w->Q' e a w):∀(l:List Nat) (a:Act) (w:World),wpOps P ops Q l a w->wpOps P ops Q' l a w
 | [],a,w,k=>h _ _ _ k
 |i::rest,a,w,k=>by
  simp only[wpOps] at k ⊢
  split at k
  ·rename_i ho;exact CO hl h rest a w k
  ·rename_i o ho
   split at k
   ·rename_i hw
    rw[if_pos hw]
    rcases k with k | ⟨k1,k2⟩
    ·left
     unfold Oper.wp at k ⊢
     unfold Oper.upon at k ⊢
     split at k
     ·exact CO hl h rest _ _ k
     ·exact CO hl h rest _ _ k
     ·exact CO hl h rest _ _ k
     ·refine Calls.mono k ?_
      rintro e w'' q
      cases e with
      |returned v=>exact CO hl h rest _ _ q
      |panicked ch=>exact h _ _ _ q
      |outgrown=>exact hl q
     ·refine Rows.mono k ?_
      rintro v w'' q
      exact CO hl h rest _ _ q
     ·exact h _ _ _ k
     ·exact k.elim
    ·exact .inr ⟨k1,hl k2⟩
   ·rename_i hw
    rw[if_neg hw]
    exact CO hl h rest _ _ k
section
variable {E:Senv} {C:Ctx} {F S:St} {w:World} {env:Env} {a:Act}
theorem LetsOut.postD{C0:Ctx}{n:Nat}{dfs:List Deferred}{Q1:APostT}{Z:Prop}(h:LetsOut (APost C0 F n dfs Q1)):Z:=by
 obtain ⟨a,w,C',x,env,S,_,_,_,_,_,h6,_⟩:=h
 cases x<;>exact h6.elim
theorem Bdm{C : Ctx}{u : Value}{g : Nat}{first cap ds : List D}{vs : Array Value}{P : Program}{w : World}(hu : Rep C (.fn (.func g) first cap) u)(hr : RepL C ds vs.toList) :
  ∃d,(Deferred.ofValue u vs).run P w=.ok d w/\DefRep C d g (first++ds++cap):=by
 simp only[Rep] at hu
 obtain ⟨a',c',rfl,h1,h2⟩:=hu
 refine⟨_,rfl,c',rfl,?_⟩
 simp only[Array.toList_append]
 exact RepL.append (RepL.append h1 hr) h2
theorem Ov{ops : List Oper}{Q : APostT}{QD : Nat -> List D -> APostT}(hT : EnvOk E)(hok : ops.all (fun o=>En E.n o.dst)=true) :
  ∀(l:List Nat) (C0 C:Ctx) (F:St) (env:Env) (S:St) (a:Act) (w:World),C0.le C->RepEnv C env a.tmps->a.tmps.size=E.n->a.defers=[]->Sat C (S.add F) w->Rp E ops Q QD l env S ->
   wpOps E.P ops.toArray (APostD C0 F E.n Q QD) l a w
 | [],C0,C,F,env,S,a,w,h0,h1,h2,h3,h4,h=>h.elim
 |i::rest,C0,C,F,env,S,a,w,h0,h1,h2,h3,h4,h=>by
  simp only[Rp] at h
  simp only[wpOps]
  cases ho:ops[i]? with
  |none=>rw[ho] at h;exact h.elim
  |some o =>
   rw[ho] at h
   have:(ops.toArray)[i]? =some o:=by simpa using ho
   rw[this]
   have hdst:En a.tmps.size o.dst=true:=by
    rw[h2];exact List.all_eq_true.1 hok o (List.mem_of_getElem? ho)
   simp only at h ⊢
   split at h
   ·rename_i f axs hd
    split at h
    ·rename_i hg
     split at h
     ·rename_i g first cap hf
      have hw:Region.wanted o (yielded ops.toArray a.tmps)=true:=by unfold Region.wanted;rw[hg]
      rw[hw]
      simp only[if_true]
      left
      obtain ⟨args,hop,hargs⟩:∃c:Call,o.op=.defer c/\c.callee=.value f/\c.args.toList=axs:=by
       unfold Bb1 at hd
       split at hd
       ·rename_i c hc
        split at hd
        ·rename_i f' hf'
         injection hd with hd
         injection hd with q1 q2
         exact⟨c,by simpa using hc,by rw[hf',q1],q2⟩
        ·cases hd
       ·cases hd
      have hu:=MS h1 f
      rw[hf] at hu
      have hv:RepL C (axs.map (evD env)) (args.args.map a.eval).toList:=by
       rw[Array.toList_map,hargs.2];exact MF h1 axs
      obtain ⟨d,hrun,hdef⟩:=Bdm (P:=E.P) (w:=w) hu hv
      have hex:(execOp a.eval o).run E.P w=.ok (.defer d) w:=by
       unfold execOp
       rw[hop]
       simp only[resolve,hargs.1,Sem.run_bind,hrun,Result.andThen_ok,Sem.run_pure]
      unfold Oper.wp
      rw[hex,Oper.upon_defer]
      refine CO (fun h=>LetsOut.postD h) ?_ _ _ _ (GH (dfs:=[d]) hT hok rest C C F _ S ({ a with defers:=d::a.defers }.put o.dst undef) w (.refl C) (RepEnv.putD (a:={ a with defers:=d::a.defers }) h1 hdst (GG C)) (by rw[GS];exact h2) (by rw[Ef];simp[h3]) h4 h)
      intro e a' w' hq
      exact .inr ⟨d,g,_,C,h0,hdef,hq⟩
     ·exact h.elim
    ·exact h.elim
   ·rcases Bak (a:=a) h1 h with ⟨hw,env',he,hr⟩ | ⟨hw,env',he,hr⟩
    ·rw[hw]
     simp only[if_true]
     refine .inl (UQ (M0 hT he h4 o hr) ?_ ?_)
     ·intro C' d S' v w' k1 k2 k3 k4
      refine Ov hT hok rest C0 C' F _ S' _ w' (h0.trans k1) ((he.mono k1).putD hdst k2) (by rw[GS,h2]) (by rw[Ef,h3]) k3 k4
     ·intro C' d S' v w' k1 k2 k3 k4
      exact .inl ⟨C',.panic d,env',S',h0.trans k1,he.mono k1,h2,h3,k3,⟨v,rfl,k2⟩,k4⟩
    ·rw[hw]
     simp only[Bool.false_eq_true,if_false]
     exact Ov hT hok rest C0 C F _ S _ w h0 (he.putD hdst (GG C)) (by rw[GS,h2]) (by rw[Ef,h3]) h4 hr
end
def Tn:Code->Bool
 |.region _ ops _=>ops.toList.any fun o=>(Bb1 o.op).isSome
 |.seq x y=>Tn x||Tn y
 |_=>false
def vcD(E:Senv):Code->Nat->APostT->(Nat->List D->APostT)->Env->St->Prop
 |.region _ ops d,_,Q,QD,env,S=>match d with
  |true=>False
  |false=>chk (ops.toList.all fun o=>En E.n o.dst) (Rp E ops.toList (fun e env S=>Q e (prune E.V E.cross env) S) (fun g ds e env S=>QD g ds e (prune E.V E.cross env) S) (List.range ops.size) env S)
 |.seq x y,b,Q,QD,env,S=>match Tn x with
  |true=>vcD E x b (M6 (fun _ _=>False) Q) (fun g ds=>M6 (fun env S=>vc E y b (QD g ds) env S) (QD g ds)) env S
  |false=>vc E x b (M6 (fun env S=>vcD E y b Q QD env S) Q) env S
 |_,_,_,_,_,_=>False
def AWpD(P:Program)(n:Nat)(c:Code)(Q:APostT)(QD:Nat->List D->APostT)(env:Env)(S:St):Prop :=
 ∀(C:Ctx) (F:St) (a:Act) (w:World),RepEnv C env a.tmps->a.tmps.size=n->a.defers=[]->Sat C (S.add F) w->c.wp P (APostD C F n Q QD) a w
theorem APost.prune{C:Ctx}{F:St}{n V:Nat}{cross:List Nat}{dfs:List Deferred}{Q:APostT}{e:Exit}{a:Act}{w:World}(h:APost C F n dfs (fun e env S=>Q e (prune V cross env) S) e a w):APost C F n dfs Q e a w:=by
 obtain ⟨C',x,env,S,h1,h2,r1,r2,r3,r4,r5⟩:=h
 exact⟨C',x,_,S,h1,h2.sub (TF _ _ _),r1,r2,r3,r4,r5⟩
theorem APostD.up{C C1:Ctx}{F:St}{n:Nat}{Q:APostT}{QD:Nat->List D->APostT}{e:Exit}{a:Act}{w:World}(h:C.le C1)(H:APostD C1 F n Q QD e a w):APostD C F n Q QD e a w:=by
 rcases H with H | ⟨d,g,ds,C',h1,h2,h3⟩
 ·exact .inl (H.up h)
 ·exact .inr ⟨d,g,ds,C',h.trans h1,h2,h3⟩
theorem TC{E:Senv}(hT:EnvOk E):∀(c:Code) (b:Nat) (Q:APostT) (QD:Nat->List D->APostT) (env:Env) (S:St),vcD E c b Q QD env S->AWpD E.P E.n c Q QD env S
 |.region id ops d,b,Q,QD,env,S,h=>by
  simp only[vcD] at h
  split at h
  ·exact h.elim
  ·obtain ⟨hok,h⟩:=Ba.1 h
   intro C F a w h1 h2 h3 h4
   refine wp_mono (wp_region (by simpa using Ov hT hok _ C C F env S a w (.refl C) h1 h2 h3 h4 h)) ?_
   rintro e a' w' (H | ⟨d,g,ds,C',q1,q2,q3⟩)
   ·exact .inl H.prune
   ·exact .inr ⟨d,g,ds,C',q1,q2,q3.prune⟩
 |.seq x y,b,Q,QD,env,S,h=>by
  simp only[vcD] at h
  split at h
  ·intro C F a w h1 h2 h3 h4
   refine wp_seq (wp_mono (TC hT x b _ _ env S h C F a w h1 h2 h3 h4) ?_)
   rintro e a' w' (⟨C',x,env',S',a1,a2,a3,a4,a5,a6,a7⟩ | ⟨d,g,ds,C1,q1,q2,C',x,env',S',a1,a2,a3,a4,a5,a6,a7⟩)
   ·cases e<;>cases x<;>simp only[RepExit] at a6
    case normal.normal=>exact a7.elim
    all_goals exact .inl ⟨C',_,env',S',a1,a2,a3,a4,a5,(by simp only[RepExit];try exact a6),a7⟩
   ·cases e<;>cases x<;>simp only[RepExit] at a6
    case normal.normal =>
     refine wp_mono (Cf hT y b _ env' S' a7 C' F a' w' a2 a3 a4 a5) ?_
     intro e a2 w2 H
     exact .inr ⟨d,g,ds,C',q1.trans a1,q2.mono a1,H⟩
    all_goals exact .inr ⟨d,g,ds,C1,q1,q2,C',_,env',S',a1,a2,a3,a4,a5,(by simp only[RepExit];try exact a6),a7⟩
  ·intro C F a w h1 h2 h3 h4
   refine wp_seq (wp_mono (Cf (dfs:=[]) hT x b _ env S h C F a w h1 h2 h3 h4) ?_)
   rintro e a' w' ⟨C',x,env',S',a1,a2,a3,a4,a5,a6,a7⟩
   cases e<;>cases x<;>simp only[RepExit] at a6
   case normal.normal=>exact wp_mono (TC hT y b _ _ env' S' a7 C' F a' w' a2 a3 a4 a5) fun _ _ _ H=>H.up a1
   all_goals exact .inl ⟨C',_,env',S',a1,a2,a3,a4,a5,(by simp only[RepExit];try exact a6),a7⟩
 |.skip,_,_,_,_,_,h=>by simp only[vcD] at h
 |.label _,_,_,_,_,_,h=>by simp only[vcD] at h
 |.exit _,_,_,_,_,_,h=>by simp only[vcD] at h
 |.goto _,_,_,_,_,_,h=>by simp only[vcD] at h
 |.ret,_,_,_,_,_,h=>by simp only[vcD] at h
 |.cond _ _ _,_,_,_,_,_,h=>by simp only[vcD] at h
 |.block _ _,_,_,_,_,_,h=>by simp only[vcD] at h
 |.loop _,_,_,_,_,_,h=>by simp only[vcD] at h
 |.scope _,_,_,_,_,_,h=>by simp only[vcD] at h
 |.rangeFunc ..,_,_,_,_,_,h=>by simp only[vcD] at h
def Bpi:Option D->D
 |none=>.nili
 |some d=>d
def RepRec(C:Ctx):Option D->FrameMode->FrameMode->Prop
 |none,u,u'=>u=.returning/\u'=.returning
 |some d,u,u'=>∃v,Rep C d v/\u=.panicking [{ v,recovered:=false }]/\u'=.panicking [{ v,recovered:=true }]
theorem RepRec.mono{C C':Ctx}(h:C.le C'){r:Option D}{u u':FrameMode}(H:RepRec C r u u'):RepRec C' r u u':=by
 cases r with
 |none=>exact H
 |some d=>obtain ⟨v,h1,h2⟩:=H;exact⟨v,Rep.mono h _ _ h1,h2⟩
def ACallsD(P:Program)(g:FuncId)(ds:List D)(r:Option D)(S:St)(R:St->Prop):Prop :=
 FnOk P g/\∀(C:Ctx) (F:St) (args:Array Value) (w:World) (u u':FrameMode),RepL C ds args.toList->Sat C (S.add F) w->RepRec C r u u' ->
  CallsD P g args u w fun e u1 w'=>u1=u'/\(∃v,e=.returned v)/\∃C' S',C.le C'/\Sat C' (S'.add F) w'/\R S'
theorem Bb3{P : Program}{b : Frame}{a : Act}{k : List Item}{cs : List Frame}{w : World}{ops : Array Oper}{o : Oper}{rest : List Nat}{axs : Array Operand}{ts : Array TypeId}(hb : b.kind=.deferred)
  (ho:ops[0]? =some o) (hg:o.guard=none) (hop:o.op=.call ⟨.builtin .recover,axs,ts⟩) {v:Value} {cs':List Frame}
  (hr:(recoverD cs).getD (.nilIface,cs)=(v,cs')) :
  step P (Go.lone (b.at a (.inRegion ops (0::rest)::k)) cs w)=.next (Go.lone (b.at (a.put o.dst v) (.inRegion ops rest::k)) cs' w):=by
 have hw:Region.wanted o (yielded ops a.tmps)=true:=by unfold Region.wanted;rw[hg]
 have hg:=stepG_op (P:=P) (b:=b) (k:=k) (cs:=cs) (w:=w) (rest:=rest) ho hw
 have hfin:(b.at a (.inRegion ops (0::rest)::k)).finish v=b.at (a.put o.dst v) (.inRegion ops rest::k):=by
  rw[Frame.finish_at,ho];rfl
 have hk:(b.at a (.inRegion ops (0::rest)::k)).kind=.deferred:=hb
 have htr:=tryRecover_deferred hk cs
 have hex:(execOp a.eval o).run P w=.ok .recover w:=by
  unfold execOp
  rw[hop]
  simp[resolve,invoke,builtin]
 refine step_lone_go ?_
 rw[hg,<- hfin]
 simp only[Frame.at] at htr ⊢
 cases hrec:recoverD cs with
 |none =>
  rw[hrec] at hr htr
  simp only[Option.getD_none,Prod.mk.injEq] at hr
  obtain ⟨rfl,rfl⟩:=hr
  simp[stepG.apply,hex,htr]
 |some p =>
  rw[hrec] at hr htr
  simp only[Option.getD_some] at hr
  subst hr
  simp[stepG.apply,hex,htr]
def Baj(o:Oper):Bool :=
 match o.op with
 |.call c=>match c.callee with
  |.builtin .recover=>o.guard.isNone
  |_=>false
 |_=>false
def Bna(R:St->Prop):APostT:=fun e _ S=>match e with
 |.normal=>R S
 |.ret=>R S
 |_=>False
def BlO(E:Senv)(c:Code)(r:Option D)(R:St->Prop)(ds:List D)(S:St):Prop :=
 match c with
 |.seq (.region _ ops false) rest=>match ops.toList with
  |o::_=>chk (Baj o&&ops.toList.all (fun o=>En E.n o.dst))
   (EL E ops.toList (fun e env S=>M6 (fun env S=>vc E rest 0 (Bna R) env S) (Bna R) e (prune E.V E.cross env) S) (List.range ops.size).tail (putD (BV 0 ds) o.dst (Bpi r)) S)
  | []=>False
 |_=>False
theorem Uu{C:Ctx}{ds:List D}{args:Array Value}(ha:RepL C ds args.toList)(m:Nat):RepEnv C (BV 0 ds) (args++Array.replicate m undef):=by
 have hal:args.size=ds.length:=by have:=RepL.length ha;simpa using this
 intro t
 rcases If 0 ha t (Nat.zero_le _) with h' | h'
 ·by_cases ht:t<args.size
  ·have:(args++Array.replicate m undef).getD t undef=args.toList.getD (t-0) undef:=by
    simp[Array.getD_eq_getD_getElem?,Array.getElem?_append_left ht,List.getD_eq_getElem?_getD]
   rw[this];exact h'
  ·have hu:look (BV 0 ds) t=.unk:=by
    have key:∀(l:List D) (k t:Nat),k+l.length<=t->look (BV k l) t=.unk:=by
     intro l
     induction l with
     |nil=>intros;rfl
     |cons d l ih=>intro k t ht;simp only[List.length_cons] at ht;simp only[BV,look];rw[if_neg (by omega)];exact ih (k+1) t (by omega)
    exact key _ 0 t (by omega)
   rw[hu];simp[Rep]
 ·rw[h'];simp[Rep]
theorem Bhh{E : Senv}{g : Nat}{fn : Func}{c : Code}{ds : List D}{r : Option D}{S : St}{R : St -> Prop}(hE : EnvOk E)(hf : E.P.funcs[g]? =some fn)(hb : fn.body=some c)
  (hname : (fn.name == "runtime.NumGoroutine") = false) (hn : fn.ntmps = E.n) (hl : ds.length ≤ E.n) (hres : fn.results = #[]) (h : BlO E c r R ds S) : ACallsD E.P g ds r S R := by
 refine⟨⟨fn,hf,hname,by simp[hb]⟩,fun C F args w u u' ha hs hr=>?_⟩
 have hal:args.size=ds.length:=by have:=RepL.length ha;simpa using this
 unfold BlO at h
 split at h
 ·rename_i id ops rest
  split at h
  ·rename_i o ol ho
   obtain ⟨h0,h⟩:=Ba.1 h
   simp only[Bool.and_eq_true] at h0
   obtain ⟨h0,hok⟩:=h0
   have ho0:ops[0]? =some o:=by
    have:ops.toList[0]? =some o:=by rw[ho];rfl
    simpa using this
   have hrange:List.range ops.size=0::(List.range ops.size).tail:=by
    have:ops.size=ol.length+1:=by have:=congrArg List.length ho;simpa using this
    rw[this];simp[List.range_succ_eq_map]
   obtain ⟨hg,axs,ts,hop⟩:o.guard=none/\∃axs ts,o.op=.call ⟨.builtin .recover,axs,ts⟩:=by
    unfold Baj at h0
    split at h0
    ·rename_i c hc
     split at h0
     ·rename_i hcal
      obtain ⟨cc,ca,ct⟩:=c
      simp only at hcal
      subst hcal
      exact⟨by simpa using h0,ca,ct,hc⟩
     ·cases h0
    ·cases h0
   refine callsD_of_wpS hf hb fun c0 cs hu=>?_
   obtain ⟨v,cs',hrec,hv,hcs⟩:∃v cs',(recoverD (c0::cs)).getD (.nilIface,c0::cs)=(v,cs')/\Rep C (Bpi r) v/\cs'={ c0 with mode:=u' }::cs:=by
    cases r with
    |none =>
     obtain ⟨rfl,rfl⟩:=hr
     refine⟨_,_,by simp[recoverD,hu];exact⟨rfl,rfl⟩,by simp[Bpi,Rep],?_⟩
     rw[<- hu]
    |some d =>
     obtain ⟨v,h1,rfl,rfl⟩:=hr
     refine⟨v,{ c0 with mode:=.panicking [{ v,recovered:=true }] }::cs,by simp[recoverD,hu],h1,rfl⟩
   refine wpS_seq ?_
   intro b k hb hro
   have hsz:(args++Array.replicate (fn.ntmps-args.size) undef).size=E.n:=by simp only[Array.size_append,Array.size_replicate];omega
   have hdst:En (args++Array.replicate (fn.ntmps-args.size) undef).size o.dst=true:=by
    rw[hsz];exact List.all_eq_true.1 hok o (by rw[ho];exact List.mem_cons_self ..)
   have hrun:=GH (dfs:=[]) hE hok (List.range ops.size).tail C C F _ S (({ tmps:=args++Array.replicate (fn.ntmps-args.size) undef,defers:=[] }:Act).put o.dst v) w (.refl C)
    (RepEnv.putD (a:={ tmps:=args++Array.replicate (fn.ntmps-args.size) undef,defers:=[] }) (Uu ha _) hdst hv) (by rw[GS];exact hsz) (by rw[Ef]) hs h
   have hfin : ∀(C0 C' : Ctx) (x : AExit) (env' : Env) (S' : St) (e : Exit) (a' : Act) (w' : World), C.le C0 -> C0.le C' -> RepEnv C' env' a'.tmps -> a'.defers=[] -> Sat C' (S'.add F) w' -> RepExit C' x e -> Bna R x env' S' ->
     bodyPostS E.P fn c0 cs (fun e u1 w'=>u1=u'/\(∃v,e=.returned v)/\∃C' S',C.le C'/\Sat C' (S'.add F) w'/\R S') e a' cs' w':=by
    intro C0 C' x env' S' e a' w' b0 b1 b2 b4 b5 b6 b7
    have hre:(results fn a'.tmps).run E.P w'=.ok (.tuple #[]) w':=results_none (by rw[hres]) _ _ _
    cases x<;>simp only[Bna] at b7<;>cases e<;>simp only[RepExit] at b6
    all_goals exact⟨b4,u',hcs,_,hre,rfl,⟨_,rfl⟩,C',S',b0.trans b1,b5,b7⟩
   obtain ⟨e,a',w',hq,harr⟩:=wp_ops _ _ _ hrun b k cs'
   have harr:Arrives E.P (Go.lone (b.at { tmps:=args++Array.replicate (fn.ntmps-args.size) undef,defers:=[] } (.code (.region id ops false)::k)) (c0::cs) w) b k cs' e a' w':=by
    refine .of_steps (.one step_region) (.of_steps (.one ?_) harr)
    rw[hrange]
    exact Bb3 hb ho0 hg hop hrec
   refine⟨e,a',cs',w',?_,harr⟩
   obtain ⟨C',x,env',S',b1,b2,b3,b4,b5,b6,b7⟩:=hq
   cases e<;>cases x<;>simp only[RepExit] at b6<;>simp only[M6] at b7
   case normal.normal =>
    refine wpS_of_wp (wp_mono (Cf (dfs:=[]) hE rest 0 _ _ S' b7 C' F a' w' (b2.sub (TF _ _ _)) b3 b4 b5) ?_)
    rintro e a2 w2 ⟨C2,x,env2,S2,c1,c2,c3,c4,c5,c6,c7⟩
    exact hfin C' C2 x env2 S2 e a2 w2 b1 c1 c2 c4 c5 c6 c7
   case ret.ret=>exact hfin C C' .ret env' S' .ret a' w' (.refl C) b1 b2 b4 b5 trivial b7
   all_goals exact b7.elim
  ·exact h.elim
 ·exact h.elim
def Blm(R:AEnd->St->Prop)(tt:Nat->Option TI)(rs:List ResultVar)(env:Env)(S:St):Prop :=
 match G2 tt rs env S with
 |some ds=>Eg rs env S/\R (.ret (RR ds)) S
 |none=>False
def Blo(dcl:Nat->List D->Option D->St->(St->Prop)->Prop)(R:AEnd->St->Prop)(tt:Nat->Option TI)(rs:List ResultVar)(g:Nat)(ds:List D):APostT:=fun e env S=>match e with
 |.normal=>dcl g ds none S (fun S=>Blm R tt rs env S)
 |.ret=>dcl g ds none S (fun S=>Blm R tt rs env S)
 |.panic d=>dcl g ds (some d) S (fun S=>Blm R tt rs env S)
 |_=>False
theorem Mp{P : Program}{tt : Nat -> Option TI}{R : AEnd -> St -> Prop}{C0 C C1 : Ctx}{F S : St}{fn : Func}{env : Env}{tmps : Array Value}{d : Deferred}{g : Nat}{ds : List D}{r : Option D}{u u' : FrameMode}{w : World}(hT : TabOk P tt)(hu : u≠.run)
  (hset:settle u'=.returning) (h0:C0.le C1) (h1:C1.le C) (hd:DefRep C1 d g ds) (he:RepEnv C env tmps) (hs:Sat C (S.add F) w) (hr:RepRec C r u u')
  (h:ACallsD P g ds r S (fun S=>Blm R tt fn.results.toList env S)) :
  Leaves P fn tmps (fun e w'=>∃C' r S',C0.le C'/\Sat C' (S'.add F) w'/\RepEnd C' r e/\R r S') [d] u w:=by
 obtain ⟨cap,ht,hds⟩:=hd.mono h1
 obtain ⟨⟨fg,q1,q2,q3⟩,h⟩:=h
 refine⟨hu,.func g,cap,g,d.args++cap,ht,?_,?_⟩
 ·rw[ht]
  simp only[invoke,callFunc,Sem.run_bind,run_program,Result.andThen_ok,q1,q2,q3,Bool.false_eq_true,if_false]
  rfl
 ·refine CallsD.mono (h C F _ w u u' hds hs hr) ?_
  rintro e u1 w' ⟨rfl,⟨v,rfl⟩,C',S',a1,a2,a3⟩
  simp only[hset]
  unfold Blm at a3
  split at a3
  ·rename_i rs hrs
   obtain ⟨v,r1,r2⟩:=Ib (P:=P) hT (he.mono a1) a2 hrs a3.1
   exact⟨v,r1,C',.ret _,S',(h0.trans h1).trans a1,a2,r2,a3.2⟩
  ·exact a3.elim
theorem Bcn{P : Program}{tt : Nat -> Option TI}{f n : Nat}{fn : Func}{c : Code}{ds : List D}{S : St}{R : AEnd -> St -> Prop}{dcl : Nat -> List D -> Option D -> St -> (St -> Prop) -> Prop}(hT : TabOk P tt)(hf : P.funcs[f]? =some fn)(hb : fn.body=some c)
  (hname : (fn.name == "runtime.NumGoroutine") = false) (hn : fn.ntmps = n) (hl : ds.length ≤ n) (hd : ∀ g ds r S R, dcl g ds r S R → ACallsD P g ds r S R)
  (h:AWpD P n c (Bh7 R tt fn.results.toList) (Blo dcl R tt fn.results.toList) (BV 0 ds) S):ACalls P f ds S R:=by
 refine⟨⟨fn,hf,hname,by simp[hb]⟩,fun C F args w ha hs=>?_⟩
 have hal:args.size=ds.length:=by have:=RepL.length ha;simpa using this
 have hret : ∀ {C' : Ctx} {env' : Env} {S' : St} {a' : Act} {w' : World}, C.le C' -> RepEnv C' env' a'.tmps -> Sat C' (S'.add F) w' -> (match G2 tt fn.results.toList env' S' with
    |some ds=>Eg fn.results.toList env' S'/\R (.ret (RR ds)) S'
    |none=>False) ->
   ∃v,(results fn a'.tmps).run P w'=.ok v w'/\∃C' r S',C.le C'/\Sat C' (S'.add F) w'/\RepEnd C' r (.returned v)/\R r S':=by
  intro C0 env0 S0 a' w' b1 b2 b5 b7
  split at b7
  ·rename_i ds' hds
   obtain ⟨v,r1,r2⟩:=Ib (P:=P) hT b2 b5 hds b7.1
   exact⟨v,r1,C0,.ret _,_,b1,b5,r2,b7.2⟩
  ·exact b7.elim
 refine calls_of_wp_defers hf hb (wp_mono (h C F _ w (Uu ha _) ?_ rfl hs) ?_)
 ·simp only[Array.size_append,Array.size_replicate];omega
 ·rintro e a' w' (⟨C',x',env',S',b1,b2,b3,b4,b5,b6,b7⟩ | ⟨d,g,ds',C1,q1,q2,C',x',env',S',b1,b2,b3,b4,b5,b6,b7⟩)
  ·cases e<;>cases x'<;>simp only[RepExit] at b6<;>simp only[Bh7] at b7
   case normal.normal =>
    obtain ⟨v,r1,r2⟩:=hret b1 b2 b5 b7
    simp only[bodyPostD,b4];exact⟨v,r1,r2⟩
   case ret.ret =>
    obtain ⟨v,r1,r2⟩:=hret b1 b2 b5 b7
    simp only[bodyPostD,b4];exact⟨v,r1,r2⟩
   case panic.panic ch d =>
    obtain ⟨v,e,hv⟩:=b6
    simp only[bodyPostD,b4]
    exact⟨C',.pan d,_,b1,b5,⟨v,e,hv⟩,b7⟩
   all_goals exact b7.elim
  ·cases e<;>cases x'<;>simp only[RepExit] at b6<;>simp only[Blo] at b7
   case normal.normal =>
    simp only[bodyPostD,b4]
    exact Mp (u':=.returning) (r:=none) hT (by simp) rfl q1 b1 q2 b2 b5 ⟨rfl,rfl⟩ (hd _ _ _ _ _ b7)
   case ret.ret =>
    simp only[bodyPostD,b4]
    exact Mp (u':=.returning) (r:=none) hT (by simp) rfl q1 b1 q2 b2 b5 ⟨rfl,rfl⟩ (hd _ _ _ _ _ b7)
   case panic.panic ch d =>
    obtain ⟨v,rfl,hv⟩:=b6
    simp only[bodyPostD,b4]
    exact Mp (u':=.panicking [{ v,recovered:=true }]) (r:=some d) hT (by simp) rfl q1 b1 q2 b2 b5 ⟨v,hv,rfl,rfl⟩ (hd _ _ _ _ _ b7)
   all_goals exact b7.elim
def Senv.fit(E:Senv)(A:Frm)(inl:Nat->List D->St->(AEnd->St->Prop)->Prop):Senv :=
 { E with n:=A.n,dfs:=[],V:=A.V,cross:=A.cross,ord:=A.ord,unr:=A.unr,gh:=fun _=>[],gr:=[],ann:=fun _ _ _=>none,ann2:=fun _ _ _=>none,cut2:=fun _ _ _=>none,cut:=fun _ _ _=>none,inl:=inl,own:=A.own,gz:=fun _=>[],mg:=A.mg,bcut:=fun _ _ _=>none }
def BoR(E:Senv)(fr:Nat->Option Frm)(inl:Nat->List D->St->(AEnd->St->Prop)->Prop)(g:Nat)(ds:List D)(r:Option D)(S:St)(R:St->Prop):Prop :=
 match fr g with
 |none=>False
 |some A=>match A.fn.body with
  |none=>False
  |some c=>chk (Nat.ble ds.length A.n&&A.fn.results.toList.isEmpty) (BlO (E.fit A inl) c r R ds S)
def Bc6(E:Senv)(fr:Nat->Option Frm):Nat->Nat->List D->St->(AEnd->St->Prop)->Prop
 |0,_,_,_,_=>False
 |fuel+1,k,ds,S,R=>match fr k with
  |none=>False
  |some A=>match A.fn.body with
   |none=>False
   |some c=>chk (Nat.ble ds.length A.n) (match Tn c with
    |false=>vc (E.fit A (Bc6 E fr fuel)) c 0 (Bh7 R E.tt A.fn.results.toList) (BV 0 ds) S
    |true=>vcD (E.fit A (Bc6 E fr fuel)) c 0 (Bh7 R E.tt A.fn.results.toList) (Blo (BoR E fr (Bc6 E fr fuel)) R E.tt A.fn.results.toList) (BV 0 ds) S)
theorem Bff{E : Senv}{A : Frm}{inl : Nat -> List D -> St -> (AEnd -> St -> Prop) -> Prop}(hT : TabOk E.P E.tt)(hC : ConOk E.P E.con)(hm : E.P.follows .mixedOrders=true)(hQ : ∀t, E.eqs.contains t=true -> E.P.eqGuardType E.P.depth t=false /\ E.P.stoodInHeld t=false)
  (hi:∀k ds S R,inl k ds S R->ACalls E.P k ds S R):EnvOk (E.fit A inl):=⟨hT,hC,hm,hi,hQ⟩
theorem Bm7{E : Senv}{fr : Nat -> Option Frm}{inl : Nat -> List D -> St -> (AEnd -> St -> Prop) -> Prop}(hT : TabOk E.P E.tt)(hC : ConOk E.P E.con)(hm : E.P.follows .mixedOrders=true)(hF : FrmOk E.P fr)(hQ : ∀t, E.eqs.contains t=true -> E.P.eqGuardType E.P.depth t=false /\ E.P.stoodInHeld t=false)
  (hi:∀k ds S R,inl k ds S R->ACalls E.P k ds S R) (g:Nat) (ds:List D) (r:Option D) (S:St) (R:St->Prop) (h:BoR E fr inl g ds r S R):ACallsD E.P g ds r S R:=by
 unfold BoR at h
 split at h
 ·exact h.elim
 ·rename_i A hA
  split at h
  ·exact h.elim
  ·rename_i c hc
   obtain ⟨h0,h⟩:=Ba.1 h
   simp only[Bool.and_eq_true] at h0
   obtain ⟨q1,q2,q3⟩:=hF g A hA
   exact Bhh (E:=E.fit A inl) (Bff hT hC hm hQ hi) q1 hc q3 q2 (Nat.le_of_ble_eq_true h0.1) (by simpa using h0.2) h
theorem Bgg{E:Senv}{fr:Nat->Option Frm}(hT:TabOk E.P E.tt)(hC:ConOk E.P E.con)(hm:E.P.follows .mixedOrders=true)(hF:FrmOk E.P fr)(hQ:∀t,E.eqs.contains t=true->E.P.eqGuardType E.P.depth t=false/\E.P.stoodInHeld t=false):∀(fuel k:Nat) (ds:List D) (S:St) (R:AEnd->St->Prop),Bc6 E fr fuel k ds S R->ACalls E.P k ds S R
 |0,_,_,_,_,h=>h.elim
 |fuel+1,k,ds,S,R,h=>by
  simp only[Bc6] at h
  split at h
  ·exact h.elim
  ·rename_i A hA
   split at h
   ·exact h.elim
   ·rename_i c hc
    obtain ⟨h0,h⟩:=Ba.1 h
    obtain ⟨q1,q2,q3⟩:=hF k A hA
    have hi:=Bgg hT hC hm hF hQ fuel
    split at h
    ·exact Bd3 hT q1 hc q3 q2 (Nat.le_of_ble_eq_true h0) (Cf (E:=E.fit A (Bc6 E fr fuel)) (Bff hT hC hm hQ hi) c 0 _ _ _ h)
    ·exact Bcn hT q1 hc q3 q2 (Nat.le_of_ble_eq_true h0) (Bm7 hT hC hm hF hQ hi) (TC (E:=E.fit A (Bc6 E fr fuel)) (Bff hT hC hm hQ hi) c 0 _ _ _ _ h)
theorem Ga{k:IntKind}(hk:k.signed=false){a:Nat}(ha:a<2 ^ k.bits):k.wrap (a:Int)=(a:Int):=by
 have h:((a:Int) % (2 ^ k.bits:Int))=a:=Int.emod_eq_of_lt (by omega) (by exact_mod_cast ha)
 simp[IntKind.wrap,hk,h]
theorem R2{n a:Nat}(ha:a<2 ^ n):(BitVec.ofInt n (a:Int)).toNat=a:=by
 rw[BitVec.ofInt_natCast,BitVec.toNat_ofNat,Nat.mod_eq_of_lt ha]
theorem BlJ{k:IntKind}(hk:k.signed=false){a b:Nat}(ha:a<2 ^ k.bits)(hb:b<2 ^ k.bits):Mq k a b=((a &&& b:Nat):Int):=by
 unfold Mq
 rw[BitVec.toNat_and,R2 ha,R2 hb,Ga hk (Nat.lt_of_le_of_lt Nat.and_le_left ha)]
theorem BlP(a b:Nat):Int.fdiv (a:Int) (b:Int)=((a / b:Nat):Int):=by
 rw[Int.fdiv_eq_ediv_of_nonneg _ (by omega)];exact_mod_cast rfl
theorem wrap_small{k:IntKind}(hk:k.signed=true){n:Int}(h1:-(2 ^ (k.bits-1):Int)<=n)(h2:n<(2 ^ (k.bits-1):Int)):k.wrap n=n:=by
 cases k<;>simp_all[IntKind.signed,IntKind.wrap,IntKind.bits]<;>split<;>omega
theorem Bb{n:Int}(h1:-9223372036854775808<=n)(h2:n<=9223372036854775807):IntKind.i64.wrap n=n :=
 wrap_small rfl (by simpa[IntKind.bits] using h1) (by simp[IntKind.bits];omega)
theorem StTo.none(S:St):StTo S ⟨[],[]⟩:=fun _ _ _ h=>h.le ⟨List.nil_sublist _,List.nil_sublist _⟩
def sC(ds:List D)(d:D):FnSpec where
 β:=Unit
 α:=Unit
 args:=fun _=>ds
 st:=fun _=>⟨[],[]⟩
 pre:=fun _=>True
 post:=fun _ _=>True
 res:=fun _ _=>.ret d
 out:=fun _ _=>⟨[],[]⟩
def Uj:Mode->Nat->Bool
 |.nil,0=>true
 |_,_=>false
theorem HeadOk.nil_w{C:Ctx}{w w' n:Nat}{m':Mode}{a:Option Addr}{len cap:Nat}(hm:BE .nil m')(h:HeadOk C w n .nil a len cap):HeadOk C w' n m' a len cap :=
 Oo hm (show HeadOk C w' n .nil a len cap from h)
mutual
def wkD:D->D->Prop
 |.sl w n f m,.sl w' n' f' m'=>chk (decide (w=w')||Uj m n) (n=n'/\(∀i,i<n->wkL (f i) (f' i))/\BE m m')
 |.agg cs,.agg cs'=>wkL cs cs'
 |.iface t d,.iface t' d'=>t=t'/\wkD d d'
 |d,d'=>Bg d d'
def wkL:List D->List D->Prop
 | [],[]=>True
 |d::ds,d'::ds'=>wkD d d'/\wkL ds ds'
 |_,_=>False
end
theorem Bgq:∀ {ds ds':List D},wkL ds ds'->ds.length=ds'.length
 | [],[],_=>rfl
 |d::ds,d'::ds',h=>by simp only[wkL] at h;simp[Bgq h.2]
 | [],_::_,h=>by simp[wkL] at h
 |_::_,[],h=>by simp[wkL] at h
mutual
theorem Mi:∀(d d':D),wkD d d'->∀C v,Rep C d v->Rep C d' v
 |.sl w n f m,d',h,C,v,H=>by
  cases d' with
  |sl w' n' f' m' =>
   simp only[wkD] at h
   obtain ⟨hw,rfl,hf,hm⟩:=Ba.1 h
   simp only[Rep] at H ⊢
   obtain ⟨a,len,cap,e,hh,hr⟩:=H
   by_cases hw:w=w'
   case neg =>
    have hw:Uj m n=true:=by simpa[hw] using ‹(decide (w=w')||Uj m n)=true›
    unfold Uj at hw
    split at hw
    ·exact⟨a,len,cap,e,hh.nil_w hm,fun _ _ i hi=>absurd hi (Nat.not_lt_zero _)⟩
    ·cases hw
   subst hw
   exact⟨a,len,cap,e,Oo hm hh,fun x hx i hi=>⟨(Bgq (hf i hi)).symm.trans (hr x hx i hi).1,Bcx (f i) (f' i) (hf i hi) C _ _ (hr x hx i hi).2⟩⟩
  |_=>exact Bq _ _ (by simpa[wkD] using h) C v H
 |.agg cs,d',h,C,v,H=>by
  cases d' with
  |agg cs' =>
   simp only[wkD] at h
   simp only[Rep] at H ⊢
   obtain ⟨vs,e,r⟩:=H
   exact⟨vs,e,MC cs cs' h C _ r⟩
  |_=>exact Bq _ _ (by simpa[wkD] using h) C v H
 |.iface t d,d',h,C,v,H=>by
  cases d' with
  |iface t' d' =>
   simp only[wkD] at h
   obtain ⟨rfl,h⟩:=h
   simp only[Rep] at H ⊢
   obtain ⟨x,e,r⟩:=H
   exact⟨x,e,Mi d d' h C _ r⟩
  |_=>exact Bq _ _ (by simpa[wkD] using h) C v H
 |.unk,d',h,C,v,H=>Bq _ d' (by simpa[wkD] using h) C v H
 |.bool b,d',h,C,v,H=>Bq _ d' (by simpa[wkD] using h) C v H
 |.int k n,d',h,C,v,H=>Bq _ d' (by simpa[wkD] using h) C v H
 |.str s,d',h,C,v,H=>Bq _ d' (by simpa[wkD] using h) C v H
 |.nilp,d',h,C,v,H=>Bq _ d' (by simpa[wkD] using h) C v H
 |.ref k x o,d',h,C,v,H=>Bq _ d' (by simpa[wkD] using h) C v H
 |.pt row,d',h,C,v,H=>Bq _ d' (by simpa[wkD] using h) C v H
 |.ms k x o l c w,d',h,C,v,H=>Bq _ d' (by simpa[wkD] using h) C v H
 |.vs k x l c w,d',h,C,v,H=>Bq _ d' (by simpa[wkD] using h) C v H
 |.er k x i w fo,d',h,C,v,H=>Bq _ d' (by simpa[wkD] using h) C v H
 |.nmap,d',h,C,v,H=>Bq _ d' (by simpa[wkD] using h) C v H
 |.map k x,d',h,C,v,H=>Bq _ d' (by simpa[wkD] using h) C v H
 |.fn f a c,d',h,C,v,H=>Bq _ d' (by simpa[wkD] using h) C v H
 |.nilf,d',h,C,v,H=>Bq _ d' (by simpa[wkD] using h) C v H
 |.nili,d',h,C,v,H=>Bq _ d' (by simpa[wkD] using h) C v H
 |.tup cs,d',h,C,v,H=>Bq _ d' (by simpa[wkD] using h) C v H
theorem MC:∀(ds ds':List D),wkL ds ds'->∀C vs,RepL C ds vs->RepL C ds' vs
 | [],[],_,C,vs,H=>H
 |d::ds,d'::ds',h,C,vs,H=>by
  simp only[wkL] at h
  simp only[RepL] at H ⊢
  obtain ⟨x,xs,e,r1,r2⟩:=H
  exact⟨x,xs,e,Mi d d' h.1 C x r1,MC ds ds' h.2 C xs r2⟩
 | [],_::_,h,_,_,_=>by simp[wkL] at h
 |_::_,[],h,_,_,_=>by simp[wkL] at h
theorem Bcx:∀(ds ds':List D),wkL ds ds'->∀C b o,RepCells C b o ds->RepCells C b o ds'
 | [],[],_,C,b,o,H=>H
 |d::ds,d'::ds',h,C,b,o,H=>by
  simp only[wkL] at h
  simp only[RepCells] at H ⊢
  obtain ⟨⟨v,e,r1⟩,r2⟩:=H
  exact⟨⟨v,e,Mi d d' h.1 C v r1⟩,Bcx ds ds' h.2 C b _ r2⟩
 | [],_::_,h,_,_,_,_=>by simp[wkL] at h
 |_::_,[],h,_,_,_,_=>by simp[wkL] at h
end
mutual
theorem Bl:∀(d:D),wkD d d
 |.sl w n f m=>by
  simp only[wkD,Ba]
  exact⟨by simp,trivial,fun i _=>Bi (f i),Oq m⟩
 |.agg cs=>by simp only[wkD];exact Bi cs
 |.iface t d=>by simp only[wkD];exact⟨trivial,Bl d⟩
 |.unk=>by simp[wkD,Bg]
 |.bool b=>by simp[wkD,Bg]
 |.int k n=>by simp[wkD,Bg,Ba,kEq]
 |.str s=>by simp[wkD,Bg]
 |.nilp=>by simp[wkD,Bg]
 |.ref _ x o=>by simp[wkD,Bg,Ba]
 |.pt row=>by simp[wkD,Bg]
 |.ms _ x o len cap w=>by simp[wkD,Bg,Ba]
 |.vs _ x len cap w=>by simp[wkD,Bg,Ba]
 |.er _ x i w fo=>by simp[wkD,Bg,Ba]
 |.nmap=>by simp[wkD,Bg]
 |.map _ x=>by simp[wkD,Bg]
 |.fn f a c=>by simp[wkD,Bg]
 |.nilf=>by simp[wkD,Bg]
 |.nili=>by simp[wkD,Bg]
 |.tup cs=>by simp only[wkD];exact Bd _
theorem Bi:∀(ds:List D),wkL ds ds
 | []=>by simp[wkL]
 |d::ds=>by simp only[wkL];exact⟨Bl d,Bi ds⟩
end
theorem ACalls.wkArgs{P:Program}{k:FuncId}{ds ds':List D}{S:St}{R:AEnd->St->Prop}(h:ACalls P k ds' S R)(hw:wkL ds ds'):ACalls P k ds S R :=
 ⟨h.1,fun C F args w ha hs=>h.2 C F args w (MC _ _ hw _ _ ha) hs⟩
def pE{β:Type}(ds:List D)(S:St)(d:β->D)(p:β->Prop):FnSpec where
 β:=β
 α:=Unit
 args:=fun _=>ds
 st:=fun _=>S
 pre:=p
 post:=fun _ _=>True
 res:=fun x _=>.ret (d x)
 out:=fun _ _=>S
 all:=true
theorem ACalls.whole{P:Program}{k:FuncId}{ds:List D}{d:D}(S:St)(h:ACalls P k ds ⟨[],[]⟩ (SpecR (sC ds d) ())):ACalls P k ds S (fun r S'=>r=.ret d/\S'=S):=by
 refine ((h.frame S).from fun C F w H=>?_).mono ?_
 ·simpa[St.add] using H
 ·rintro r S' ⟨S0,⟨_,_,rfl,rfl⟩,rfl⟩
  exact⟨rfl,by simp[St.add,sC]⟩
theorem BqR{P:Program}{k:FuncId}{ds us:List D}{d:D}(hw:wkL ds us)(h:ACalls P k us ⟨[],[]⟩ (SpecR (sC us d) ())):ACalls P k ds ⟨[],[]⟩ (SpecR (sC ds d) ()) :=
 (h.wkArgs hw).mono fun _ _ ⟨_,_h1,h2,h3⟩=>⟨(),trivial,h2,h3⟩
theorem Sat.kept{C:Ctx}{S:St}{w w':World}(H:Sat C S w)(hb:Below w.heap.size w w'):Sat C S w':=by
 have hlt:∀x o,ObjAt C w x o->x<w.heap.size:=by
  intro x o h
  cases o with
  |cells ds=>obtain ⟨_,_,_,h1,_⟩:=h;exact (Array.getElem?_eq_some_iff.1 h1).1
  |amap k es=>obtain ⟨_,_,h1,_⟩:=h;exact (Array.getElem?_eq_some_iff.1 h1).1
  |sit s pos=>exact (Array.getElem?_eq_some_iff.1 (show w.heap[x]? =_ from h)).1
  |bld T E d=>obtain ⟨_,_,_,h1,_⟩:=h;exact (Array.getElem?_eq_some_iff.1 h1).1
  |bldx T E d ds=>obtain ⟨_,_,_,_,_,h1,_⟩:=h;exact (Array.getElem?_eq_some_iff.1 h1).1
  |vec wd n cap f=>obtain ⟨_,_,_,_,_,h1,_⟩:=h;exact (Array.getElem?_eq_some_iff.1 h1).1
 refine⟨H.below.trans (hb.mono H.base_le),fun b o v h=>?_,H.one,fun p hp=>?_,H.nodup,fun t ht=>?_,H.tnodup,H.tfin,H.tdist⟩
 ·have h1:=H.imm b o v h
  have:=H.imm_lt h
  rw[<- h1]
  exact Below.cell hb (p:=⟨b,o,none⟩) this
 ·obtain ⟨h1,h2,h3⟩:=H.objs p hp
  exact⟨h1,h2,h3.of_heap (hb.block _ (hlt _ _ h3))⟩
 ·obtain ⟨x,h1,h2,h3⟩:=H.toks t ht
  refine⟨x,h1,?_,h3⟩
  cases x with
  |no=>trivial
  | «at» b n cap wd =>
   obtain ⟨q1,q2,arr,E,fz,q3,q4⟩:=h2
   have:b<w.heap.size:=(Array.getElem?_eq_some_iff.1 q3).1
   exact⟨q1,q2,arr,E,fz,(hb.block b this).trans q3,q4⟩
theorem ACalls.of_kept{P : Program}{f : FuncId}{ds : List D}{d : D}{S : St}(hf : FnOk P f)
  (h:∀(C:Ctx) (args:Array Value) (w:World),RepL C ds args.toList->Calls P f args w fun e w'=>(∃v,e=.returned v/\Rep C d v)/\Below w.heap.size w w'):ACalls P f ds S (fun r S'=>r=.ret d/\S'=S) :=
 ⟨hf,fun C F args w ha hs=>(h C args w ha).mono fun _ w' ⟨⟨v,he,hv⟩,hb⟩=>⟨C,.ret d,S,.refl C,hs.kept hb,by subst he;exact hv,rfl,rfl⟩⟩
theorem ACalls.of_shelf{P : Program}{f : FuncId}{ds : List D}{d : D}(hf : FnOk P f)
  (h:∀(C:Ctx) (args:Array Value) (w:World),RepL C ds args.toList->Calls P f args w fun e w'=>(∃v,e=.returned v/\Rep C d v)/\Below w.heap.size w w'):ACalls P f ds ⟨[],[]⟩ (SpecR (sC ds d) ()) :=
 (ACalls.of_kept hf h).mono fun _ _ ⟨h1,h2⟩=>⟨(),trivial,h1,h2⟩
theorem ACalls.of_shelf_g{P : Program}{f : FuncId}{ds : List D}{d : D}(hf : FnOk P f)
  (h:∀(C:Ctx) (args:Array Value) (w:World),RepL C ds args.toList->G0 C.w0->Below C.w0.heap.size C.w0 w->Calls P f args w fun e w'=>(∃v,e=.returned v/\Rep C d v)/\Below w.heap.size w w'):ACalls P f ds ⟨[],[]⟩ (SpecR (sC ds d) ()) :=
 ⟨hf,fun C F args w ha hs=>(h C args w ha C.ok hs.below).mono fun _ w' ⟨⟨v,he,hv⟩,hb⟩=>⟨C,.ret d,_,.refl C,hs.kept hb,by subst he;exact hv,(),trivial,rfl,rfl⟩⟩
theorem R8{P:Program}{n:String}{vs:Array Value}{w w':World}(h:w.var? P n=some vs)(hb:Below w.heap.size w w'):w'.var? P n=some vs:=by
 unfold World.var? at h ⊢
 cases hg:P.globalNamed n with
 |none=>rw[hg] at h;cases h
 |some g =>
  rw[hg] at h
  simp only[Option.bind_some] at h ⊢
  have hlt:g<w.heap.size:=by
   cases hh:w.heap[g]? with
   |none=>rw[hh] at h;cases h
   |some o=>exact (Array.getElem?_eq_some_iff.1 hh).1
  rw[hb.block g hlt];exact h
variable {P:Program} {W:World}
theorem ReadAt.weak{n:Nat}{t:TypeId}{R R':List D->Prop}(h:ReadAt P W n t R)(k:∀(hG:G0 W) ds vs,R ds->RepL (Od W hG) ds vs->∃ds',R' ds'/\RepL (Od W hG) ds' vs):ReadAt P W n t R':=by
 intro hG H enc cs d ps hd hw
 obtain ⟨⟨ds,h1,h2⟩,h3⟩:=h hG H enc cs d ps hd hw
 exact⟨k hG _ _ h1 h2,h3⟩
def RSliceA(w:Nat)(R:List D->Prop):List D->Prop:=fun ds=>∃l:List (List D),(∀x∈l,R x)/\l.length<=By/\ds=[.sl w l.length (fun i=>l.getD i []) .any]
theorem E9{t e:TypeId}{w:Nat}{R:List D->Prop}(ht:P.underlying t=some (.slice e))(hw:P.cellsOf e=w)(hc:0<w)(hby:0<P.bytesOf e){n:Nat}(he:ReadAt P W n e R):ReadAt P W (n+1) t (RSliceA w R):=by
 refine (Bek ht hw hc hby he).weak ?_
 rintro hG ds vs (rfl | ⟨l,h1,hl,rfl⟩) h
 ·refine⟨_,⟨[],by simp,by simp[By],rfl⟩,?_⟩
  refine B5 _ _ ?_ _ _ h
  simp[Br,Bg,chk,BE]
 ·exact⟨_,⟨l,h1,hl,rfl⟩,h⟩
theorem rows_of{α:Type}{R:List D->Prop}{g:α->List D}{Q:α->Prop}(hR:∀x,R x->∃a,Q a/\x=g a):∀(l:List (List D)),(∀x∈l,R x)->∃l':List α,(∀a∈l',Q a)/\l=l'.map g
 | [],_=>⟨[],by simp,rfl⟩
 |x::l,h=>by
  obtain ⟨a,q,e⟩:=hR x (h x (by simp))
  obtain ⟨l',q',e'⟩:=rows_of hR l fun y hy=>h y (by simp[hy])
  refine⟨a::l',?_,by rw[e,e'];rfl⟩
  intro b hb
  rcases List.mem_cons.1 hb with rfl | hb
  ·exact q
  ·exact q' b hb
def refV:Value->Bool
 |.slice _ _ _=>true
 |.pointer _=>true
 |_=>false
structure Ctx.back (C2 C':Ctx) (x:Nat):Prop where
 w0:C'.w0.heap.size<=C2.w0.heap.size
 tok:C'.tok=C2.tok
 imm:∀b o,b≠x->C'.imm b o=C2.imm b o
 old:∀o v,C2.imm x o=some v->refV v=true
end Go.Ab
