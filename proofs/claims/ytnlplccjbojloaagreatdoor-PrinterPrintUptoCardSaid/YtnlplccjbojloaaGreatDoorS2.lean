/- Functions of the given program and what each of them computes: lemmas towards the statement, their conditions stated with each of them. -/
import Derived.Test.YtnlplccjbojloaaGreatDoorS1
namespace Go.Proofs.YtnlplccjbojloaaGreatDoor
open Go Go.Ab
set_option maxRecDepth 100000
noncomputable section
def Bq(s:Sm):List Nd:=if s.kd=3 then [s.te,s.nd] else [s.nd]
def BH(n:Nd):List Nd:=n.ki++n.bo.flatMap Bq
mutual
def dpN:Nd->Nat
 |.mk _ _ _ _ _ _ _ ki bo _ _ _=>1+max (dpL ki) (dpB bo)
def dpL:List Nd->Nat
 | []=>0
 |x::r=>max (dpN x) (dpL r)
def dpB:List Sm->Nat
 | []=>0
 |x::r=>max (dpM x) (dpB r)
def dpM:Sm->Nat
 |.mk kd _ _ _ te nd=>if kd=3 then max (dpN te) (dpN nd) else dpN nd
end
mutual
def szN:Nd->Nat
 |.mk _ _ _ _ _ _ _ ki bo _ _ _=>1+szL ki+szB bo
def szL:List Nd->Nat
 | []=>0
 |x::r=>szN x+szL r
def szB:List Sm->Nat
 | []=>0
 |x::r=>szM x+szB r
def szM:Sm->Nat
 |.mk kd _ _ _ te nd=>if kd=3 then szN te+szN nd else szN nd
end
theorem UG:∀a b:List Nd,dpL (a++b)=max (dpL a) (dpL b)
 | [],b=>by simp only[List.nil_append,dpL];omega
 |x::a,b=>by simp only[List.cons_append,dpL,UG a b];omega
theorem I9:∀a b:List Nd,szL (a++b)=szL a+szL b
 | [],b=>by simp only[List.nil_append,szL];omega
 |x::a,b=>by simp only[List.cons_append,szL,I9 a b];omega
theorem Bg9(s:Sm):dpM s=dpL (Bq s):=by
 cases s with
 |mk kd at_ nm sl te nd =>
  have e:Bq (.mk kd at_ nm sl te nd)=if kd=3 then [te,nd] else [nd]:=rfl
  rw[e,dpM]
  split<;>(simp only[dpL];omega)
theorem BhN(s:Sm):szM s=szL (Bq s):=by
 cases s with
 |mk kd at_ nm sl te nd =>
  have e:Bq (.mk kd at_ nm sl te nd)=if kd=3 then [te,nd] else [nd]:=rfl
  rw[e,szM]
  split<;>(simp only[szL];omega)
theorem Uc:∀l:List Sm,dpB l=dpL (l.flatMap Bq)
 | []=>by simp only[dpB,List.flatMap_nil,dpL]
 |s::l=>by rw[dpB,List.flatMap_cons,UG,Bg9,Uc l]
theorem TC:∀l:List Sm,szB l=szL (l.flatMap Bq)
 | []=>by simp only[szB,List.flatMap_nil,szL]
 |s::l=>by rw[szB,List.flatMap_cons,I9,BhN,TC l]
theorem TQ(n:Nd):dpN n=1+dpL (BH n):=by
 cases n
 simp only[dpN,BH,Nd.ki,Nd.bo,UG,Uc]
theorem MR(n:Nd):szN n=1+szL (BH n):=by
 cases n
 simp only[szN,BH,Nd.ki,Nd.bo,I9,TC]
 omega
theorem BgC(n:Nd):1<=dpN n:=by rw[TQ];omega
theorem BaR(n:Nd):1<=szN n:=by rw[MR];omega
theorem BbM:∀ {l:List Nd} {x:Nd},x∈l->dpN x<=dpL l
 |y::l,x,h=>by
  simp only[dpL]
  rcases List.mem_cons.1 h with rfl | h
  ·omega
  ·have:=BbM h;omega
theorem UK:∀ {l:List Nd} {x:Nd},x∈l->szN x<=szL l
 |y::l,x,h=>by
  simp only[szL]
  rcases List.mem_cons.1 h with rfl | h
  ·omega
  ·have:=UK h;omega
def primL : List (List UInt8) := ["", "+", "-", "*", "%", "|", "^", "min", "max", "<", "<=", "=", "~=", ">=", ">", "and", "or", "not", "shape", "reshape", "tally", "depth", ",", "stack", "iota", "take", "drop", "first", "reverse", "rotate", "transpose", "from", "pick", "select", "amend", "up", "down", "sort", "find", "in", "unique", "where", "copy", "expand", "cut", "encode", "decode", "box", "open", "same", "kind", "ord", "chr", "format", "left", "right"].map asc
def opL : List (List UInt8) := ["", "/", "\\", "each", "swap", "outer", "inner", "rank", "power", "stencil", "atop", "over"].map asc
def Cf(p:Int):List UInt8:=if p<1\/56<=p then [] else primL.getD p.toNat []
def opT(p:Int):List UInt8:=if p<1\/12<=p then [] else opL.getD p.toNat []
def Th(a:Arr):Bool:=a.k==0&&a.sh.isEmpty&&a.nu.isEmpty&&a.it.isEmpty
def IL(n:Nd)(k:Int):Bool :=
 n.kd==k&&decide (0<=n.at_)&&decide (0<=n.de)&&decide (0<=n.sl)&&decide (0<=n.ss)&&(n.tx.isEmpty||k==2)&&(n.pr==0||k==9)&&(n.op==0||k==17)&&(Th n.va||k==1)&&(n.bo.isEmpty||k==10)
def Cx(n:Nd):Bool:=n.kd==0&&n.at_==0&&n.cl==0&&n.de==0&&n.sl==0&&n.ss==0&&IL n 0&&n.ki.isEmpty
def Bm(n:Nd)(l:List Int):Bool:=n.ki.map Nd.cl==l
def C3(n:Nd):Bool :=
 n.ki.isEmpty&&(
  if n.kd=1 then n.cl==1&&(Bu n.va).1==0&&((n.va.sh.isEmpty&&n.va.k != 3)||(n.va.sh.length==1&&n.va.k==2))
  else if n.kd=2 then decide (1<=n.cl)&&decide (n.cl<=4)&&Ce n.tx
  else if n.kd=6\/n.kd=7\/n.kd=8 then n.cl==1
  else if n.kd=9 then n.cl==2&&!(Cf n.pr).isEmpty
  else if n.kd=11\/n.kd=12\/n.kd=13 then n.cl==2
  else if n.kd=17 then n.cl==(if n.op<=5 then 3 else 4)&&!(opT n.op).isEmpty
  else false)
def IG(n:Nd):Int:=if (n.ki.getD 0 default).kd=17/\((n.ki.getD 0 default).op=7\/(n.ki.getD 0 default).op=8\/(n.ki.getD 0 default).op=9) then 1 else 2
def CR(n:Nd):Bool :=
 if n.kd=3 then n.cl==1&&decide (2<=n.ki.length)&&decide (n.ki.length<=1000)&&Bm n (List.replicate n.ki.length 1)
 else if n.kd=4 then n.cl==1&&Bm n [2,1]
 else if n.kd=5 then n.cl==1&&Bm n [2,1,1]
 else if n.kd=14 then n.cl==2&&Bm n [3,2]
 else if n.kd=15 then n.cl==2&&Bm n [4,2,IG n]
 else if n.kd=16 then n.cl==2&&(Bm n [2,2]||Bm n [2,2,2]||Bm n [1,2,2])
 else false
mutual
/-- A kind of leaf occurs outside inner lambdas. -/
def Ij(k:Int):Nd->Bool
 |.mk kd _ _ _ _ _ _ ki _ _ _ _=>kd==k||(kd != 10&&Blf k ki)
def Blf(k:Int):List Nd->Bool
 | []=>false
 |x::r=>Ij k x||Blf k r
end
def ES(l:List Sm)(k:Int):Bool:=l.any fun s=>(Bq s).any (Ij k)
def Te(n:Nd):Bool :=
 n.ki.isEmpty&&!n.bo.isEmpty&&(n.bo.getD (n.bo.length-1) default).kd==1 &&
  (if n.cl=2 then !(ES n.bo 12)&&!(ES n.bo 13) else if n.cl=3 then ES n.bo 12&&!(ES n.bo 13) else if n.cl=4 then ES n.bo 13 else false)
def CD(k:Nat)(ds:List D)(d:D):Prop:=ACalls Tryz.prog k ds ⟨[],[]⟩ (SpecR (sC ds d) ())
def CS(k:Nat)(ds:List D)(S:St)(d:D):Prop:=ACalls Tryz.prog k ds S (fun r S'=>r=.ret d/\S'=S)
theorem CS.frame{k:Nat}{ds:List D}{S:St}{d:D}(F:St)(h:CS k ds S d):CS k ds (S.add F) d:=by
 refine ((ACalls.frame h F).from fun C F' w H=>H).mono ?_
 rintro r S' ⟨S0,⟨rfl,rfl⟩,rfl⟩
 exact⟨rfl,rfl⟩
theorem CD.at_{k:Nat}{ds:List D}{d:D}(h:CD k ds d)(S:St):CS k ds S d:=ACalls.whole S h
theorem CS.wk{k:Nat}{ds us:List D}{S:St}{d:D}(h:CS k us S d)(hw:wkL ds us):CS k ds S d:=ACalls.wkArgs h hw
theorem CS.cd{k:Nat}{ds:List D}{d:D}(h:CS k ds ⟨[],[]⟩ d):CD k ds d:=ACalls.mono h fun _ _ ⟨h1,h2⟩=>⟨(),trivial,h1,h2⟩
theorem Co{k : Nat}{β : Type}{ds : List D}{S : St}{d : β -> D}{p : β -> Prop}(h : ∀x, p x -> CS k ds S (d x)) :
  (∀x,(pE ds S d p).pre x->ACalls Tryz.prog k ((pE ds S d p).args x) ((pE ds S d p).st x) (SpecR (pE ds S d p) x))/\(∀x,(pE ds S d p).fit=some x->(pE ds S d p).pre x->BD ds ((pE ds S d p).args x)/\leS ((pE ds S d p).st x) S)/\((pE ds S d p).all=true->∀x,(pE ds S d p).pre x->BD ds ((pE ds S d p).args x)/\(pE ds S d p).st x=S) :=
 ⟨fun x hp=>ACalls.mono (h x hp) fun _ _ ⟨h1,h2⟩=>⟨(),trivial,h1,h2⟩,fun _ e=>(by cases e),fun _ _ _=>⟨Bk ds,rfl⟩⟩
def pA(ds:List D)(S:St)(d:D)(p:Prop):FnSpec:=pE (β:=Unit) ds S (fun _=>d) fun _=>p
theorem Bo{k : Nat}{ds : List D}{S : St}{d : D}{p : Prop}(h : p -> CS k ds S d) :
  (∀x,(pA ds S d p).pre x->ACalls Tryz.prog k ((pA ds S d p).args x) ((pA ds S d p).st x) (SpecR (pA ds S d p) x))/\(∀x,(pA ds S d p).fit=some x->(pA ds S d p).pre x->BD ds ((pA ds S d p).args x)/\leS ((pA ds S d p).st x) S)/\((pA ds S d p).all=true->∀x,(pA ds S d p).pre x->BD ds ((pA ds S d p).args x)/\(pA ds S d p).st x=S) :=
 Co fun _ hp=>h hp
def sS(ds:List D)(S:St)(d:D):FnSpec where
 β:=Unit
 α:=Unit
 args:=fun _=>ds
 st:=fun _=>S
 pre:=fun _=>True
 post:=fun _ _=>True
 res:=fun _ _=>.ret d
 out:=fun _ _=>S
theorem CS.of{k:Nat}{ds:List D}{S:St}{d:D}(h:ACalls Tryz.prog k ((sS ds S d).args ()) ((sS ds S d).st ()) (SpecR (sS ds S d) ())):CS k ds S d :=
 ACalls.mono h fun _ _ ⟨_,_,h2,h3⟩=>⟨h2,h3⟩
theorem CS.to{k:Nat}{ds:List D}{S S':St}{d:D}(h:CS k ds S' d)(h1:StTo S S')(h2:StTo S' S):CS k ds S d :=
 ACalls.to (ACalls.from h h1) fun r S0 ⟨e1,e2⟩=>⟨S,by rw[e2];exact h2,e1,rfl⟩
theorem CS.front{k:Nat}{ds:List D}{os:List (Nat×Nat×AObj)}{d:D}(o:Nat×Nat×AObj)(h:CS k ds ⟨os,[]⟩ d):CS k ds ⟨o::os,[]⟩ d:=by
 have p:List.Perm (os.map (·.2)++[o.2]) (o.2::os.map (·.2)):=List.perm_append_singleton _ _
 refine CS.to (CS.frame ⟨[o],[]⟩ h) (StTo.perm (r1:=[]) (r2:=[]) ?_ ?_) (StTo.perm (r1:=[]) (r2:=[]) ?_ ?_)
 ·simp[St.add]
 ·simp[St.add]
 ·simpa[St.add] using p.symm
 ·simp[St.add]
def Ei{α:Type}(p:α->Bool):List α->Int->Int
 | [],_=>-1
 |x::r,i=>if p x then i else Ei p r (i+1)
theorem EA{α:Type}(p:α->Bool):∀(l:List α) (i:Int),0<=i->(decide (0<=Ei p l i))=l.any p
 | [],i,_=>by simp[Ei]
 |x::r,i,h=>by
  rw[Ei]
  by_cases hx:p x=true
  ·rw[if_pos hx];simp[hx,h]
  ·rw[if_neg hx,EA p r (i+1) (by omega)];simp[hx]
structure IdxG {α:Type} (p:α->Bool) (l:List α) (i:Nat):Prop where
 hi:i<=l.length
 hg:Ei p (l.drop i) i=Ei p l 0
theorem IdxG.step{α:Type}[Inhabited α]{p:α->Bool}{l:List α}{i:Nat}(h:IdxG p l i)(hlt:i<l.length):(p (l.getD i default)=true->Ei p l 0=i)/\(p (l.getD i default)=false->IdxG p l (i+1)):=by
 have hg:=h.hg
 rw[Gt hlt,Ei] at hg
 refine⟨fun e=>?_,fun e=>?_⟩
 ·rw[if_pos e] at hg;exact hg.symm
 ·rw[if_neg (by rw[e];exact Bool.false_ne_true)] at hg;exact⟨by omega,hg⟩
theorem IdxG.done{α:Type}{p:α->Bool}{l:List α}{i:Nat}(h:IdxG p l i)(hge:¬(i:Int)<l.length):Ei p l 0 = -1:=by
 have hg:=h.hg
 have:i=l.length:=by have:=h.hi;omega
 rw[this,List.drop_length,Ei] at hg
 exact hg.symm
def isN(b:Nd)(ds:List D)(ex:List D):Prop:=wkL ds (.agg b.row1::ex)
def isN2(b:Nd)(ds:List D)(ex:List D):Prop:=wkL ds (.agg b.row2::ex)
def isS(b:Sm)(ds:List D)(ex:List D):Prop:=wkL ds (.agg b.row1::ex)
theorem CD.wk{k:Nat}{ds us:List D}{d:D}(h:CD k us d)(hw:wkL ds us):CD k ds d:=BpX hw h
theorem Bl(n:Nd)(ex:List D):isN n (.agg n.row1::ex) ex:=Be _
theorem CJ(n:Nd)(ex:List D):isN2 n (.agg n.row2::ex) ex:=Be _
theorem Il(s:Sm)(ex:List D):isS s (.agg s.row1::ex) ex:=Be _
theorem CD.down{k:Nat}{n:Nd}{ex:List D}{d:D}(h:CD k (.agg n.row2::ex) d):CD k (.agg n.row1::ex) d :=
 h.wk (by simp only[wkL,wkD];exact⟨Mt n,Be _⟩)
theorem CD.isN{k:Nat}{n:Nd}{ds ex:List D}{d:D}(h:CD k (.agg n.row2::ex) d)(hi:isN n ds ex):CD k ds d:=h.down.wk hi
theorem CD.isN2{k:Nat}{n:Nd}{ds ex:List D}{d:D}(h:CD k (.agg n.row2::ex) d)(hi:isN2 n ds ex):CD k ds d:=h.wk hi
theorem BW{l:List Nd}{i:Nat}(h:i<l.length):l.getD i default∈l:=by
 rw[List.getD_eq_getElem?_getD,List.getElem?_eq_getElem h];exact List.getElem_mem h
theorem C4{l:List Sm}{i:Nat}(h:i<l.length):l.getD i default∈l:=by
 rw[List.getD_eq_getElem?_getD,List.getElem?_eq_getElem h];exact List.getElem_mem h
mutual
def Bz:Nd->Bool
  | .mk kd at_ cl tx pr op va ki bo de sl ss =>
    IL (.mk kd at_ cl tx pr op va ki bo de sl ss) kd &&
      (if kd = 10 then Te (.mk kd at_ cl tx pr op va ki bo de sl ss) && (decide (bo.length <= 1000) && Cc true [] bo)
       else C3 (.mk kd at_ cl tx pr op va ki bo de sl ss) || (CR (.mk kd at_ cl tx pr op va ki bo de sl ss) && Rb ki))
def Rb:List Nd->Bool
 | []=>true
 |x::r=>Bz x&&Rb r
def Cc(g:Bool)(names:List (List UInt8)):List Sm->Bool
 | []=>true
 |x::r=>OR g names x&&Cc g (if x.kd=2 then names++[x.nm] else names) r
def OR(g:Bool)(names:List (List UInt8)):Sm->Bool
  | .mk kd at_ nm sl te nd => decide (0 <= at_) && Bz nd &&
    (if kd = 1 then nd.cl == 1 && nm.isEmpty && sl == 0 && Cx te
     else if kd = 2 then Ce nm && !(names.contains nm) && (nd.cl == 1 || nd.cl == 2 || nd.kd == 10) && decide (0 <= sl) && Cx te
     else if kd = 3 then g && Bz te && te.cl == 1 && nd.cl == 1 && nm.isEmpty && sl == 0
     else false)
end
def BP(g:Bool)(l:List Sm):Bool:=decide (l.length<=1000)&&Cc g [] l
theorem CF(n:Nd):Bz n=(IL n n.kd&&(if n.kd=10 then Te n&&BP true n.bo else C3 n||(CR n&&n.ki.all Bz))):=by
 have e:∀l:List Nd,Rb l=l.all Bz:=by
  intro l
  induction l with
  |nil=>simp only[Rb,List.all_nil]
  |cons x r ih=>simp only[Rb,List.all_cons,ih]
 cases n
 simp only[Bz,e]
 rfl
theorem GE(g : Bool)(names : List (List UInt8))(s : Sm) : OR g names s = (decide (0 <= s.at_) && Bz s.nd &&
    (if s.kd = 1 then s.nd.cl == 1 && s.nm.isEmpty && s.sl == 0 && Cx s.te
     else if s.kd = 2 then Ce s.nm && !(names.contains s.nm) && (s.nd.cl == 1 || s.nd.cl == 2 || s.nd.kd == 10) && decide (0 <= s.sl) && Cx s.te
     else if s.kd = 3 then g && Bz s.te && s.te.cl == 1 && s.nd.cl == 1 && s.nm.isEmpty && s.sl == 0
     else false)) := by
  cases s
  simp only [OR]
  rfl
def RE(l:List Sm):Bool:=[6,7,11,12,13].any fun k=>ES l k
def BU(n:Nd):Int:=if 60<dpN n then 8 else if 16384<szN n then 21 else if Bz n=true then 0 else 11
def Bom(n:Nd):Int:=if BU n≠0 then BU n else if RE [.mk 1 0 [] 0 nd0 n]=true then 11 else 0
def B2(l:List Sm):Int :=
 if 1000<l.length then 2 else if 60<dpB l then 8 else if 16384<szB l then 21
 else if (BP false l&&!RE l)=true then 0 else 11
def TY(n:Nd):Bool:=decide (0<=n.at_)&&decide (0<=n.de)&&decide (0<=n.sl)&&decide (0<=n.ss)
def Ge(n:Nd)(tx pr op va ki bo:Bool):Bool:=(tx||n.tx.isEmpty)&&(pr||n.pr==0)&&(op||n.op==0)&&(va||Th n.va)&&(ki||n.ki.isEmpty)&&(bo||n.bo.isEmpty)
def EE(op:Int):Int:=if op<1\/11<op then 0 else if op<=5 then 3 else 4
def OG(n:Nd):Bool :=
 if n.kd=1 then Ge n false false false true false false&&n.cl==1&&(Bu n.va).1==0&&((n.va.sh.isEmpty&&n.va.k != 3)||(n.va.sh.length==1&&n.va.k==2))
 else if n.kd=2 then Ge n true false false false false false&&Ce n.tx&&decide (1<=n.cl)&&decide (n.cl<=4)
 else if n.kd=6\/n.kd=7\/n.kd=8 then Ge n false false false false false false&&n.cl==1
 else if n.kd=9 then Ge n false true false false false false&&n.cl==2&&decide (1<=n.pr)&&decide (n.pr<=55)
 else if n.kd=11\/n.kd=12\/n.kd=13 then Ge n false false false false false false&&n.cl==2
 else if n.kd=17 then Ge n false false true false false false&&EE n.op != 0&&n.cl==EE n.op
 else false
def Gk(n:Nd):Bool := Ge n false false false false true false &&
  (if n.kd = 3 then Bm n (List.replicate n.ki.length 1) && n.cl == 1 && decide (2 <= n.ki.length) && decide (n.ki.length <= 1000)
   else if n.kd = 4 then n.cl == 1 && Bm n [2,1]
   else if n.kd = 5 then n.cl == 1 && Bm n [2,1,1]
   else if n.kd = 14 then n.cl == 2 && Bm n [3,2]
   else if n.kd = 15 then n.cl == 2 && Bm n [4,2,IG n]
   else if n.kd = 16 then n.cl == 2 && (Bm n [2,2] || Bm n [2,2,2] || Bm n [1,2,2])
   else false)
theorem Bcc(p:Int):(Cf p).isEmpty=!(decide (1<=p)&&decide (p<=55)):=by
 have h:∀n,n<56->(primL.getD n []).isEmpty=!(decide (1<=n)):=by decide +kernel
 unfold Cf
 split
 ·rename_i hc
  have:(decide (1<=p)&&decide (p<=55))=false:=by
   rw[Bool.and_eq_false_iff,decide_eq_false_iff_not,decide_eq_false_iff_not];omega
  rw[this];rfl
 ·rename_i hc
  have:(decide (1<=p)&&decide (p<=55))=true:=by
   rw[Bool.and_eq_true,decide_eq_true_eq,decide_eq_true_eq];omega
  rw[this,h _ (by omega)]
  have:(1:Nat)<=p.toNat:=by omega
  simp[this]
theorem Bkm(p:Int):(opT p).isEmpty=!(decide (1<=p)&&decide (p<=11)):=by
 have h:∀n,n<12->(opL.getD n []).isEmpty=!(decide (1<=n)):=by decide +kernel
 unfold opT
 split
 ·rename_i hc
  have:(decide (1<=p)&&decide (p<=11))=false:=by
   rw[Bool.and_eq_false_iff,decide_eq_false_iff_not,decide_eq_false_iff_not];omega
  rw[this];rfl
 ·rename_i hc
  have:(decide (1<=p)&&decide (p<=11))=true:=by
   rw[Bool.and_eq_true,decide_eq_true_eq,decide_eq_true_eq];omega
  rw[this,h _ (by omega)]
  have:(1:Nat)<=p.toNat:=by omega
  simp[this]
theorem BcV(n:Nd):IL n n.kd=(TY n&&(n.tx.isEmpty||n.kd==2)&&(n.pr==0||n.kd==9)&&(n.op==0||n.kd==17)&&(Th n.va||n.kd==1)&&(n.bo.isEmpty||n.kd==10)):=by
 unfold IL TY
 simp
theorem Bi6(op:Int):(EE op != 0)=(decide (1<=op)&&decide (op<=11))/\((EE op != 0)=true->EE op=if op<=5 then 3 else 4):=by
 unfold EE
 by_cases h:op<1\/11<op
 ·rw[if_pos h]
  have:(decide (1<=op)&&decide (op<=11))=false:=by
   rw[Bool.and_eq_false_iff,decide_eq_false_iff_not,decide_eq_false_iff_not];omega
  rw[this]
  exact⟨rfl,fun h=>by cases h⟩
 ·rw[if_neg h]
  have:(decide (1<=op)&&decide (op<=11))=true:=by
   rw[Bool.and_eq_true,decide_eq_true_eq,decide_eq_true_eq];omega
  rw[this]
  refine⟨?_,fun _=>rfl⟩
  split<;>rfl
theorem BlR(n:Nd)(v:Bool)(h:n.kd≠10):(TY n&&(OG n||(Gk n&&v)))=(IL n n.kd&&(C3 n||(CR n&&v))):=by
 rw[BcV]
 obtain ⟨o1,o2⟩:=Bi6 n.op
 have h10:(n.kd==10)=false:=by simpa using h
 cases hp:TY n with
 |false=>simp
 |true =>
  unfold OG Gk C3 CR Ge
  by_cases e1:n.kd=1
  ·simp[e1]
   cases n.tx.isEmpty<;>cases n.ki.isEmpty<;>cases n.bo.isEmpty<;>simp
   ac_rfl
  by_cases e2:n.kd=2
  ·simp[e2]
   cases n.ki.isEmpty<;>cases n.bo.isEmpty<;>simp
   ac_rfl
  by_cases e3:n.kd=3
  ·simp[e3]
   cases n.tx.isEmpty<;>cases n.bo.isEmpty<;>simp
   ac_rfl
  by_cases e4:n.kd=4
  ·simp[e4]
   cases n.tx.isEmpty<;>cases n.bo.isEmpty<;>simp
   ac_rfl
  by_cases e5:n.kd=5
  ·simp[e5]
   cases n.tx.isEmpty<;>cases n.bo.isEmpty<;>simp
   ac_rfl
  by_cases e6:n.kd=6\/n.kd=7\/n.kd=8
  ·rcases e6 with e | e | e <;>
   ·simp[e]
    cases n.tx.isEmpty<;>cases n.ki.isEmpty<;>cases n.bo.isEmpty<;>simp
  by_cases e9:n.kd=9
  ·simp[e9,Bcc]
   cases n.tx.isEmpty<;>cases n.ki.isEmpty<;>cases n.bo.isEmpty<;>simp
   ac_rfl
  by_cases e11:n.kd=11\/n.kd=12\/n.kd=13
  ·rcases e11 with e | e | e <;>
   ·simp[e]
    cases n.tx.isEmpty<;>cases n.ki.isEmpty<;>cases n.bo.isEmpty<;>simp
  by_cases e14:n.kd=14
  ·simp[e14]
   cases n.tx.isEmpty<;>cases n.bo.isEmpty<;>simp
   ac_rfl
  by_cases e15:n.kd=15
  ·simp[e15]
   cases n.tx.isEmpty<;>cases n.bo.isEmpty<;>simp
   ac_rfl
  by_cases e16:n.kd=16
  ·simp[e16]
   cases n.tx.isEmpty<;>cases n.bo.isEmpty<;>simp
   ac_rfl
  by_cases e17:n.kd=17
  ·simp only[e17]
   rw[Bkm,<- o1]
   cases ho:EE n.op != 0 with
   |false=>simp
   |true =>
    rw[o2 ho]
    simp
    cases n.tx.isEmpty<;>cases n.ki.isEmpty<;>cases n.bo.isEmpty<;>simp
  ·simp only[e1,e2,e3,e4,e5,e6,e9,e11,e14,e15,e16,e17,if_false]
   simp
mutual
def Cd(k:Int):Nd->Bool
 |.mk kd _ _ _ _ _ _ ki _ _ _ _=>kd==k||BcR k ki
def BcR(k:Int):List Nd->Bool
 | []=>false
 |x::r=>Cd k x||BcR k r
end
def Eo(l:List Sm)(k:Int):Bool:=l.any fun s=>Cd k s.te||Cd k s.nd
theorem RR(k:Int):∀l:List Nd,BcR k l=l.any (Cd k)
 | []=>by simp only[BcR,List.any_nil]
 |x::r=>by simp only[BcR,List.any_cons,RR k r]
theorem Bb6(k:Int):∀l:List Nd,Blf k l=l.any (Ij k)
 | []=>by simp only[Blf,List.any_nil]
 |x::r=>by simp only[Blf,List.any_cons,Bb6 k r]
theorem Wg(k:Int)(n:Nd):Cd k n=(n.kd==k||n.ki.any (Cd k)):=by
 cases n
 simp only[Cd,RR]
 rfl
theorem BfR(k:Int)(n:Nd):Ij k n=(n.kd==k||(n.kd != 10&&n.ki.any (Ij k))):=by
 cases n
 simp only[Ij,Bb6]
 rfl
theorem T9{α:Type}{p q:α->Bool}:∀ {l:List α},(∀x∈l,p x=q x)->l.any p=l.any q
 | [],_=>rfl
 |x::l,h=>by
  simp only[List.any_cons]
  rw[h x (by simp),T9 fun y hy=>h y (by simp[hy])]
theorem Nd.size_kid{n x:Nd}(h:x∈n.ki):SizeOf.sizeOf x<SizeOf.sizeOf n:=by
 cases n with
 |mk kd at_ cl tx pr op va ki bo de sl ss =>
  have:=List.sizeOf_lt_of_mem (show x∈ki from h)
  simp only[Nd.mk.sizeOf_spec]
  omega
theorem Nd.size_stmt{n:Nd}{s:Sm}(h:s∈n.bo):SizeOf.sizeOf s<SizeOf.sizeOf n:=by
 cases n with
 |mk kd at_ cl tx pr op va ki bo de sl ss =>
  have:=List.sizeOf_lt_of_mem (show s∈bo from h)
  simp only[Nd.mk.sizeOf_spec]
  omega
theorem Sm.size_te(s:Sm):SizeOf.sizeOf s.te<SizeOf.sizeOf s:=by
 cases s
 simp only[Sm.te,Sm.mk.sizeOf_spec]
 omega
theorem Sm.size_nd(s:Sm):SizeOf.sizeOf s.nd<SizeOf.sizeOf s:=by
 cases s
 simp only[Sm.nd,Sm.mk.sizeOf_spec]
 omega
theorem EG{n:Nd}(h:Bz n=true):(∀x∈n.ki,Bz x=true)/\(n.kd=10->n.ki=[]):=by
 rw[CF,Bool.and_eq_true] at h
 have h:=h.2
 by_cases hk:n.kd=10
 ·rw[if_pos hk,Bool.and_eq_true] at h
  have h1:=h.1
  unfold Te at h1
  simp only[Bool.and_eq_true,List.isEmpty_iff] at h1
  have e:n.ki=[]:=h1.1.1.1
  exact⟨fun x hx=>by rw[e] at hx;simp at hx,fun _=>e⟩
 ·rw[if_neg hk,Bool.or_eq_true,Bool.and_eq_true] at h
  refine⟨fun x hx=>?_,fun e=>(hk e).elim⟩
  rcases h with h | h
  ·unfold C3 at h
   simp only[Bool.and_eq_true,List.isEmpty_iff] at h
   rw[h.1] at hx
   simp at hx
  ·exact List.all_eq_true.1 h.2 x hx
theorem Tv(k:Int)(n:Nd)(h:Bz n=true):Cd k n=Ij k n:=by
 obtain ⟨h1,h2⟩:=EG h
 rw[Wg,BfR]
 have e:n.ki.any (Cd k)=n.ki.any (Ij k):=T9 fun x hx=>by
  have:=Nd.size_kid hx
  exact Tv k x (h1 x hx)
 rw[e]
 by_cases hk:n.kd=10
 ·rw[h2 hk];simp
 ·have:(n.kd != 10)=true:=by simpa using hk
  rw[this,Bool.true_and]
termination_by SizeOf.sizeOf n
theorem Bhz{n:Nd}{k:Int}(h:Cx n=true)(hk:k≠0):Cd k n=false:=by
 unfold Cx at h
 simp only[Bool.and_eq_true,beq_iff_eq,List.isEmpty_iff] at h
 obtain ⟨⟨⟨⟨⟨⟨⟨h1,_⟩,_⟩,_⟩,_⟩,_⟩,_⟩,h2⟩:=h
 rw[Wg,h1,h2]
 have:((0:Int)==k)=false:=by simpa using fun e=>hk e.symm
 rw[this];rfl
theorem Em{g:Bool}:∀ {l:List Sm} {names:List (List UInt8)},Cc g names l=true->∀s∈l,Bz s.nd=true/\((s.kd=3/\Bz s.te=true/\g=true)\/(s.kd≠3/\Cx s.te=true))
 | [],_,_,s,hs=>by simp at hs
 |x::r,names,h,s,hs=>by
  simp only[Cc,Bool.and_eq_true] at h
  rcases List.mem_cons.1 hs with rfl | hs
  ·have h:=h.1
   rw[GE] at h
   simp only[Bool.and_eq_true] at h
   refine⟨h.1.2,?_⟩
   have h:=h.2
   by_cases h1:s.kd=1
   ·rw[if_pos h1] at h
    simp only[Bool.and_eq_true] at h
    exact .inr ⟨by omega,h.2⟩
   ·rw[if_neg h1] at h
    by_cases h2:s.kd=2
    ·rw[if_pos h2] at h
     simp only[Bool.and_eq_true] at h
     exact .inr ⟨by omega,h.2⟩
    ·rw[if_neg h2] at h
     by_cases h3:s.kd=3
     ·rw[if_pos h3] at h
      simp only[Bool.and_eq_true] at h
      exact .inl ⟨h3,h.1.1.1.1.2,h.1.1.1.1.1⟩
     ·rw[if_neg h3] at h;cases h
  ·exact Em h.2 s hs
theorem Gl{g:Bool}{l:List Sm}(h:BP g l=true){k:Int}(hk:k≠0):Eo l k=ES l k:=by
 unfold BP at h
 rw[Bool.and_eq_true] at h
 unfold Eo ES
 refine T9 fun s hs=>?_
 obtain ⟨h1,h2⟩:=Em h.2 s hs
 unfold Bq
 rcases h2 with ⟨h3,h4,_⟩ | ⟨h3,h4⟩
 ·rw[if_pos h3,Tv k _ h1,Tv k _ h4]
  simp
 ·rw[if_neg h3,Tv k _ h1,Bhz h4 hk]
  simp
def WQ(n:Nd):Bool:=Ge n false false false false false true&&!n.bo.isEmpty&&(n.bo.getD (n.bo.length-1) default).kd==1&&BP true n.bo &&
 (if Eo n.bo 13=true then n.cl==4 else if Eo n.bo 12=true then n.cl==3 else n.cl==2)
theorem Bnu(n:Nd)(h:n.kd=10):(TY n&&WQ n)=(IL n n.kd&&(Te n&&BP true n.bo)):=by
 rw[BcV]
 have e2:(n.kd==2)=false:=by rw[h];rfl
 have e9:(n.kd==9)=false:=by rw[h];rfl
 have e17:(n.kd==17)=false:=by rw[h];rfl
 have e1:(n.kd==1)=false:=by rw[h];rfl
 have e10:(n.kd==10)=true:=by rw[h];rfl
 rw[e2,e9,e17,e1,e10]
 unfold WQ Te Ge
 cases hb:BP true n.bo with
 |false=>simp
 |true =>
  rw[Gl hb (by decide),Gl hb (by decide)]
  cases ES n.bo 12<;>cases ES n.bo 13<;>cases n.ki.isEmpty<;>cases n.bo.isEmpty<;>simp
  all_goals first
   |ac_rfl
   |skip
  all_goals by_cases c2:n.cl=2<;>by_cases c3:n.cl=3<;>by_cases c4:n.cl=4<;>simp[c2,c3,c4]<;>first | omega | ac_rfl
theorem Bij(n:Nd):Bz n=(TY n&&(if n.kd=10 then WQ n else OG n||(Gk n&&n.ki.all Bz))):=by
 rw[CF]
 by_cases h:n.kd=10
 ·rw[if_pos h,if_pos h,Bnu n h]
 ·rw[if_neg h,if_neg h,BlR n _ h]
theorem Bll{α:Type}[Inhabited α]{g:α->List D}{l r:List α}(i:Nat):BM l.length (fun i=>g (l.getD i default)) (fun i=>g (r.getD i default)) i=g ((l++r).getD i default):=by
 unfold BM
 split
 ·rename_i h
  simp[List.getD_eq_getElem?_getD,List.getElem?_append_left h,h]
 ·rename_i h
  simp[List.getD_eq_getElem?_getD,List.getElem?_append_right (Nat.le_of_not_lt h)]
theorem GT(s:Sm):(Bq s).length<=2:=by
 unfold Bq
 split<;>simp
theorem Wm:∀l:List Sm,(l.flatMap Bq).length<=2*l.length
 | []=>by simp
 |s::l=>by
  have:=Wm l
  have:=GT s
  simp only[List.flatMap_cons,List.length_append,List.length_cons]
  omega
theorem BhS(n:Nd):(BH n).length<=n.ki.length+2*n.bo.length:=by
 have:=Wm n.bo
 simp only[BH,List.length_append]
 omega
theorem Baz{l:List Sm}{i:Nat}(h:i<l.length):(l.take (i+1)).flatMap Bq=(l.take i).flatMap Bq++Bq (l.getD i default):=by
 rw[B6 h,List.flatMap_append]
 simp
noncomputable def Epa:Senv:=EC Eu 14 3 [5] (fun _=>([],[]))
def QR(a:Sm):Nd:=Sm.te a
def QaH:Arr:=DA
def XJ:Nd:=Nd.mk Z0 Z0 Z0 [] Z0 Z0 QaH [] [] Z0 Z0 Z0
def QS(a:Sm):Nd:=Sm.nd a
def QoW(a:Sm):List (List D):=[(Nd.rowE (QS a))]
def QT(a:Sm)(b:Nat):Nd:=List.getD (Bq a) b XJ
def Qo0(a:Sm)(b:Nat):List D:=(Nd.rowE (QT a b))
theorem BjZ(s:Sm):CD 29 [.agg s.row1] (gsl 15 Nd.row1 (Bq s)):=by
 refine Bg (A:=sC _ _) (x:=()) (E:=Epa) (eOk BL rfl) Tryz.func29 rfl (by kernel_rfl) rfl (by simp[sC,Epa,EC,E0]) ?_
 refine Bi (T :=
  ∀(x:Nat),True->SM x/\ifB (Sm.kd s==3) (SM x/\SM x/\True/\∃(y:Unit),True/\(N2=LN (Bq s)/\(∀(i:Nat),i<N2->List.getD ((Nd.rowE (QR s))::QoW s) i []=Qo0 s i)/\True)/\True/\True) (SM x/\True/\∃(y:Unit),True/\(N1=LN (Bq s)/\(∀(i:Nat),i<N1->List.getD (QoW s) i []=Qo0 s i)/\True)/\True/\True)) (by kernel_rfl) ?_
 delta DA GI LN N1 N2 N4 SI SM Z0 ZI QR QS QoW QT Qo0 QaH XJ
 simp only[Bf,beq_iff_eq,beq_eq_false_iff_ne,true_and,and_true,exists_const]
 refine fun x _=>⟨fun h=>?_,fun h=>?_⟩
 ·have e:Bq s=[s.te,s.nd]:=if_pos h
  rw[e]
  refine⟨rfl,fun i hi=>?_⟩
  match i,hi with
  |0,_=>rfl
  |1,_=>rfl
 ·have e:Bq s=[s.nd]:=if_neg h
  rw[e]
  refine⟨rfl,fun i hi=>?_⟩
  match i,hi with
  |0,_=>rfl
def Bls(_n:Nd):Con:=fun k ds S=>match k with
 |29=>some (pE (β:=Sm) ds S (fun s=>gsl 15 Nd.row1 (Bq s)) (fun s=>isS s ds []))
 |_=>none
theorem Bjr(n:Nd):ConOk Tryz.prog (Bls n):=by
 intro k ds S A h
 unfold Bls at h
 split at h
 ·injection h with h;subst h
  exact Co fun s e=>CD.at_ (CD.wk (BjZ s) e) _
 ·cases h
noncomputable def Ein0(n:Nd):Senv:={ EC (Bls n) 26 4 [5,9,10,11,12] (fun id=>match id with | 5=>([0,1,2,3,4,6,5,7,8,9],[5,7,8]) | _=>([],[])) with
 ann:=fun b _ S=>match b with
  |0=>some { slots:=[11,3],keep:=[0,1,9,10],α:=Nat×List Nd,st:=fun y=>([.int .i64 y.1,gsl 15 Nd.row1 y.2],S),inv:=fun y=>y.1<=n.bo.length/\y.2=n.ki++(n.bo.take y.1).flatMap Bq,mu:=fun y=>n.bo.length-y.1 }
  |_=>none }
def QaK(a:Nd):List Sm:=Nd.bo a
def VX(a:Nd):Nat:=LN (QaK a)
def Qg5(a:Nd):List Nd:=Nd.ki a
def Qg6(a:Nat)(b:Nd)(c:List Nd):Prop:=a<=VX b/\c=Qg5 b++List.flatMap Bq (List.take a (QaK b))
def Zr(a:Nd):Nat:=LN (Qg5 a)
def XK:Arr:=DA
def JP:Nd:=Nd.mk Z0 Z0 Z0 [] Z0 Z0 XK [] [] Z0 Z0 Z0
def Qg7(a:Nd)(b:Nat):List D:=Nd.row1 (List.getD (Qg5 a) b JP)
def QaL(a:List Nd)(b:Nat):List D:=Nd.row1 (List.getD a b JP)
def Qo1(a:Nd):Int:=Nd.kd a
def Qo2(a:Nd):Int:=Nd.at_ a
def Qo3(a:Nd):Int:=Nd.cl a
def Qo4(a:Nd):List UInt8:=Nd.tx a
def Qo5(a:Nd):Int:=Nd.pr a
def Qo6(a:Nd):Int:=Nd.op a
def QaM(a:Nd):Arr:=Nd.va a
def Qo7(a:Nd):Int:=Arr.k (QaM a)
def Qo8(a:Nd):List Int:=Arr.sh (QaM a)
def Qg8(a:Nd):Nat:=LN (Qo8 a)
def Qo9(a:Nd)(b:Nat):List D:=[ZI (GI (Qo8 a) b)]
def Qpa(a:Nd):List Int:=Arr.nu (QaM a)
def Qg9(a:Nd):Nat:=LN (Qpa a)
def Qpb(a:Nd)(b:Nat):List D:=[ZI (GI (Qpa a) b)]
def Qpc(a:Nd):List Arr:=Arr.it (QaM a)
def Qha(a:Nd):Nat:=LN (Qpc a)
def Qpd(a:Nd)(b:Nat):List D:=Arr.row (List.getD (Qpc a) b XK)
def XL:Sm:=Sm.mk Z0 Z0 [] Z0 JP JP
def XM(a:Nd)(b:Nat):Sm:=List.getD (QaK a) b XL
def Qpk(a:Nd)(b:Nat):List D:=(Sm.row1 (XM a b))
def Qpl(a:Nd):Int:=Nd.de a
def Qpm(a:Nd):Int:=Nd.sl a
def Qpn(a:Nd):Int:=Nd.ss a
def Qpo(a:Nat)(b:Nd):Prop:=(SM a/\(SM (Qo1 b)/\SM (Qo2 b)/\SM (Qo3 b)/\SM (Qo4 b)/\SM (Qo5 b)/\SM (Qo6 b)/\SM (Qo7 b)/\(SM (Qg8 b)/\(∀(i:Nat),i<Qg8 b->SM (Qo9 b i))/\True)/\(SM (Qg9 b)/\(∀(i:Nat),i<Qg9 b->SM (Qpb b i))/\True)/\(SM (Qha b)/\(∀(i:Nat),i<Qha b->SM (Qpd b i))/\True)/\(SM (Zr b)/\(∀(i:Nat),i<Zr b->SM (Qg7 b i))/\True)/\(SM (VX b)/\(∀(i:Nat),i<VX b->SM (Qpk b i))/\True)/\SM (Qpl b)/\SM (Qpm b)/\SM (Qpn b)/\True)/\True)/\True
def Qhb(a:Nd):Int:=(NI (VX a))
def QaP(a:List Nd):Prop:=SM (LI a)
def XN(a:Nd)(b:Nat):Sm:=List.getD (QaK a) (Int.toNat (↑b:Int)) XL
def Qpv(a:Nd)(b:Nat):D:=D.agg (Sm.row1 (XN a b))
def Qpw(a:Sm)(b:Nd)(c:Nat):Prop:=isS a [Qpv b c] []
def QaS(a:List Nd)(b:Sm):Nat:=LN a+LN (Bq b)
def Qpx(a:Nd):D:=D.sl 34 (VX a) (fun i=>Qpk a i) Mode.any
def QOb(a:Nd):D:=D.agg [ZI (Qo1 a),ZI (Qo2 a),ZI (Qo3 a),D.str (Qo4 a),ZI (Qo5 a),ZI (Qo6 a),ZI (Qo7 a),D.sl N1 (Qg8 a) (fun i=>Qo9 a i) Mode.any,D.sl N1 (Qg9 a) (fun i=>Qpb a i) Mode.any,D.sl N4 (Qha a) (fun i=>Qpd a i) Mode.any,D.sl 15 (Zr a) (fun i=>Qg7 a i) Mode.any,Qpx a,ZI (Qpl a),ZI (Qpm a),ZI (Qpn a)]
def Qpy(a:Nat)(b:List Nd)(c:Sm)(d:Nd)(e f:Nat):Prop:=SM a/\Bc (QaS b c*208<=140737488355328/\QaS b c<=9223372036854775807) (∀(_t:Nat),(SM (QOb d)/\SM (D.ref N0 e N0)/\SM (Qpx d)/\SM (ZI (Qhb d))/\True)/\∃(y:Nat×List Nd),Qg6 y.1 d y.2/\VX d-y.1<VX d-f/\(IntKind.wrap IntKind.i64 ((↑f:Int)+Z1)=(NI y.1)/\(QaS b c=LN y.2/\(∀(i:Nat),i<QaS b c->BM (LN b) (fun i=>QaL b i) (fun i=>Nd.row1 (List.getD (Bq c) i JP)) i=QaL y.2 i)/\True)/\True)/\Qpo e d)
theorem Bl7(n:Nd)(h1:n.ki.length<=BC)(h2:n.bo.length<=BC):CD 49 [.agg n.row2] (gsl 15 Nd.row1 (BH n)):=by
 refine Bg (A:=sC _ _) (x:=()) (E:=Ein0 n) (eOk (Bjr n) rfl) Tryz.func49 rfl (by kernel_rfl) rfl (by simp[sC,Ein0,EC,E0]) ?_
 refine Bi (T :=
  ∀(x:Nat),True->SM x/\SM x/\(∃(x_1:Nat×List Nd),Qg6 x_1.1 n x_1.2/\(Z0=(NI x_1.1)/\(Zr n=LN x_1.2/\(∀(i:Nat),i<Zr n->Qg7 n i=QaL x_1.2 i)/\True)/\True)/\Qpo x n)/\∀(x_1:Nat×List Nd),Qg6 x_1.1 n x_1.2->ifB (decide ((NI x_1.1)<Qhb n)) (Bc (Z0<=(NI x_1.1)/\(NI x_1.1)<Qhb n) (∀(x_2:Nat),x≠x_2/\True->SM x_2/\SM x_2/\(QaP x_1.2/\QaP x_1.2/\∀(t:Nat),(SM x_2/\SM (Qpv n x_1.1))/\∃(x_3:Sm),Qpw x_3 n x_1.1/\∀(y:Unit),True->Qpy t x_1.2 x_3 n x x_1.1)/\∃(x_3:Sm),Qpw x_3 n x_1.1/\∀(y:Unit),True->QaP x_1.2/\QaP x_1.2/\∀(t:Nat),Qpy t x_1.2 x_3 n x x_1.1)) (True/\∃(y:Unit),True/\(LN x_1.2=LN (BH n)/\(∀(i:Nat),i<LN x_1.2->QaL x_1.2 i=Nd.row1 (List.getD (BH n) i JP))/\True)/\True/\True)) (by kernel_rfl) ?_
 delta DA GI LI LN N0 N1 N4 NI SI SM Z0 Z1 ZI QaK VX Qg5 Qg6 Zr XK JP Qg7 QaL Qo1 Qo2 Qo3 Qo4 Qo5 Qo6 QaM Qo7 Qo8 Qg8 Qo9 Qpa Qg9 Qpb Qpc Qha Qpd XL XM Qpk Qpl Qpm Qpn Qpo Qhb QaP XN Qpv Qpw QaS Qpx QOb Qpy
 try simp only[<- dm]
 try simp only[<- dn]
 simp only[ne_eq,implies_true,Int.toNat_natCast,Bf,Bd,decide_eq_true_eq,decide_eq_false_iff_not,true_and,and_true,exists_const,forall_const,Prod.exists]
 intro x
 unfold BC at h1 h2
 refine⟨⟨0,n.ki,⟨Nat.zero_le _,by simp⟩,rfl,rfl,fun _ _=>rfl⟩,?_⟩
 rintro ⟨i,l⟩ ⟨hi,hl⟩
 simp only at hi hl ⊢
 refine⟨fun hlt=>⟨⟨by omega,hlt⟩,fun _ _=>?_⟩,fun hge=>?_⟩
 ·have hlt':i<n.bo.length:=by omega
  have hf:=Wm (n.bo.take i)
  have hlen:l.length=n.ki.length+((n.bo.take i).flatMap Bq).length:=by rw[hl,List.length_append]
  have ht:(n.bo.take i).length=i:=by rw[List.length_take];omega
  have h2p:=GT (n.bo.getD i default)
  have w:IntKind.i64.wrap ((i:Int)+1)=((i+1:Nat):Int):=by rw[Ba (by omega) (by omega)];rfl
  refine⟨⟨n.bo.getD i default,Il _ _,⟨by omega,by omega⟩,i+1,l++Bq (n.bo.getD i default),⟨hlt',by rw[Baz hlt',hl,List.append_assoc]⟩,by omega,w,by rw[List.length_append],fun j _=>Bll j⟩,n.bo.getD i default,Il _ _,⟨by omega,by omega⟩,i+1,l++Bq (n.bo.getD i default),⟨hlt',by rw[Baz hlt',hl,List.append_assoc]⟩,by omega,w,by rw[List.length_append],fun j _=>Bll j⟩
 ·have e:i=n.bo.length:=by omega
  rw[e,List.take_length] at hl
  have e2:l=BH n:=hl
  rw[e2]
  first
   |exact⟨rfl,fun _ _=>rfl⟩
   |trivial
def Bep(xm:Nat)(m:Int)(l:List Nd)(p:Nd->Bool):Con:=fun k ds S=>match k with
 |50=>some (pE (β:=Nd) ds S (fun b=>.bool (p b)) (fun b=>isN b ds [.ref 1 xm 0]/\b∈l/\S=⟨[(1,xm,.cells [.int .i64 m])],[]⟩))
 |_=>none
theorem Bhc(xm:Nat)(m:Int){l:List Nd}{p:Nd->Bool}(h:∀b∈l,CS 50 (.agg b.row1::[.ref 1 xm 0]) ⟨[(1,xm,.cells [.int .i64 m])],[]⟩ (.bool (p b))):ConOk Tryz.prog (Bep xm m l p):=by
 intro k ds S A hh
 unfold Bep at hh
 split at hh
 ·injection hh with hh;subst hh
  refine Co fun b ⟨e,hb,hs⟩=>?_
  rw[hs]
  exact (h b hb).wk e
 ·cases hh
noncomputable def EDxx(xm:Nat)(m:Int)(l:List Nd)(p:Nd->Bool):Senv:={ EC (Bep xm m l p) 19 2 [4,5,7,8,9,16] (fun _=>([],[])) with
 ann:=fun b _ S=>match b with
  |0=>some { slots:=[8],keep:=[0,1,6,7],α:=Nat,st:=fun i=>([.int .i64 i],S),inv:=fun i=>IdxG p l i,mu:=fun i=>l.length-i }
  |_=>none }
def QaT(a:Nat)(b:Int):Prop:=(SM a/\(SM b/\True)/\True)/\True
def Qpz:Arr:=DA
def Zs:Nd:=Nd.mk Z0 Z0 Z0 [] Z0 Z0 Qpz [] [] Z0 Z0 Z0
def QY(a:List Nd)(b:Nat):Nd:=List.getD a (Int.toNat (↑b:Int)) Zs
def QOe(a:Nat)(b:Int):St:=St.mk [(N1,a,AObj.cells [ZI b])] []
def QOf(a:List Nd):D:=D.sl 15 (LN a) (fun i=>Nd.row1 (List.getD a i Zs)) Mode.any
theorem Dxx_ok(xm : Nat)(m : Int)(l : List Nd)(p : Nd -> Bool)(h : ∀b∈l, CS 50 (.agg b.row1::[.ref 1 xm 0]) ⟨[(1, xm, .cells [.int .i64 m])], []⟩ (.bool (p b)))(hl : l.length<=maxLen) :
  CS 71 [gsl 15 Nd.row1 l,.fn (.func 50) [] [.ref 1 xm 0]] ⟨[(1,xm,.cells [.int .i64 m])],[]⟩ (.int .i64 (Ei p l 0)):=by
 refine CS.of (Bg (A:=sS _ _ _) (x:=()) (E:=EDxx xm m l p) (eOk (Bhc xm m h) rfl) Tryz.func71 rfl (by kernel_rfl) rfl (by simp[sS,EDxx,EC,E0]) ?_)
 refine Bi (T :=
  (∃(x:Nat),IdxG p l x/\(Z0=(↑x:Int)/\True)/\QaT xm m)/\∀(x:Nat),IdxG p l x->ifB (decide ((↑x:Int)<(LI l))) (Bc (Z0<=(↑x:Int)/\(↑x:Int)<(LI l)) (∃(x_1:Nd),(isN x_1 [D.agg (Nd.rowE (QY l x)),D.ref N1 xm N0] [D.ref N1 xm N0]/\x_1∈l/\SM (QOe xm m))/\∀(y:Unit),True->ifB (p x_1) (True/\∃(y:Unit),True/\(↑x:Int)=Ei p l Z0/\QaT xm m) ((SM (QOf l)/\SM (D.fn (Fn.func (50:Nat)) [] [D.ref N1 xm N0])/\SM D.unk/\SM (ZI (LI l))/\True)/\∃(y:Nat),IdxG p l y/\LN l-y<LN l-x/\(IntKind.wrap IntKind.i64 ((↑x:Int)+Z1)=(↑y:Int)/\True)/\QaT xm m))) (True/\∃(y:Unit),True/\(-1:Int)=Ei p l Z0/\QaT xm m)) (by kernel_rfl) ?_
 delta DA GI LI LN N0 N1 N4 SI SM Z0 Z1 ZI QaT Qpz QOe QOf Zs QY
 try simp only[<- dn]
 simp only[Int.toNat_natCast,Bf,Bd,decide_eq_true_eq,decide_eq_false_iff_not,true_and,and_true,exists_const]
 simp only[maxLen] at hl
 refine⟨⟨0,⟨Nat.zero_le _,by simp⟩,rfl⟩,fun i hh=>⟨fun hlt=>?_,fun hge=>(hh.done hge).symm⟩⟩
 have hlt':i<l.length:=by omega
 obtain ⟨s1,s2⟩:=hh.step hlt'
 have hm:l.getD i default∈l:=by rw[List.getD_eq_getElem?_getD,List.getElem?_eq_getElem hlt'];exact List.getElem_mem hlt'
 refine⟨⟨by omega,hlt⟩,l.getD i default,?_,fun _ _=>⟨fun e=>(s1 e).symm,fun e=>⟨i+1,s2 e,by omega,Ba (by omega) (by omega)⟩⟩⟩
 first
  |exact⟨Be _,hm,rfl⟩
  |exact⟨Be _,hm⟩
def BjS(xm:Nat)(m:Int)(l:List Nd)(p:Nd->Bool):Con:=fun k ds S=>match k with
 |71=>some (pA ds S (.int .i64 (Ei p l 0)) (wkL ds [gsl 15 Nd.row1 l,.fn (.func 50) [] [.ref 1 xm 0]]/\S=⟨[(1,xm,.cells [.int .i64 m])],[]⟩))
 |_=>none
noncomputable def EDxc(xm:Nat)(m:Int)(l:List Nd)(p:Nd->Bool):Senv:=EC (BjS xm m l p) 9 2 [4] (fun _=>([],[]))
def QpD(a:List Nd)(b:Nat):List D:=[D.sl 15 (LN a) (fun i=>Nd.row1 (List.getD a i (Nd.mk Z0 Z0 Z0 [] Z0 Z0 DA [] [] Z0 Z0 Z0))) Mode.any,D.fn (Fn.func (50:Nat)) [] [D.ref N1 b N0]]
def QOg(a:Nat)(b:Int):St:=St.mk [(N1,a,AObj.cells [ZI b])] []
theorem Dxc_ok(xm : Nat)(m : Int)(l : List Nd)(p : Nd -> Bool)(h : ∀b∈l, CS 50 (.agg b.row1::[.ref 1 xm 0]) ⟨[(1, xm, .cells [.int .i64 m])], []⟩ (.bool (p b)))(hl : l.length<=maxLen) :
  CS 48 [gsl 15 Nd.row1 l,.fn (.func 50) [] [.ref 1 xm 0]] ⟨[(1,xm,.cells [.int .i64 m])],[]⟩ (.bool (l.any p)):=by
 refine CS.of (Bg (A:=sS _ _ _) (x:=()) (E:=EDxc xm m l p) (eOk ?_ rfl) Tryz.func48 rfl (by kernel_rfl) rfl (by simp[sS,EDxc,EC,E0]) ?_)
 ·intro k ds S A hh
  try unfold BjS at hh
  try dsimp only at hh
  split at hh
  ·injection hh with hh;subst hh
   refine Bo fun ⟨e,hs⟩=>?_
   rw[hs]
   exact (Dxx_ok xm m l p h hl).wk e
  ·cases hh
 refine Bi (T :=
  ∃(x:Unit),(wkL (QpD l xm) (QpD l xm)/\SM (QOg xm m))/\∀(y:Unit),True->True/\∃(y:Unit),True/\decide (Z0<=Ei p l Z0)=List.any l p/\(SM xm/\(SM m/\True)/\True)/\True) (by kernel_rfl) ?_
 delta DA LN N0 N1 SM Z0 ZI QpD QOg
 simp only[true_and,and_true,exists_const,forall_const]
 first
  |exact⟨Be _,EA _ l 0 (Int.le_refl _)⟩
  |exact⟨⟨Be _,rfl⟩,EA _ l 0 (Int.le_refl _)⟩
def BeK  (l:List Nd)(p:Nd->Bool):Con:=fun k ds S=>match k with
 |76=>some (pE (β:=Nd) ds S (fun b=>.bool (p b)) (fun b=>isN b ds []/\b∈l/\S=⟨[],[]⟩))
 |_=>none
theorem BhQ  {l:List Nd}{p:Nd->Bool}(h:∀b∈l,CS 76 (.agg b.row1::[]) ⟨[],[]⟩ (.bool (p b))):ConOk Tryz.prog (BeK  l p):=by
 intro k ds S A hh
 unfold BeK at hh
 split at hh
 ·injection hh with hh;subst hh
  refine Co fun b ⟨e,hb,hs⟩=>?_
  rw[hs]
  exact (h b hb).wk e
 ·cases hh
noncomputable def ENxx  (l:List Nd)(p:Nd->Bool):Senv:={ EC (BeK  l p) 19 2 [4,5,7,8,9,16] (fun _=>([],[])) with
 ann:=fun b _ S=>match b with
  |0=>some { slots:=[8],keep:=[0,1,6,7],α:=Nat,st:=fun i=>([.int .i64 i],S),inv:=fun i=>IdxG p l i,mu:=fun i=>l.length-i }
  |_=>none }
def QpE:Arr:=DA
def Zt:Nd:=Nd.mk Z0 Z0 Z0 [] Z0 Z0 QpE [] [] Z0 Z0 Z0
def QZ(a:List Nd)(b:Nat):Nd:=List.getD a (Int.toNat (↑b:Int)) Zt
def QOj(a:List Nd):D:=D.sl 15 (LN a) (fun i=>Nd.row1 (List.getD a i Zt)) Mode.any
theorem Nxx_ok  (l : List Nd)(p : Nd -> Bool)(h : ∀b∈l, CS 76 (.agg b.row1::[]) ⟨[], []⟩ (.bool (p b)))(hl : l.length<=maxLen) :
  CS 71 [gsl 15 Nd.row1 l,.fn (.func 76) [] []] ⟨[],[]⟩ (.int .i64 (Ei p l 0)):=by
 refine CS.of (Bg (A:=sS _ _ _) (x:=()) (E:=ENxx  l p) (eOk (BhQ  h) rfl) Tryz.func71 rfl (by kernel_rfl) rfl (by simp[sS,ENxx,EC,E0]) ?_)
 refine Bi (T :=
  (∃(x:Nat),IdxG p l x/\(Z0=(↑x:Int)/\True)/\True/\True)/\∀(x:Nat),IdxG p l x->ifB (decide ((↑x:Int)<(LI l))) (Bc (Z0<=(↑x:Int)/\(↑x:Int)<(LI l)) (∃(x_1:Nd),(isN x_1 [D.agg (Nd.rowE (QZ l x))] []/\x_1∈l/\SM (St.mk [] []))/\∀(y:Unit),True->ifB (p x_1) (RT ((↑x:Int)=Ei p l Z0)) ((SM (QOj l)/\SM (D.fn (Fn.func (76:Nat)) [] [])/\SM D.unk/\SM (ZI (LI l))/\True)/\∃(y:Nat),IdxG p l y/\LN l-y<LN l-x/\(IntKind.wrap IntKind.i64 ((↑x:Int)+Z1)=(↑y:Int)/\True)/\True/\True))) (RT ((-1:Int)=Ei p l Z0))) (by kernel_rfl) ?_
 delta DA GI LI LN N1 N4 SI SM Z0 Z1 ZI QpE Zt QZ QOj RT
 try simp only[<- dn]
 simp only[Int.toNat_natCast,Bf,Bd,decide_eq_true_eq,decide_eq_false_iff_not,true_and,and_true,exists_const]
 simp only[maxLen] at hl
 refine⟨⟨0,⟨Nat.zero_le _,by simp⟩,rfl⟩,fun i hh=>⟨fun hlt=>?_,fun hge=>(hh.done hge).symm⟩⟩
 have hlt':i<l.length:=by omega
 obtain ⟨s1,s2⟩:=hh.step hlt'
 have hm:l.getD i default∈l:=by rw[List.getD_eq_getElem?_getD,List.getElem?_eq_getElem hlt'];exact List.getElem_mem hlt'
 refine⟨⟨by omega,hlt⟩,l.getD i default,?_,fun _ _=>⟨fun e=>(s1 e).symm,fun e=>⟨i+1,s2 e,by omega,Ba (by omega) (by omega)⟩⟩⟩
 first
  |exact⟨Be _,hm,rfl⟩
  |exact⟨Be _,hm⟩
def BlG  (l:List Nd)(p:Nd->Bool):Con:=fun k ds S=>match k with
 |71=>some (pA ds S (.int .i64 (Ei p l 0)) (wkL ds [gsl 15 Nd.row1 l,.fn (.func 76) [] []]/\S=⟨[],[]⟩))
 |_=>none
noncomputable def ENxc  (l:List Nd)(p:Nd->Bool):Senv:=EC (BlG  l p) 9 2 [4] (fun _=>([],[]))
def QpI(a:List Nd):List D:=[D.sl 15 (LN a) (fun i=>Nd.row1 (List.getD a i (Nd.mk Z0 Z0 Z0 [] Z0 Z0 DA [] [] Z0 Z0 Z0))) Mode.any,D.fn (Fn.func (76:Nat)) [] []]
theorem Nxc_ok  (l : List Nd)(p : Nd -> Bool)(h : ∀b∈l, CS 76 (.agg b.row1::[]) ⟨[], []⟩ (.bool (p b)))(hl : l.length<=maxLen) :
  CS 48 [gsl 15 Nd.row1 l,.fn (.func 76) [] []] ⟨[],[]⟩ (.bool (l.any p)):=by
 refine CS.of (Bg (A:=sS _ _ _) (x:=()) (E:=ENxc  l p) (eOk ?_ rfl) Tryz.func48 rfl (by kernel_rfl) rfl (by simp[sS,ENxc,EC,E0]) ?_)
 ·intro k ds S A hh
  try unfold BlG at hh
  try dsimp only at hh
  split at hh
  ·injection hh with hh;subst hh
   refine Bo fun ⟨e,hs⟩=>?_
   rw[hs]
   exact (Nxx_ok  l p h hl).wk e
  ·cases hh
 refine Bi (T :=
  ∃(x:Unit),(wkL (QpI l) (QpI l)/\SM (St.mk [] []))/\∀(y:Unit),True->RT (decide (Z0<=Ei p l Z0)=List.any l p)) (by kernel_rfl) ?_
 delta DA LN SM Z0 QpI RT
 simp only[true_and,and_true,exists_const,forall_const]
 first
  |exact⟨Be _,EA _ l 0 (Int.le_refl _)⟩
  |exact⟨⟨Be _,rfl⟩,EA _ l 0 (Int.le_refl _)⟩
def BdO(xi:Nat)(xk:Nat)(q:Int)(l:List Nd)(p:Nd->Bool):Con:=fun k ds S=>match k with
 |80=>some (pE (β:=Nd) ds S (fun b=>.bool (p b)) (fun b=>isN b ds [.ref 0 xk 0,.ref 1 xi 0]/\b∈l/\S=⟨[(1,xi,.cells [.fn (.func 80) [] [.ref 0 xk 0,.ref 1 xi 0]]),(0,xk,.cells [.int .i64 q])],[]⟩))
 |_=>none
theorem Bhl(xi:Nat)(xk:Nat)(q:Int){l:List Nd}{p:Nd->Bool}(h:∀b∈l,CS 80 (.agg b.row1::[.ref 0 xk 0,.ref 1 xi 0]) ⟨[(1,xi,.cells [.fn (.func 80) [] [.ref 0 xk 0,.ref 1 xi 0]]),(0,xk,.cells [.int .i64 q])],[]⟩ (.bool (p b))):ConOk Tryz.prog (BdO xi xk q l p):=by
 intro k ds S A hh
 unfold BdO at hh
 split at hh
 ·injection hh with hh;subst hh
  refine Co fun b ⟨e,hb,hs⟩=>?_
  rw[hs]
  exact (h b hb).wk e
 ·cases hh
noncomputable def EOxx(xi:Nat)(xk:Nat)(q:Int)(l:List Nd)(p:Nd->Bool):Senv:={ EC (BdO xi xk q l p) 19 2 [4,5,7,8,9,16] (fun _=>([],[])) with
 ann:=fun b _ S=>match b with
  |0=>some { slots:=[8],keep:=[0,1,6,7],α:=Nat,st:=fun i=>([.int .i64 i],S),inv:=fun i=>IdxG p l i,mu:=fun i=>l.length-i }
  |_=>none }
def Qhc(a b:Nat):List D:=[D.ref N0 a N0,D.ref N1 b N0]
def QpJ(a b:Nat):D:=D.fn (Fn.func (80:Nat)) [] (Qhc a b)
def QpK(a b:Nat):Prop:=SM (QpJ a b)
def QaW(a b:Nat)(c:Int):Prop:=(SM a/\(QpK b a/\True)/\SM b/\(SM c/\True)/\True)/\True
def QpL:Arr:=DA
def Zu:Nd:=Nd.mk Z0 Z0 Z0 [] Z0 Z0 QpL [] [] Z0 Z0 Z0
def Q0(a:List Nd)(b:Nat):Nd:=List.getD a (Int.toNat (↑b:Int)) Zu
def QOm(a b:Nat)(c:Int):St:=St.mk [(N1,a,AObj.cells [QpJ b a]),(N0,b,AObj.cells [ZI c])] []
def QOn(a:List Nd):D:=D.sl 15 (LN a) (fun i=>Nd.row1 (List.getD a i Zu)) Mode.any
theorem Oxx_ok(xi : Nat)(xk : Nat)(q : Int)(l : List Nd)(p : Nd -> Bool)(h : ∀b∈l, CS 80 (.agg b.row1::[.ref 0 xk 0, .ref 1 xi 0]) ⟨[(1, xi, .cells [.fn (.func 80) [] [.ref 0 xk 0, .ref 1 xi 0]]), (0, xk, .cells [.int .i64 q])], []⟩ (.bool (p b)))(hl : l.length<=maxLen) :
  CS 71 [gsl 15 Nd.row1 l,.fn (.func 80) [] [.ref 0 xk 0,.ref 1 xi 0]] ⟨[(1,xi,.cells [.fn (.func 80) [] [.ref 0 xk 0,.ref 1 xi 0]]),(0,xk,.cells [.int .i64 q])],[]⟩ (.int .i64 (Ei p l 0)):=by
 refine CS.of (Bg (A:=sS _ _ _) (x:=()) (E:=EOxx xi xk q l p) (eOk (Bhl xi xk q h) rfl) Tryz.func71 rfl (by kernel_rfl) rfl (by simp[sS,EOxx,EC,E0]) ?_)
 refine Bi (T :=
  (∃(x:Nat),IdxG p l x/\(Z0=(↑x:Int)/\True)/\QaW xi xk q)/\∀(x:Nat),IdxG p l x->ifB (decide ((↑x:Int)<(LI l))) (Bc (Z0<=(↑x:Int)/\(↑x:Int)<(LI l)) (∃(x_1:Nd),(isN x_1 (D.agg (Nd.rowE (Q0 l x))::Qhc xk xi) (Qhc xk xi)/\x_1∈l/\SM (QOm xi xk q))/\∀(y:Unit),True->ifB (p x_1) (True/\∃(y:Unit),True/\(↑x:Int)=Ei p l Z0/\QaW xi xk q) ((SM (QOn l)/\QpK xk xi/\SM D.unk/\SM (ZI (LI l))/\True)/\∃(y:Nat),IdxG p l y/\LN l-y<LN l-x/\(IntKind.wrap IntKind.i64 ((↑x:Int)+Z1)=(↑y:Int)/\True)/\QaW xi xk q))) (True/\∃(y:Unit),True/\(-1:Int)=Ei p l Z0/\QaW xi xk q)) (by kernel_rfl) ?_
 delta DA GI LI LN N0 N1 N4 SI SM Z0 Z1 ZI Qhc QpJ QpK QaW QpL Zu Q0 QOm QOn
 try simp only[<- dn]
 simp only[Int.toNat_natCast,Bf,Bd,decide_eq_true_eq,decide_eq_false_iff_not,true_and,and_true,exists_const]
 simp only[maxLen] at hl
 refine⟨⟨0,⟨Nat.zero_le _,by simp⟩,rfl⟩,fun i hh=>⟨fun hlt=>?_,fun hge=>(hh.done hge).symm⟩⟩
 have hlt':i<l.length:=by omega
 obtain ⟨s1,s2⟩:=hh.step hlt'
 have hm:l.getD i default∈l:=by rw[List.getD_eq_getElem?_getD,List.getElem?_eq_getElem hlt'];exact List.getElem_mem hlt'
 refine⟨⟨by omega,hlt⟩,l.getD i default,?_,fun _ _=>⟨fun e=>(s1 e).symm,fun e=>⟨i+1,s2 e,by omega,Ba (by omega) (by omega)⟩⟩⟩
 first
  |exact⟨Be _,hm,rfl⟩
  |exact⟨Be _,hm⟩
def Bi0(xi:Nat)(xk:Nat)(q:Int)(l:List Nd)(p:Nd->Bool):Con:=fun k ds S=>match k with
 |71=>some (pA ds S (.int .i64 (Ei p l 0)) (wkL ds [gsl 15 Nd.row1 l,.fn (.func 80) [] [.ref 0 xk 0,.ref 1 xi 0]]/\S=⟨[(1,xi,.cells [.fn (.func 80) [] [.ref 0 xk 0,.ref 1 xi 0]]),(0,xk,.cells [.int .i64 q])],[]⟩))
 |_=>none
noncomputable def EOxc(xi:Nat)(xk:Nat)(q:Int)(l:List Nd)(p:Nd->Bool):Senv:=EC (Bi0 xi xk q l p) 9 2 [4] (fun _=>([],[]))
def QpP(a b:Nat):D:=D.fn (Fn.func (80:Nat)) [] [D.ref N0 a N0,D.ref N1 b N0]
def QpQ(a b:Nat):List D:=[QpP a b]
def QpR(a:List Nd)(b c:Nat):List D:=D.sl 15 (LN a) (fun i=>Nd.row1 (List.getD a i (Nd.mk Z0 Z0 Z0 [] Z0 Z0 DA [] [] Z0 Z0 Z0))) Mode.any::QpQ b c
def QOo(a b:Nat)(c:Int):St:=St.mk [(N1,a,AObj.cells (QpQ b a)),(N0,b,AObj.cells [ZI c])] []
theorem Oxc_ok(xi : Nat)(xk : Nat)(q : Int)(l : List Nd)(p : Nd -> Bool)(h : ∀b∈l, CS 80 (.agg b.row1::[.ref 0 xk 0, .ref 1 xi 0]) ⟨[(1, xi, .cells [.fn (.func 80) [] [.ref 0 xk 0, .ref 1 xi 0]]), (0, xk, .cells [.int .i64 q])], []⟩ (.bool (p b)))(hl : l.length<=maxLen) :
  CS 48 [gsl 15 Nd.row1 l,.fn (.func 80) [] [.ref 0 xk 0,.ref 1 xi 0]] ⟨[(1,xi,.cells [.fn (.func 80) [] [.ref 0 xk 0,.ref 1 xi 0]]),(0,xk,.cells [.int .i64 q])],[]⟩ (.bool (l.any p)):=by
 refine CS.of (Bg (A:=sS _ _ _) (x:=()) (E:=EOxc xi xk q l p) (eOk ?_ rfl) Tryz.func48 rfl (by kernel_rfl) rfl (by simp[sS,EOxc,EC,E0]) ?_)
 ·intro k ds S A hh
  try unfold Bi0 at hh
  try dsimp only at hh
  split at hh
  ·injection hh with hh;subst hh
   refine Bo fun ⟨e,hs⟩=>?_
   rw[hs]
   exact (Oxx_ok xi xk q l p h hl).wk e
  ·cases hh
 refine Bi (T :=
  ∃(x:Unit),(wkL (QpR l xk xi) (QpR l xk xi)/\SM (QOo xi xk q))/\∀(y:Unit),True->True/\∃(y:Unit),True/\decide (Z0<=Ei p l Z0)=List.any l p/\(SM xi/\(SM (QpP xk xi)/\True)/\SM xk/\(SM q/\True)/\True)/\True) (by kernel_rfl) ?_
 delta DA LN N0 N1 SM Z0 ZI QpP QpQ QpR QOo
 simp only[true_and,and_true,exists_const,forall_const]
 first
  |exact⟨Be _,EA _ l 0 (Int.le_refl _)⟩
  |exact⟨⟨Be _,rfl⟩,EA _ l 0 (Int.le_refl _)⟩
def Bez(xi:Nat)(xk:Nat)(q:Int)(l:List Sm)(p:Sm->Bool):Con:=fun k ds S=>match k with
 |82=>some (pE (β:=Sm) ds S (fun b=>.bool (p b)) (fun b=>isS b ds [.ref 1 xi 0]/\b∈l/\S=⟨[(1,xi,.cells [.fn (.func 80) [] [.ref 0 xk 0,.ref 1 xi 0]]),(0,xk,.cells [.int .i64 q])],[]⟩))
 |_=>none
theorem Bh0(xi:Nat)(xk:Nat)(q:Int){l:List Sm}{p:Sm->Bool}(h:∀b∈l,CS 82 (.agg b.row1::[.ref 1 xi 0]) ⟨[(1,xi,.cells [.fn (.func 80) [] [.ref 0 xk 0,.ref 1 xi 0]]),(0,xk,.cells [.int .i64 q])],[]⟩ (.bool (p b))):ConOk Tryz.prog (Bez xi xk q l p):=by
 intro k ds S A hh
 unfold Bez at hh
 split at hh
 ·injection hh with hh;subst hh
  refine Co fun b ⟨e,hb,hs⟩=>?_
  rw[hs]
  exact (h b hb).wk e
 ·cases hh
noncomputable def EPxx(xi:Nat)(xk:Nat)(q:Int)(l:List Sm)(p:Sm->Bool):Senv:={ EC (Bez xi xk q l p) 19 2 [4,5,7,8,9,16] (fun _=>([],[])) with
 ann:=fun b _ S=>match b with
  |0=>some { slots:=[8],keep:=[0,1,6,7],α:=Nat,st:=fun i=>([.int .i64 i],S),inv:=fun i=>IdxG p l i,mu:=fun i=>l.length-i }
  |_=>none }
def QpS(a b:Nat):D:=D.fn (Fn.func (80:Nat)) [] [D.ref N0 a N0,D.ref N1 b N0]
def QaY(a b:Nat)(c:Int):Prop:=(SM a/\(SM (QpS b a)/\True)/\SM b/\(SM c/\True)/\True)/\True
def Qhd:Arr:=DA
def QaZ:Nd:=Nd.mk Z0 Z0 Z0 [] Z0 Z0 Qhd [] [] Z0 Z0 Z0
def Qa0:Sm:=Sm.mk Z0 Z0 [] Z0 QaZ QaZ
def XO(a:List Sm)(b:Nat):Sm:=List.getD a (Int.toNat (↑b:Int)) Qa0
def QOt(a b:Nat)(c:Int):St:=St.mk [(N1,a,AObj.cells [QpS b a]),(N0,b,AObj.cells [ZI c])] []
def QOu(a:List Sm):D:=D.sl 34 (LN a) (fun i=>Sm.row1 (List.getD a i Qa0)) Mode.any
theorem Pxx_ok(xi : Nat)(xk : Nat)(q : Int)(l : List Sm)(p : Sm -> Bool)(h : ∀b∈l, CS 82 (.agg b.row1::[.ref 1 xi 0]) ⟨[(1, xi, .cells [.fn (.func 80) [] [.ref 0 xk 0, .ref 1 xi 0]]), (0, xk, .cells [.int .i64 q])], []⟩ (.bool (p b)))(hl : l.length<=maxLen) :
  CS 98 [gsl 34 Sm.row1 l,.fn (.func 82) [] [.ref 1 xi 0]] ⟨[(1,xi,.cells [.fn (.func 80) [] [.ref 0 xk 0,.ref 1 xi 0]]),(0,xk,.cells [.int .i64 q])],[]⟩ (.int .i64 (Ei p l 0)):=by
 refine CS.of (Bg (A:=sS _ _ _) (x:=()) (E:=EPxx xi xk q l p) (eOk (Bh0 xi xk q h) rfl) Tryz.func98 rfl (by kernel_rfl) rfl (by simp[sS,EPxx,EC,E0]) ?_)
 refine Bi (T :=
  (∃(x:Nat),IdxG p l x/\(Z0=(↑x:Int)/\True)/\QaY xi xk q)/\∀(x:Nat),IdxG p l x->ifB (decide ((↑x:Int)<(LI l))) (Bc (Z0<=(↑x:Int)/\(↑x:Int)<(LI l)) (∃(x_1:Sm),(isS x_1 [D.agg (Sm.row1 (XO l x)),D.ref N1 xi N0] [D.ref N1 xi N0]/\x_1∈l/\SM (QOt xi xk q))/\∀(y:Unit),True->ifB (p x_1) (True/\∃(y:Unit),True/\(↑x:Int)=Ei p l Z0/\QaY xi xk q) ((SM (QOu l)/\SM (D.fn (Fn.func (82:Nat)) [] [D.ref N1 xi N0])/\SM D.unk/\SM (ZI (LI l))/\True)/\∃(y:Nat),IdxG p l y/\LN l-y<LN l-x/\(IntKind.wrap IntKind.i64 ((↑x:Int)+Z1)=(↑y:Int)/\True)/\QaY xi xk q))) (True/\∃(y:Unit),True/\(-1:Int)=Ei p l Z0/\QaY xi xk q)) (by kernel_rfl) ?_
 delta DA GI LI LN N0 N1 N4 SI SM Z0 Z1 ZI QpS QaY Qhd QaZ Qa0 XO QOt QOu
 try simp only[<- dn]
 simp only[Int.toNat_natCast,Bf,Bd,decide_eq_true_eq,decide_eq_false_iff_not,true_and,and_true,exists_const]
 simp only[maxLen] at hl
 refine⟨⟨0,⟨Nat.zero_le _,by simp⟩,rfl⟩,fun i hh=>⟨fun hlt=>?_,fun hge=>(hh.done hge).symm⟩⟩
 have hlt':i<l.length:=by omega
 obtain ⟨s1,s2⟩:=hh.step hlt'
 have hm:l.getD i default∈l:=by rw[List.getD_eq_getElem?_getD,List.getElem?_eq_getElem hlt'];exact List.getElem_mem hlt'
 refine⟨⟨by omega,hlt⟩,l.getD i default,?_,fun _ _=>⟨fun e=>(s1 e).symm,fun e=>⟨i+1,s2 e,by omega,Ba (by omega) (by omega)⟩⟩⟩
 first
  |exact⟨Be _,hm,rfl⟩
  |exact⟨Be _,hm⟩
def BlC(xi:Nat)(xk:Nat)(q:Int)(l:List Sm)(p:Sm->Bool):Con:=fun k ds S=>match k with
 |98=>some (pA ds S (.int .i64 (Ei p l 0)) (wkL ds [gsl 34 Sm.row1 l,.fn (.func 82) [] [.ref 1 xi 0]]/\S=⟨[(1,xi,.cells [.fn (.func 80) [] [.ref 0 xk 0,.ref 1 xi 0]]),(0,xk,.cells [.int .i64 q])],[]⟩))
 |_=>none
noncomputable def EPxc(xi:Nat)(xk:Nat)(q:Int)(l:List Sm)(p:Sm->Bool):Senv:=EC (BlC xi xk q l p) 9 2 [4] (fun _=>([],[]))
def QpZ:Nd:=Nd.mk Z0 Z0 Z0 [] Z0 Z0 DA [] [] Z0 Z0 Z0
def Qp0(a:List Sm)(b:Nat):List D:=[D.sl 34 (LN a) (fun i=>Sm.row1 (List.getD a i (Sm.mk Z0 Z0 [] Z0 QpZ QpZ))) Mode.any,D.fn (Fn.func (82:Nat)) [] [D.ref N1 b N0]]
def Qp1(a b:Nat):D:=D.fn (Fn.func (80:Nat)) [] [D.ref N0 a N0,D.ref N1 b N0]
def QOv(a b:Nat)(c:Int):St:=St.mk [(N1,a,AObj.cells [Qp1 b a]),(N0,b,AObj.cells [ZI c])] []
theorem Pxc_ok(xi : Nat)(xk : Nat)(q : Int)(l : List Sm)(p : Sm -> Bool)(h : ∀b∈l, CS 82 (.agg b.row1::[.ref 1 xi 0]) ⟨[(1, xi, .cells [.fn (.func 80) [] [.ref 0 xk 0, .ref 1 xi 0]]), (0, xk, .cells [.int .i64 q])], []⟩ (.bool (p b)))(hl : l.length<=maxLen) :
  CS 81 [gsl 34 Sm.row1 l,.fn (.func 82) [] [.ref 1 xi 0]] ⟨[(1,xi,.cells [.fn (.func 80) [] [.ref 0 xk 0,.ref 1 xi 0]]),(0,xk,.cells [.int .i64 q])],[]⟩ (.bool (l.any p)):=by
 refine CS.of (Bg (A:=sS _ _ _) (x:=()) (E:=EPxc xi xk q l p) (eOk ?_ rfl) Tryz.func81 rfl (by kernel_rfl) rfl (by simp[sS,EPxc,EC,E0]) ?_)
 ·intro k ds S A hh
  try unfold BlC at hh
  try dsimp only at hh
  split at hh
  ·injection hh with hh;subst hh
   refine Bo fun ⟨e,hs⟩=>?_
   rw[hs]
   exact (Pxx_ok xi xk q l p h hl).wk e
  ·cases hh
 refine Bi (T :=
  ∃(x:Unit),(wkL (Qp0 l xi) (Qp0 l xi)/\SM (QOv xi xk q))/\∀(y:Unit),True->True/\∃(y:Unit),True/\decide (Z0<=Ei p l Z0)=List.any l p/\(SM xi/\(SM (Qp1 xk xi)/\True)/\SM xk/\(SM q/\True)/\True)/\True) (by kernel_rfl) ?_
 delta DA LN N0 N1 SM Z0 ZI QpZ Qp0 Qp1 QOv
 simp only[true_and,and_true,exists_const,forall_const]
 first
  |exact⟨Be _,EA _ l 0 (Int.le_refl _)⟩
  |exact⟨⟨Be _,rfl⟩,EA _ l 0 (Int.le_refl _)⟩
theorem Ey{n b:Nd}(h:b∈BH n):szN b<szN n:=by
 have:=UK h
 rw[MR n]
 omega
theorem EZ{n b:Nd}(h:n.sm)(hb:b∈BH n):b.sm:=by
 cases n with
 |mk kd at_ cl tx pr op va ki bo de sl ss =>
  simp only[Nd.sm] at h
  obtain ⟨_,_,h1,h2⟩:=h
  rcases List.mem_append.1 hb with hb | hb
  ·exact (Ue _).1 h1 b hb
  ·obtain ⟨s,hs,hb⟩:=List.mem_flatMap.1 hb
   have h3:=(MN _).1 h2 s hs
   cases s with
   |mk k2 a2 nm s2 te nd =>
    simp only[Sm.sm] at h3
    unfold Bq at hb
    split at hb
    ·rcases List.mem_cons.1 hb with rfl | hb
     ·exact h3.2.1
     ·rcases List.mem_cons.1 hb with rfl | hb
      ·exact h3.2.2
      ·cases hb
    ·rcases List.mem_cons.1 hb with rfl | hb
     ·exact h3.2.2
     ·cases hb
theorem Cb{n:Nd}(h:n.sm):n.tx.length<=BC/\n.ki.length<=BC/\n.bo.length<=BC:=by
 cases n with
 |mk kd at_ cl tx pr op va ki bo de sl ss =>
  simp only[Nd.sm] at h
  exact h.1
theorem Bdx{n:Nd}(h:n.sm):(BH n).length<=maxLen:=by
 obtain ⟨_,h1,h2⟩:=Cb h
 have:=BhS n
 unfold BC at h1 h2
 unfold maxLen
 omega
def CH(n:Nd)(m:Int):Bool:=decide (m<(dpN n:Int))
theorem Rq(m:Int):∀l:List Nd,(l.any fun b=>CH b m)=true↔(l≠[]/\m<(dpL l:Int))
 | []=>by simp
 | [x]=>by
  simp only[List.any_cons,List.any_nil,Bool.or_false,CH,decide_eq_true_eq,dpL]
  have:=BgC x
  constructor
  ·intro h;exact⟨by simp,by omega⟩
  ·rintro ⟨_,h⟩;omega
 |x::y::r=>by
  have ih:=Rq m (y::r)
  have e:dpL (x::y::r)=max (dpN x) (dpL (y::r)):=by simp only[dpL]
  rw[List.any_cons,Bool.or_eq_true,ih,e]
  simp only[CH,decide_eq_true_eq,ne_eq,reduceCtorEq,not_false_eq_true,true_and]
  omega
theorem BmU(n:Nd)(m:Int):CH n m=(decide (m<1)||(BH n).any fun b=>CH b (m-1)):=by
 rw[Bool.eq_iff_iff,Bool.or_eq_true,Rq,decide_eq_true_eq]
 unfold CH
 rw[decide_eq_true_eq,TQ n]
 cases hi:BH n with
 |nil =>
  simp only[dpL,ne_eq,not_true_eq_false,false_and,or_false]
  omega
 |cons x r =>
  simp only[ne_eq,reduceCtorEq,not_false_eq_true,true_and]
  have:=BgC x
  have:dpN x<=dpL (x::r):=BbM (by simp)
  omega
def Bn7(b:Nd)(m:Int):Con:=fun k ds S=>match k with
 |30=>some (pA ds S (.bool (CH b m)) (isN b ds [.int .i64 m]))
 |_=>none
noncomputable def Ed1(b:Nd)(m:Int):Senv:=EC (Bn7 b (m-1)) 8 4 [] (fun _=>([],[]))
theorem Bp8(b : Nd)(m : Int)(hm : Br m)(h1 : 1<=m)(h : CD 30 [.agg b.row1, .int .i64 (m-1)] (.bool (CH b (m-1))))(xm : Nat) :
  CS 50 [.agg b.row1,.ref 1 xm 0] ⟨[(1,xm,.cells [.int .i64 m])],[]⟩ (.bool (CH b (m-1))):=by
 refine CS.of (Bg (A:=sS _ _ _) (x:=()) (E:=Ed1 b m) (eOk ?_ rfl) Tryz.func50 rfl (by kernel_rfl) rfl (by simp[sS,Ed1,EC,E0]) ?_)
 ·intro k ds S A hh
  try unfold Bn7 at hh
  try dsimp only at hh
  split at hh
  ·injection hh with hh;subst hh
   exact Bo fun e=>CD.at_ (h.wk e) _
  ·cases hh
 refine Bi (T :=
  ∀(x:Nat),xm≠x/\True->SM x/\SM xm/\∃(x:Unit),isN b [D.agg (Nd.rowE b),ZI (IntKind.wrap IntKind.i64 (m-Z1))] [ZI (m-Z1)]/\∀(y:Unit),True->True/\∃(y:Unit),True/\SM (CH b (m-Z1))/\(SM xm/\(SM m/\True)/\True)/\True) (by kernel_rfl) ?_
 delta DA GI LN N1 N4 SI SM Z0 Z1 ZI
 simp only[eq_self,ne_eq,implies_true,true_and,and_true,exists_const]
 have w:IntKind.i64.wrap (m-1)=m-1:=by unfold Br at hm;exact Ba (by omega) (by omega)
 rw[w]
 exact fun _ _=>Bl _ _
def BnR(n:Nd)(m:Int):Con:=fun k ds S=>match k with
 |49=>some (pA ds S (gsl 15 Nd.row1 (BH n)) (isN2 n ds []))
 |48=>match ds with
  | [_,.fn _ _ [.ref _ xm _]]=>some (pA ds S (.bool ((BH n).any fun b=>CH b (m-1))) (1<=m/\wkL ds [gsl 15 Nd.row1 (BH n),.fn (.func 50) [] [.ref 1 xm 0]]/\∃F,S=St.add ⟨[(1,xm,.cells [.int .i64 m])],[]⟩ F))
  |_=>none
 |_=>none
noncomputable def Ede(n:Nd)(m:Int):Senv:=EC (BnR n m) 13 5 [] (fun _=>([],[]))
def Qp5:Arr:=DA
def Qa5:Nd:=Nd.mk Z0 Z0 Z0 [] Z0 Z0 Qp5 [] [] Z0 Z0 Z0
def Qp6(a:Nd):List D:=(Nd.row2 a)
def Qhf(a:Nd):List Nd:=BH a
def Qp7(a:Nd):D:=D.sl 15 (LN (Qhf a)) (fun i=>Nd.row1 (List.getD (Qhf a) i Qa5)) Mode.any
theorem Bnp(n : Nd)(m : Int)(hn : n.sm)(hm : Br m)(h : 1<=m -> ∀b∈BH n, CD 30 [.agg b.row1, .int .i64 (m-1)] (.bool (CH b (m-1)))) :
  CD 30 [.agg n.row2,.int .i64 m] (.bool (CH n m)):=by
 obtain ⟨_,k1,k2⟩:=Cb hn
 refine Bg (A:=sC _ _) (x:=()) (E:=Ede n m) (eOk ?_ rfl) Tryz.func30 rfl (by kernel_rfl) rfl (by simp[sC,Ede,EC,E0]) ?_
 ·intro k ds S A hh
  try unfold BnR at hh
  try dsimp only at hh
  split at hh
  ·injection hh with hh;subst hh
   exact Bo fun e=>CD.at_ (CD.wk (Bl7 n k1 k2) e) _
  ·split at hh
   ·injection hh with hh;subst hh
    refine Bo fun ⟨h1,e,F,hS⟩=>?_
    rw[hS]
    exact CS.frame F (CS.wk (Dxc_ok _ m (BH n) (fun b=>CH b (m-1)) (fun b hb=>Bp8 b m hm h1 (h h1 b hb) _) (Bdx hn)) e)
   ·cases hh
  ·cases hh
 refine Bi (T :=
  ∀(x:Nat),True->∀(x_1:Nat),x≠x_1/\True->SM x_1/\ifB (decide (m<Z1)) (RT (true=CH n m)) (SM x/\∃(x_2:Unit),isN2 n [D.agg (Qp6 n)] []/\∀(y:Unit),True->∃(x_3:Unit),(Z1<=m/\wkL [Qp7 n,D.fn (Fn.func (50:Nat)) [] [D.ref (max (N0+N1) N0) x_1 N0]] [Qp7 n,D.fn (Fn.func (50:Nat)) [] [D.ref N1 x_1 N0]]/\∃(F:St),St.mk [(max (N0+N1) N0,x_1,AObj.cells [ZI m]),(N0,x,AObj.cells (Qp6 n))] []=St.mk ((N1,x_1,AObj.cells [ZI m])::List.append [] (St.objs F)) ([]++St.toks F))/\∀(y:Unit),True->RT ((List.any (Qhf n) fun (b:Nd)=>CH b (m-Z1))=CH n m))) (by kernel_rfl) ?_
 delta DA GI LN N0 N1 N4 SI SM Z0 Z1 ZI Qp5 Qa5 Qp6 Qhf Qp7 RT
 simp only[eq_self,ne_eq,Bf,decide_eq_true_eq,decide_eq_false_iff_not,true_and,and_true,exists_const,forall_const]
 rw[BmU]
 exact fun x x1 _=>⟨fun h=>by simp[h],fun h=>⟨CJ n _,⟨by omega,Be _,⟨⟨[_],[]⟩,rfl⟩⟩,by simp[h]⟩⟩
theorem BkG(n:Nd)(m:Int)(hn:n.sm)(hm:Br m):CD 30 [.agg n.row2,.int .i64 m] (.bool (CH n m)):=by
 refine Bnp n m hn hm fun h1 b hb=>CD.down (BkG b (m-1) (EZ hn hb) ?_)
 unfold Br at hm ⊢
 omega
termination_by szN n
decreasing_by exact Ey hb
def BdF(xi xk:Nat)(q:Int):St:=⟨[(1,xi,.cells [.fn (.func 80) [] [.ref 0 xk 0,.ref 1 xi 0]]),(0,xk,.cells [.int .i64 q])],[]⟩
theorem BS{n b:Nd}(h:b∈n.ki):b∈BH n:=List.mem_append.2 (.inl h)
def Bgz(l:List Nd)(xi xk:Nat)(q:Int):Con:=fun k ds S=>match k with
 |29=>some (pE (β:=Sm) ds S (fun s=>gsl 15 Nd.row1 (Bq s)) (fun s=>isS s ds []))
 |48=>some (pA ds S (.bool (l.any (Ij q))) (wkL ds [gsl 15 Nd.row1 l,.fn (.func 80) [] [.ref 0 xk 0,.ref 1 xi 0]]/\∃o,S=⟨o::(BdF xi xk q).objs,[]⟩))
 |_=>none
theorem Bc1{l:List Nd}{xi xk:Nat}{q:Int}(hn:l.length<=maxLen)(h:∀b∈l,CS 80 [.agg b.row1,.ref 0 xk 0,.ref 1 xi 0] (BdF xi xk q) (.bool (Ij q b))):ConOk Tryz.prog (Bgz l xi xk q):=by
 intro k ds S A hh
 unfold Bgz at hh
 split at hh
 ·injection hh with hh;subst hh
  exact Co fun s e=>CD.at_ (CD.wk (BjZ s) e) _
 ·injection hh with hh;subst hh
  refine Bo fun ⟨e,o,hS⟩=>?_
  rw[hS]
  exact CS.front o (CS.wk (Oxc_ok xi xk q l (Ij q) h hn) e)
 ·cases hh
noncomputable def Eo1(l:List Nd)(xi xk:Nat)(q:Int):Senv:=EC (Bgz l xi xk q) 20 5 [] (fun _=>([],[]))
def Qhg(a:Nd):Int:=Nd.kd a
def Qp8(a b:Nat):D:=D.fn (Fn.func (80:Nat)) [] [D.ref N0 a N0,D.ref N1 b N0]
def Qhh(a b:Nat)(c:Int):Prop:=(SM a/\(SM (Qp8 b a)/\True)/\SM b/\(SM c/\True)/\True)/\True
def Qhi(a:Nd):List Nd:=Nd.ki a
def Qp9:Arr:=DA
def Qhj:Nd:=Nd.mk Z0 Z0 Z0 [] Z0 Z0 Qp9 [] [] Z0 Z0 Z0
def Qqa(a:Nd):D:=D.sl 15 (LN (Qhi a)) (fun i=>Nd.row1 (List.getD (Qhi a) i Qhj)) Mode.any
def Qqb(a b:Nat):List D:=[Qp8 a b]
def Qqc(a:Nd)(b c:Nat):List D:=Qqa a::Qqb b c
def Qqe(a b:Nat)(c:Int):List (Nat×Nat×AObj):=[(N1,a,AObj.cells (Qqb b a)),(N0,b,AObj.cells [ZI c])]
theorem Bm4(n : Nd)(xi xk : Nat)(q : Int)(hn : n.ki.length<=maxLen)(h : ∀b∈n.ki, CS 80 [.agg b.row1, .ref 0 xk 0, .ref 1 xi 0] (BdF xi xk q) (.bool (Ij q b))) :
  CS 80 [.agg n.row2,.ref 0 xk 0,.ref 1 xi 0] (BdF xi xk q) (.bool (Ij q n)):=by
 refine CS.of (Bg (A:=sS _ _ _) (x:=()) (E:=Eo1 n.ki xi xk q) (eOk (Bc1 hn h) rfl) Tryz.func80 rfl (by kernel_rfl) rfl (by simp[sS,Eo1,EC,E0]) ?_)
 refine Bi (T :=
  ∀(x:Nat),xi≠x/\xk≠x/\True->SM x/\SM xk/\ifB (Qhg n==q) (True/\∃(y:Unit),True/\true=Ij q n/\Qhh xi xk q) (SM x/\ifB (Qhg n != (10:Int)) (SM x/\SM xi/\∃(x_1:Unit),(wkL (Qqc n xk xi) (Qqc n xk xi)/\∃(o:Nat×Nat×AObj),St.mk ((N2,x,AObj.cells (Nd.row2 n))::Qqe xi xk q) []=St.mk (o::Qqe xi xk q) [])/\∀(y:Unit),True->True/\∃(y:Unit),True/\List.any (Qhi n) (Ij q)=Ij q n/\Qhh xi xk q) (True/\∃(y:Unit),True/\false=Ij q n/\Qhh xi xk q))) (by kernel_rfl) ?_
 delta DA GI LN N0 N1 N2 N4 SI SM Z0 ZI Qhg Qp8 Qqe Qhh Qhi Qp9 Qhj Qqa Qqb Qqc
 try simp only[<- dm]
 try simp only[<- dn]
 simp only[ne_eq,Bf,true_and,and_true,beq_iff_eq,bne_iff_ne,bne_eq_false_iff_eq,beq_eq_false_iff_ne,exists_const,forall_const,Prod.exists]
 have e:=BfR q n
 refine fun x _=>⟨fun h=>?_,fun h=>⟨fun h2=>⟨⟨Be _,_,_,_,rfl⟩,?_⟩,fun h2=>?_⟩⟩
 ·rw[e,h];simp
 ·have h3:(n.kd==q)=false:=by simpa using h
  have h4:(n.kd != 10)=true:=by simpa using h2
  rw[e,h3,h4];simp
 ·have h3:(n.kd==q)=false:=by simpa using h
  rw[e,h3,h2];simp
theorem Bn2(n:Nd)(xi xk:Nat)(q:Int)(hn:n.sm):CS 80 [.agg n.row2,.ref 0 xk 0,.ref 1 xi 0] (BdF xi xk q) (.bool (Ij q n)) :=
 Bm4 n xi xk q (Ch (Cb hn).2.1) fun b hb=>CS.wk (Bn2 b xi xk q (EZ hn (BS hb))) (by simp only[wkL,wkD];exact⟨Mt _,by simp[Bn,Bb],by simp[Bn,Bb],trivial⟩)
termination_by szN n
decreasing_by exact Ey (BS hb)
theorem Boi(n:Nd)(xi xk:Nat)(q:Int)(hn:n.sm):CS 80 [.agg n.row1,.ref 0 xk 0,.ref 1 xi 0] (BdF xi xk q) (.bool (Ij q n)) :=
 CS.wk (Bn2 n xi xk q hn) (by simp only[wkL,wkD];exact⟨Mt _,by simp[Bn,Bb],by simp[Bn,Bb],trivial⟩)
theorem Re{s:Sm}(h:s.sm):∀b∈Bq s,b.sm:=by
 cases s with
 |mk kd at_ nm sl te nd =>
  simp only[Sm.sm] at h
  intro b hb
  unfold Bq at hb
  split at hb
  ·rcases List.mem_cons.1 hb with rfl | hb
   ·exact h.2.1
   ·rcases List.mem_cons.1 hb with rfl | hb
    ·exact h.2.2
    ·cases hb
  ·rcases List.mem_cons.1 hb with rfl | hb
   ·exact h.2.2
   ·cases hb
noncomputable def Eo2(s:Sm)(xi xk:Nat)(q:Int):Senv:=EC (Bgz (Bq s) xi xk q) 8 4 [] (fun id=>match id with | 1=>([0,2,1,3,4],[1,3]) | _=>([],[]))
def Qhk:Arr:=DA
def Zv:Nd:=Nd.mk Z0 Z0 Z0 [] Z0 Z0 Qhk [] [] Z0 Z0 Z0
def Qqm(a:Sm):List D:=(Sm.row1 a)
def Qqn(a b:Nat):D:=D.fn (Fn.func (80:Nat)) [] [D.ref N0 a N0,D.ref N1 b N0]
def Qqo(a b:Nat):Prop:=SM (Qqn a b)
def Qhl(a:Sm):List Nd:=Bq a
def Qqp(a b:Nat):List D:=[Qqn a b]
def Qqq(a:Sm)(b c:Nat):List D:=D.sl 15 (LN (Qhl a)) (fun i=>Nd.row1 (List.getD (Qhl a) i Zv)) Mode.any::Qqp b c
def Qqr(a b:Nat)(c:Int):List (Nat×Nat×AObj):=[(N1,a,AObj.cells (Qqp b a)),(N0,b,AObj.cells [ZI c])]
def QOG(a:Sm)(b:Int):Bool:=List.any (Qhl a) (Ij b)
theorem Bqx(s:Sm)(xi xk:Nat)(q:Int)(hs:s.sm):CS 82 [.agg s.row1,.ref 1 xi 0] (BdF xi xk q) (.bool ((Bq s).any (Ij q))):=by
 have h2:=GT s
 refine CS.of (Bg (A:=sS _ _ _) (x:=()) (E:=Eo2 s xi xk q) (eOk (Bc1 (by unfold maxLen;omega) fun b hb=>Boi b xi xk q (Re hs b hb)) rfl) Tryz.func82 rfl (by kernel_rfl) rfl (by simp[sS,Eo2,EC,E0]) ?_)
 refine Bi (T :=
  ∀(x:Nat),xi≠x/\xk≠x/\True->SM x/\SM xi/\∃(x_1:Sm),isS x_1 [D.agg (Qqm s)] []/\∀(y:Unit),True->(SM xi/\Qqo xk xi)/\∃(x_2:Unit),(wkL (Qqq x_1 xk xi) (Qqq s xk xi)/\∃(o:Nat×Nat×AObj),St.mk ((N2,x,AObj.cells (Qqm s))::Qqr xi xk q) []=St.mk (o::Qqr xi xk q) [])/\∀(y:Unit),True->True/\∃(y:Unit),True/\SM (QOG s q)/\(SM xi/\(Qqo xk xi/\True)/\SM xk/\(SM q/\True)/\True)/\True) (by kernel_rfl) ?_
 delta DA GI LN N0 N1 N2 N4 SI SM Z0 ZI Qhk Zv Qqm Qqn Qqo Qhl Qqp Qqq Qqr QOG
 try simp only[<- dm]
 try simp only[<- dn]
 simp only[ne_eq,implies_true,true_and,and_true,exists_const,forall_const,Prod.exists]
 refine fun x _=>?_
 first
  |exact⟨s,Il _ _,⟨Be _,_,_,_,rfl⟩⟩
  |exact⟨⟨s,Il _ _,⟨Be _,_,_,_,rfl⟩⟩,s,Il _ _,⟨Be _,_,_,_,rfl⟩⟩
def BnF(l:List Sm)(q:Int):Con:=fun k ds S=>match k with
 |81=>match ds with
  | [_,.fn _ _ [.ref _ xi _]]=>some (pE (β:=Nat) ds S (fun _=>.bool (ES l q)) (fun xk=>wkL ds [gsl 34 Sm.row1 l,.fn (.func 82) [] [.ref 1 xi 0]]/\S=BdF xi xk q))
  |_=>none
 |_=>none
noncomputable def Eoc(l:List Sm)(q:Int):Senv:=EC (BnF l q) 10 2 [3,4,5] (fun _=>([],[]))
def Qqs:Nd:=Nd.mk Z0 Z0 Z0 [] Z0 Z0 DA [] [] Z0 Z0 Z0
def Qqt(a:List Sm)(b:Nat):List D:=[D.sl 34 (LN a) (fun i=>Sm.row1 (List.getD a i (Sm.mk Z0 Z0 [] Z0 Qqs Qqs))) Mode.any,D.fn (Fn.func (82:Nat)) [] [D.ref N1 b N0]]
def Qqu(a b:Nat)(c:Int):St:=St.mk [(N1,a,AObj.cells [D.fn (Fn.func (80:Nat)) [] [D.ref N0 b N0,D.ref N1 a N0]]),(N0,b,AObj.cells [ZI c])] []
theorem Boa(l:List Sm)(q:Int)(hl:l.length<=maxLen)(h:∀s∈l,s.sm):CD 57 [gsl 34 Sm.row1 l,.int .i64 q] (.bool (ES l q)):=by
 refine Bg (A:=sC _ _) (x:=()) (E:=Eoc l q) (eOk ?_ rfl) Tryz.func57 rfl (by kernel_rfl) rfl (by simp[sC,Eoc,EC,E0]) ?_
 ·intro k ds S A hh
  try unfold BnF at hh
  try dsimp only at hh
  split at hh
  ·split at hh
   ·injection hh with hh;subst hh
    refine Co fun xk ⟨e,hS⟩=>?_
    rw[hS]
    exact CS.wk (Pxc_ok _ xk q l (fun s=>(Bq s).any (Ij q)) (fun s hs=>Bqx s _ xk q (h s hs)) hl) e
   ·cases hh
  ·cases hh
 refine Bi (T :=
  ∀(x:Nat),True->∀(x_1:Nat),x≠x_1/\True->SM x_1/\∃(x_2:Nat),(wkL (Qqt l x_1) (Qqt l x_1)/\Qqu x_1 x q=Qqu x_1 x_2 q)/\∀(y:Unit),True->RT (SM (ES l q))) (by kernel_rfl) ?_
 delta DA LN N0 N1 SM Z0 ZI Qqs Qqt Qqu RT
 try simp only[<- dm]
 try simp only[<- dn]
 simp only[ne_eq,implies_true,true_and,and_true,exists_const,forall_const]
 refine fun x x1 _=>⟨x,Be _,?_⟩
 first
  |rfl
  |exact⟨rfl,rfl⟩
def Biq(xl:Nat)(l:List Sm):St:=⟨[(0,xl,.cells [gsl 34 Sm.row1 l])],[]⟩
def BnZ(l:List Sm)(q:Int):Con:=fun k ds S=>match k with
 |57=>some (pA ds S (.bool (ES l q)) (wkL ds [gsl 34 Sm.row1 l,.int .i64 q]))
 |_=>none
noncomputable def Eu1(l:List Sm)(q:Int):Senv:=EC (BnZ l q) 7 2 [3] (fun _=>([],[]))
def Qqv:Nd:=Nd.mk Z0 Z0 Z0 [] Z0 Z0 DA [] [] Z0 Z0 Z0
def Qqw(a:List Sm)(b:Nat):List D:=Sm.row1 (List.getD a b (Sm.mk Z0 Z0 [] Z0 Qqv Qqv))
def Qqx(a:List Sm)(b:Int):List D:=[D.sl 34 (LN a) (fun i=>Qqw a i) Mode.any,ZI b]
theorem Bqj(l:List Sm)(q:Int)(hl:l.length<=maxLen)(h:∀s∈l,s.sm)(xl:Nat):CS 56 [.int .i64 q,.ref 0 xl 0] (Biq xl l) (.bool (ES l q)):=by
 refine CS.of (Bg (A:=sS _ _ _) (x:=()) (E:=Eu1 l q) (eOk ?_ rfl) Tryz.func56 rfl (by kernel_rfl) rfl (by simp[sS,Eu1,EC,E0]) ?_)
 ·intro k ds S A hh
  try unfold BnZ at hh
  try dsimp only at hh
  split at hh
  ·injection hh with hh;subst hh
   exact Bo fun e=>CD.at_ (CD.wk (Boa l q hl h) e) _
  ·cases hh
 refine Bi (T :=
  SM xl/\∃(x:Unit),wkL (Qqx l q) (Qqx l q)/\∀(y:Unit),True->True/\∃(y:Unit),True/\SM (ES l q)/\(SM xl/\((SM (LN l)/\(∀(i:Nat),i<LN l->SM (Qqw l i))/\True)/\True)/\True)/\True) (by kernel_rfl) ?_
 delta DA LN SM Z0 ZI Qqv Qqw Qqx
 try simp only[<- dm]
 try simp only[<- dn]
 simp only[implies_true,true_and,and_true,exists_const]
 first
  |exact Be _
  |exact fun _=>Be _
def Bnz(l:List Sm)(xl:Nat):Con:=fun k ds S=>match k with
 |56=>match ds with
  | [.int .i64 q,_]=>some (pA ds S (.bool (ES l q)) (wkL ds [.int .i64 q,.ref 0 xl 0]/\S=Biq xl l))
  |_=>none
 |_=>none
noncomputable def Eux(l:List Sm)(xl:Nat)(m:List Int):Senv:={ EC (Bnz l xl) 19 2 [4,5,7,8,9,16] (fun _=>([],[])) with
 ann:=fun b _ S=>match b with
  |0=>some { slots:=[8],keep:=[0,1,6,7],α:=Nat,st:=fun i=>([.int .i64 i],S),inv:=fun i=>IdxG (fun q=>ES l q) m i,mu:=fun i=>m.length-i }
  |_=>none }
def Qhm(a:List Sm)(b:List Int)(c:Nat):Prop:=IdxG (fun (q:Int)=>ES a q) b c
def Qqy:Nd:=Nd.mk Z0 Z0 Z0 [] Z0 Z0 DA [] [] Z0 Z0 Z0
def Qqz(a:List Sm)(b:Nat):List D:=Sm.row1 (List.getD a b (Sm.mk Z0 Z0 [] Z0 Qqy Qqy))
def Qa9(a:Nat)(b:List Sm):Prop:=(SM a/\((SM (LN b)/\(∀(i:Nat),i<LN b->SM (Qqz b i))/\True)/\True)/\True)/\True
def QOH(a:Nat)(b:List Sm):St:=St.mk [(N0,a,AObj.cells [D.sl 34 (LN b) (fun i=>Qqz b i) Mode.any])] []
def QqA(a:List Sm)(b:List Int):Int:=Ei (fun (q:Int)=>ES a q) b Z0
def QOI(a:List Int):D:=SI a
theorem BpW(l : List Sm)(xl : Nat)(m : List Int)(hl : l.length<=maxLen)(h : ∀s∈l, s.sm)(hm : m.length<=maxLen) :
  CS 79 [isl m .any,.fn (.func 56) [] [.ref 0 xl 0]] (Biq xl l) (.int .i64 (Ei (fun q=>ES l q) m 0)):=by
 refine CS.of (Bg (A:=sS _ _ _) (x:=()) (E:=Eux l xl m) (eOk ?_ rfl) Tryz.func79 rfl (by kernel_rfl) rfl (by simp[sS,Eux,EC,E0]) ?_)
 ·intro k ds S A hh
  try unfold Bnz at hh
  try dsimp only at hh
  split at hh
  ·split at hh
   ·injection hh with hh;subst hh
    refine Bo fun ⟨e,hS⟩=>?_
    rw[hS]
    exact CS.wk (Bqj l _ hl h xl) e
   ·cases hh
  ·cases hh
 refine Bi (T :=
  (∃(x:Nat),Qhm l m x/\(Z0=(↑x:Int)/\True)/\Qa9 xl l)/\∀(x:Nat),Qhm l m x->ifB (decide ((↑x:Int)<(LI m))) (Bc (Z0<=(↑x:Int)/\(↑x:Int)<(LI m)) (∃(x_1:Unit),(wkL [ZI (GI m (Int.toNat (↑x:Int))),D.ref N0 xl N0] [ZI (GI m (Int.toNat (↑x:Int))),D.ref N0 xl N0]/\SM (QOH xl l))/\∀(y:Unit),True->ifB (ES l (GI m (Int.toNat (↑x:Int)))) (True/\∃(y:Unit),True/\(↑x:Int)=QqA l m/\Qa9 xl l) ((SM (QOI m)/\SM (D.fn (Fn.func (56:Nat)) [] [D.ref N0 xl N0])/\SM D.unk/\SM (ZI (LI m))/\True)/\∃(y:Nat),Qhm l m y/\LN m-y<LN m-x/\(IntKind.wrap IntKind.i64 ((↑x:Int)+Z1)=(↑y:Int)/\True)/\Qa9 xl l))) (True/\∃(y:Unit),True/\(-1:Int)=QqA l m/\Qa9 xl l)) (by kernel_rfl) ?_
 delta DA GI LI LN N0 N1 SI SM Z0 Z1 ZI Qhm Qqy Qqz Qa9 QOH QqA QOI
 try simp only[<- dm]
 try simp only[<- dn]
 simp only[implies_true,Int.toNat_natCast,Bf,Bd,decide_eq_true_eq,decide_eq_false_iff_not,true_and,and_true,exists_const,forall_const]
 simp only[maxLen] at hm
 refine⟨⟨0,⟨Nat.zero_le _,by simp⟩,rfl⟩,fun i hh=>⟨fun hlt=>?_,fun hge=>(hh.done hge).symm⟩⟩
 have hlt':i<m.length:=by omega
 obtain ⟨s1,s2⟩:=hh.step hlt'
 have e0:m.getD i default=m.getD i 0:=rfl
 rw[e0] at s1 s2
 refine⟨⟨by omega,hlt⟩,?_⟩
 exact⟨Be _,fun e=>(s1 e).symm,fun e=>⟨i+1,s2 e,by omega,Ba (by omega) (by omega)⟩⟩
def BnO(l:List Sm)(xl:Nat)(m:List Int):Con:=fun k ds S=>match k with
 |79=>some (pA ds S (.int .i64 (Ei (fun q=>ES l q) m 0)) (wkL ds [isl m .any,.fn (.func 56) [] [.ref 0 xl 0]]/\S=Biq xl l))
 |_=>none
noncomputable def Euc(l:List Sm)(xl:Nat)(m:List Int):Senv:=EC (BnO l xl m) 9 2 [4] (fun _=>([],[]))
def QqB(a:List Int)(b:Nat):List D:=[SI a,D.fn (Fn.func (56:Nat)) [] [D.ref N0 b N0]]
def QqC:Nd:=Nd.mk Z0 Z0 Z0 [] Z0 Z0 DA [] [] Z0 Z0 Z0
def QqD(a:List Sm)(b:Nat):List D:=Sm.row1 (List.getD a b (Sm.mk Z0 Z0 [] Z0 QqC QqC))
def QOJ(a:Nat)(b:List Sm):St:=St.mk [(N0,a,AObj.cells [D.sl 34 (LN b) (fun i=>QqD b i) Mode.any])] []
theorem BpI(l : List Sm)(xl : Nat)(m : List Int)(hl : l.length<=maxLen)(h : ∀s∈l, s.sm)(hm : m.length<=maxLen) :
  CS 55 [isl m .any,.fn (.func 56) [] [.ref 0 xl 0]] (Biq xl l) (.bool (m.any fun q=>ES l q)):=by
 refine CS.of (Bg (A:=sS _ _ _) (x:=()) (E:=Euc l xl m) (eOk ?_ rfl) Tryz.func55 rfl (by kernel_rfl) rfl (by simp[sS,Euc,EC,E0]) ?_)
 ·intro k ds S A hh
  try unfold BnO at hh
  try dsimp only at hh
  split at hh
  ·injection hh with hh;subst hh
   refine Bo fun ⟨e,hS⟩=>?_
   rw[hS]
   exact CS.wk (BpW l xl m hl h hm) e
  ·cases hh
 refine Bi (T :=
  ∃(x:Unit),(wkL (QqB m xl) (QqB m xl)/\SM (QOJ xl l))/\∀(y:Unit),True->True/\∃(y:Unit),True/\(decide (Z0<=Ei (fun (q:Int)=>ES l q) m Z0)=List.any m fun (q:Int)=>ES l q)/\(SM xl/\((SM (LN l)/\(∀(i:Nat),i<LN l->SM (QqD l i))/\True)/\True)/\True)/\True) (by kernel_rfl) ?_
 delta DA GI LN N0 N1 SI SM Z0 ZI QqB QqC QqD QOJ
 simp only[true_and,and_true,exists_const,forall_const]
 have e:=EA (fun q=>ES l q) m 0 (Int.le_refl _)
 first
  |exact⟨Be _,e⟩
  |exact⟨⟨Be _,rfl⟩,e⟩
  |exact⟨Be _,e,fun _ _=>trivial⟩
def BnC(l:List Sm):Con:=fun k ds S=>match k with
 |55=>match ds with
  | [_,.fn _ _ [.ref _ xl _]]=>some (pA ds S (.bool (RE l)) (wkL ds [isl [6,7,11,12,13] .any,.fn (.func 56) [] [.ref 0 xl 0]]/\S=Biq xl l))
  |_=>none
 |_=>none
noncomputable def Eou(l:List Sm):Senv:=EC (BnC l) 6 3 [] (fun _=>([],[]))
def QqE(a:Nat):List D:=[D.fn (Fn.func (56:Nat)) [] [D.ref N0 a N0]]
def QqF:Nd:=Nd.mk Z0 Z0 Z0 [] Z0 Z0 DA [] [] Z0 Z0 Z0
def QOK(a:Nat)(b:List Sm):St:=St.mk [(N0,a,AObj.cells [D.sl 34 (LN b) (fun i=>Sm.row1 (List.getD b i (Sm.mk Z0 Z0 [] Z0 QqF QqF))) Mode.any])] []
theorem BqF(l:List Sm)(hl:l.length<=maxLen)(h:∀s∈l,s.sm):CD 33 [gsl 34 Sm.row1 l] (.bool (RE l)):=by
 refine Bg (A:=sC _ _) (x:=()) (E:=Eou l) (eOk ?_ rfl) Tryz.func33 rfl (by kernel_rfl) rfl (by simp[sC,Eou,EC,E0]) ?_
 ·intro k ds S A hh
  try unfold BnC at hh
  try dsimp only at hh
  split at hh
  ·split at hh
   ·injection hh with hh;subst hh
    refine Bo fun ⟨e,hS⟩=>?_
    rw[hS]
    exact CS.wk (BpI l _ [6,7,11,12,13] hl h (by decide)) e
   ·cases hh
  ·cases hh
 refine Bi (T :=
  ∀(x:Nat),True->∃(x_1:Unit),(wkL (D.sl N1 (5:Nat) (fun i=>List.getD [[ZI 6],[ZI 7],[ZI 11],[ZI 12],[ZI 13]] i []) Mode.full::QqE x) (D.sl N1 (5:Nat) (fun i=>[ZI (GI [(6:Int),(7:Int),(11:Int),(12:Int),(13:Int)] i)]) Mode.any::QqE x)/\SM (QOK x l))/\∀(y:Unit),True->RT (SM (RE l))) (by kernel_rfl) ?_
 delta DA GI LN N0 N1 SM Z0 ZI QqE QqF QOK RT
 try simp only[<- dm]
 try simp only[<- dn]
 simp only[implies_true,and_true,exists_const,forall_const]
 intro x
 simp only[wkL,wkD,Bb]
 refine⟨⟨by simp,by simp,fun i hi=>?_,by simp[BG]⟩,by simp[Bn],trivial⟩
 match i,hi with
 |0,_=>exact Be _
 |1,_=>exact Be _
 |2,_=>exact Be _
 |3,_=>exact Be _
 |4,_=>exact Be _
theorem Bca{L:List D}{M:List (List UInt8)}(h:L=M.map D.str){n:Nat}(hn:n<M.length):Bn (L.getD n D.unk) (.str (M.getD n [])):=by
 subst h
 have:(M.map D.str).getD n D.unk=.str (M.getD n []):=by simp[List.getD_eq_getElem?_getD,hn]
 rw[this]
 exact Bp _
theorem Bh6:primL.length=56:=by decide +kernel
theorem Bm5:opL.length=12:=by decide +kernel
theorem OQ{p:Int}(h:p<1\/56<=p):Cf p=[]:=if_pos h
theorem BbA{p:Int}(h:p<1\/12<=p):opT p=[]:=if_pos h
theorem Bgo{p:Int}(h:¬(p<1\/56<=p)):Cf p=primL.getD p.toNat []:=if_neg h
theorem BnI{p:Int}(h:¬(p<1\/12<=p)):opT p=opL.getD p.toNat []:=if_neg h
noncomputable def Epn:Senv:={ EC Eu 14 1 [2,3,10] (fun _=>([],[])) with mg:=fun _=>2 }
def QqG(a:Int):Prop:=True/\∃(_y:Unit),True/\Cv (List UInt8) [] (Cf a)/\True/\True
theorem Bl6(p:Int):ACalls Tryz.prog 77 [.int .i64 p] ⟨[],[]⟩ (SpecR (sC [.int .i64 p] (.str (Cf p))) ()):=by
 refine Bg (A:=sC _ _) (x:=()) (E:=Epn) (eOk BL rfl) Tryz.func77 rfl (by kernel_rfl) rfl (by simp[sC,Epn,EC,E0]) ?_
 refine Bi (T :=
  ∀(x:Nat),True->SM x/\ifB (decide (p<Z1)) (QqG p) (ifB (decide ((56:Int)<=p)) (QqG p) (Bc (Z0<=p/\p<56) (SM x/\Bc (N0+Int.toNat p*N1+N1<=56) (True/\∃(y:Unit),True/\Bn (List.getD [D.str [],D.str [43],D.str [45],D.str [42],D.str [37],D.str [124],D.str [94],D.str [109,105,110],D.str [109,97,120],D.str [60],D.str [60,61],D.str [61],D.str [126,61],D.str [62,61],D.str [62],D.str [97,110,100],D.str [111,114],D.str [110,111,116],D.str [115,104,97,112,101],D.str [114,101,115,104,97,112,101],D.str [116,97,108,108,121],D.str [100,101,112,116,104],D.str [44],D.str [115,116,97,99,107],D.str [105,111,116,97],D.str [116,97,107,101],D.str [100,114,111,112],D.str [102,105,114,115,116],D.str [114,101,118,101,114,115,101],D.str [114,111,116,97,116,101],D.str [116,114,97,110,115,112,111,115,101],D.str [102,114,111,109],D.str [112,105,99,107],D.str [115,101,108,101,99,116],D.str [97,109,101,110,100],D.str [117,112],D.str [100,111,119,110],D.str [115,111,114,116],D.str [102,105,110,100],D.str [105,110],D.str [117,110,105,113,117,101],D.str [119,104,101,114,101],D.str [99,111,112,121],D.str [101,120,112,97,110,100],D.str [99,117,116],D.str [101,110,99,111,100,101],D.str [100,101,99,111,100,101],D.str [98,111,120],D.str [111,112,101,110],D.str [115,97,109,101],D.str [107,105,110,100],D.str [111,114,100],D.str [99,104,114],D.str [102,111,114,109,97,116],D.str [108,101,102,116],D.str [114,105,103,104,116]] (N0+Int.toNat p*N1) D.unk) (D.str (Cf p))/\True/\True))))) (by kernel_rfl) ?_
 delta N0 N1 SM Z0 Z1 QqG
 simp only[Bf,Bd,decide_eq_true_eq,decide_eq_false_iff_not,Nat.mul_one,true_and,and_true,exists_const]
 refine fun x _=>⟨fun h=>(OQ (.inl h)).symm,fun h1=>⟨fun h=>(OQ (.inr h)).symm,fun h2=>⟨⟨by omega,by omega⟩,by omega,?_⟩⟩⟩
 rw[Bgo (by omega),Nat.zero_add]
 exact Bca (M:=primL) (by kernel_rfl) (by rw[Bh6];omega)
noncomputable def Eon:Senv:={ EC Eu 14 1 [2,3,10] (fun _=>([],[])) with mg:=fun _=>2 }
def QqH(a:Int):Prop:=True/\∃(_y:Unit),True/\Cv (List UInt8) [] (opT a)/\True/\True
theorem BkC(p:Int):ACalls Tryz.prog 78 [.int .i64 p] ⟨[],[]⟩ (SpecR (sC [.int .i64 p] (.str (opT p))) ()):=by
 refine Bg (A:=sC _ _) (x:=()) (E:=Eon) (eOk BL rfl) Tryz.func78 rfl (by kernel_rfl) rfl (by simp[sC,Eon,EC,E0]) ?_
 refine Bi (T :=
  ∀(x:Nat),True->SM x/\ifB (decide (p<Z1)) (QqH p) (ifB (decide ((12:Int)<=p)) (QqH p) (Bc (Z0<=p/\p<12) (SM x/\Bc (N0+Int.toNat p*N1+N1<=12) (True/\∃(y:Unit),True/\Bn (List.getD [D.str [],D.str [47],D.str [92],D.str [101,97,99,104],D.str [115,119,97,112],D.str [111,117,116,101,114],D.str [105,110,110,101,114],D.str [114,97,110,107],D.str [112,111,119,101,114],D.str [115,116,101,110,99,105,108],D.str [97,116,111,112],D.str [111,118,101,114]] (N0+Int.toNat p*N1) D.unk) (D.str (opT p))/\True/\True))))) (by kernel_rfl) ?_
 delta N0 N1 SM Z0 Z1 QqH
 simp only[Bf,Bd,decide_eq_true_eq,decide_eq_false_iff_not,Nat.mul_one,true_and,and_true,exists_const]
 refine fun x _=>⟨fun h=>(BbA (.inl h)).symm,fun h1=>⟨fun h=>(BbA (.inr h)).symm,fun h2=>⟨⟨by omega,by omega⟩,by omega,?_⟩⟩⟩
 rw[BnI (by omega),Nat.zero_add]
 exact Bca (M:=opL) (by kernel_rfl) (by rw[Bm5];omega)
noncomputable def Erpn:Senv:={ EC Eu 18 1 [2,3,12] (fun _=>([],[])) with mg:=fun _=>2 }
def QqI(a:Int):Prop:=True/\∃(_y:Unit),True/\Cv (List UInt8) [] (Cf a)/\True/\True
theorem BpD(p:Int)(h:Br p):ACalls Tryz.prog 150 [.int .i64 p] ⟨[],[]⟩ (SpecR (sC [.int .i64 p] (.str (Cf p))) ()):=by
 refine Bg (A:=sC _ _) (x:=()) (E:=Erpn) (eOk BL rfl) Tryz.func150 rfl (by kernel_rfl) rfl (by simp[sC,Erpn,EC,E0]) ?_
 refine Bi (T :=
  ifB (decide (p<Z1)) (QqI p) (ifB (decide ((55:Int)<p)) (QqI p) (Bc (Z0<=IntKind.wrap IntKind.i64 (p-Z1)/\IntKind.wrap IntKind.i64 (p-Z1)<55) (True/\∃(y:Unit),True/\List.getD [[(43:UInt8)],[(45:UInt8)],[(42:UInt8)],[(37:UInt8)],[(124:UInt8)],[(94:UInt8)],[(109:UInt8),(105:UInt8),(110:UInt8)],[(109:UInt8),(97:UInt8),(120:UInt8)],[(60:UInt8)],[(60:UInt8),(61:UInt8)],[(61:UInt8)],[(126:UInt8),(61:UInt8)],[(62:UInt8),(61:UInt8)],[(62:UInt8)],[(97:UInt8),(110:UInt8),(100:UInt8)],[(111:UInt8),(114:UInt8)],[(110:UInt8),(111:UInt8),(116:UInt8)],[(115:UInt8),(104:UInt8),(97:UInt8),(112:UInt8),(101:UInt8)],[(114:UInt8),(101:UInt8),(115:UInt8),(104:UInt8),(97:UInt8),(112:UInt8),(101:UInt8)],[(116:UInt8),(97:UInt8),(108:UInt8),(108:UInt8),(121:UInt8)],[(100:UInt8),(101:UInt8),(112:UInt8),(116:UInt8),(104:UInt8)],[(44:UInt8)],[(115:UInt8),(116:UInt8),(97:UInt8),(99:UInt8),(107:UInt8)],[(105:UInt8),(111:UInt8),(116:UInt8),(97:UInt8)],[(116:UInt8),(97:UInt8),(107:UInt8),(101:UInt8)],[(100:UInt8),(114:UInt8),(111:UInt8),(112:UInt8)],[(102:UInt8),(105:UInt8),(114:UInt8),(115:UInt8),(116:UInt8)],[(114:UInt8),(101:UInt8),(118:UInt8),(101:UInt8),(114:UInt8),(115:UInt8),(101:UInt8)],[(114:UInt8),(111:UInt8),(116:UInt8),(97:UInt8),(116:UInt8),(101:UInt8)],[(116:UInt8),(114:UInt8),(97:UInt8),(110:UInt8),(115:UInt8),(112:UInt8),(111:UInt8),(115:UInt8),(101:UInt8)],[(102:UInt8),(114:UInt8),(111:UInt8),(109:UInt8)],[(112:UInt8),(105:UInt8),(99:UInt8),(107:UInt8)],[(115:UInt8),(101:UInt8),(108:UInt8),(101:UInt8),(99:UInt8),(116:UInt8)],[(97:UInt8),(109:UInt8),(101:UInt8),(110:UInt8),(100:UInt8)],[(117:UInt8),(112:UInt8)],[(100:UInt8),(111:UInt8),(119:UInt8),(110:UInt8)],[(115:UInt8),(111:UInt8),(114:UInt8),(116:UInt8)],[(102:UInt8),(105:UInt8),(110:UInt8),(100:UInt8)],[(105:UInt8),(110:UInt8)],[(117:UInt8),(110:UInt8),(105:UInt8),(113:UInt8),(117:UInt8),(101:UInt8)],[(119:UInt8),(104:UInt8),(101:UInt8),(114:UInt8),(101:UInt8)],[(99:UInt8),(111:UInt8),(112:UInt8),(121:UInt8)],[(101:UInt8),(120:UInt8),(112:UInt8),(97:UInt8),(110:UInt8),(100:UInt8)],[(99:UInt8),(117:UInt8),(116:UInt8)],[(101:UInt8),(110:UInt8),(99:UInt8),(111:UInt8),(100:UInt8),(101:UInt8)],[(100:UInt8),(101:UInt8),(99:UInt8),(111:UInt8),(100:UInt8),(101:UInt8)],[(98:UInt8),(111:UInt8),(120:UInt8)],[(111:UInt8),(112:UInt8),(101:UInt8),(110:UInt8)],[(115:UInt8),(97:UInt8),(109:UInt8),(101:UInt8)],[(107:UInt8),(105:UInt8),(110:UInt8),(100:UInt8)],[(111:UInt8),(114:UInt8),(100:UInt8)],[(99:UInt8),(104:UInt8),(114:UInt8)],[(102:UInt8),(111:UInt8),(114:UInt8),(109:UInt8),(97:UInt8),(116:UInt8)],[(108:UInt8),(101:UInt8),(102:UInt8),(116:UInt8)],[(114:UInt8),(105:UInt8),(103:UInt8),(104:UInt8),(116:UInt8)]] (Int.toNat (IntKind.wrap IntKind.i64 (p-Z1))) []=Cf p/\True/\True)))) (by kernel_rfl) ?_
 delta Z0 Z1 QqI
 simp only[Bf,Bd,decide_eq_true_eq,decide_eq_false_iff_not,true_and,and_true,exists_const]
 unfold Br at h
 refine⟨fun h=>(OQ (.inl h)).symm,fun h1=>⟨fun h=>(OQ (.inr (by omega))).symm,fun h2=>?_⟩⟩
 have w:IntKind.i64.wrap (p-1)=p-1:=Ba (by omega) (by omega)
 rw[w,Bgo (by omega)]
 refine⟨⟨by omega,by omega⟩,?_⟩
 have e:primL.getD p.toNat []=(primL.drop 1).getD (p-1).toNat []:=by
  rw[List.getD_eq_getElem?_getD,List.getD_eq_getElem?_getD,List.getElem?_drop]
  congr 2;omega
 rw[e]
 have hL:∀A:List (List UInt8),A=primL.drop 1->A.getD (p-1).toNat []=(primL.drop 1).getD (p-1).toNat []:=fun A e=>by rw[e]
 first
  |exact hL _ (by decide +kernel)
  |exact⟨trivial,hL _ (by decide +kernel)⟩
noncomputable def Eron:Senv:={ EC Eu 18 1 [2,3,12] (fun _=>([],[])) with mg:=fun _=>2 }
def QqJ(a:Int):Prop:=True/\∃(_y:Unit),True/\Cv (List UInt8) [] (opT a)/\True/\True
theorem Bpa(p:Int)(h:Br p):ACalls Tryz.prog 151 [.int .i64 p] ⟨[],[]⟩ (SpecR (sC [.int .i64 p] (.str (opT p))) ()):=by
 refine Bg (A:=sC _ _) (x:=()) (E:=Eron) (eOk BL rfl) Tryz.func151 rfl (by kernel_rfl) rfl (by simp[sC,Eron,EC,E0]) ?_
 refine Bi (T :=
  ifB (decide (p<Z1)) (QqJ p) (ifB (decide ((11:Int)<p)) (QqJ p) (Bc (Z0<=IntKind.wrap IntKind.i64 (p-Z1)/\IntKind.wrap IntKind.i64 (p-Z1)<11) (True/\∃(y:Unit),True/\List.getD [[(47:UInt8)],[(92:UInt8)],[(101:UInt8),(97:UInt8),(99:UInt8),(104:UInt8)],[(115:UInt8),(119:UInt8),(97:UInt8),(112:UInt8)],[(111:UInt8),(117:UInt8),(116:UInt8),(101:UInt8),(114:UInt8)],[(105:UInt8),(110:UInt8),(110:UInt8),(101:UInt8),(114:UInt8)],[(114:UInt8),(97:UInt8),(110:UInt8),(107:UInt8)],[(112:UInt8),(111:UInt8),(119:UInt8),(101:UInt8),(114:UInt8)],[(115:UInt8),(116:UInt8),(101:UInt8),(110:UInt8),(99:UInt8),(105:UInt8),(108:UInt8)],[(97:UInt8),(116:UInt8),(111:UInt8),(112:UInt8)],[(111:UInt8),(118:UInt8),(101:UInt8),(114:UInt8)]] (Int.toNat (IntKind.wrap IntKind.i64 (p-Z1))) []=opT p/\True/\True)))) (by kernel_rfl) ?_
 delta Z0 Z1 QqJ
 simp only[Bf,Bd,decide_eq_true_eq,decide_eq_false_iff_not,true_and,and_true,exists_const]
 unfold Br at h
 refine⟨fun h=>(BbA (.inl h)).symm,fun h1=>⟨fun h=>(BbA (.inr (by omega))).symm,fun h2=>?_⟩⟩
 have w:IntKind.i64.wrap (p-1)=p-1:=Ba (by omega) (by omega)
 rw[w,BnI (by omega)]
 refine⟨⟨by omega,by omega⟩,?_⟩
 have e:opL.getD p.toNat []=(opL.drop 1).getD (p-1).toNat []:=by
  rw[List.getD_eq_getElem?_getD,List.getD_eq_getElem?_getD,List.getElem?_drop]
  congr 2;omega
 rw[e]
 have hL:∀A:List (List UInt8),A=opL.drop 1->A.getD (p-1).toNat []=(opL.drop 1).getD (p-1).toNat []:=fun A e=>by rw[e]
 first
  |exact hL _ (by decide +kernel)
  |exact⟨trivial,hL _ (by decide +kernel)⟩
def Mn(c:Int):List UInt8:=(Utf8.encode c).data.toList
def Gh(c q:Int):List UInt8 :=
 if c=10 then [92,110] else if c=9 then [92,116] else if c=13 then [92,114] else if c=92\/c=q then 92::Mn c
 else if c<32\/c=127 then [92,117,123]++GF c.toNat++[125] else Mn c
theorem Ms(c:Int):(Mn c).length<=4:=by
 have : ∀c : Nat, ((if c<0x80 then ⟨#[UInt8.ofNat c]⟩
   else if c<0x800 then ⟨#[UInt8.ofNat (0xC0+c / 64),UInt8.ofNat (0x80+c % 64)]⟩
   else if c<0x10000 then ⟨#[UInt8.ofNat (0xE0+c / 4096),UInt8.ofNat (0x80+c / 64 % 64),UInt8.ofNat (0x80+c % 64)]⟩
   else ⟨#[UInt8.ofNat (0xF0+c / 262144),UInt8.ofNat (0x80+c / 4096 % 64),UInt8.ofNat (0x80+c / 64 % 64),UInt8.ofNat (0x80+c % 64)]⟩:ByteArray).data.toList).length<=4:=fun c=>by
  (repeat' split)<;>simp
 exact this _
theorem WH(n:Nat):(GF n).length<=2:=by unfold GF;split<;>simp
def Rg:Con:=fun k ds S=>match k with
 |162=>match ds with
  | [.int .i64 n,.int .i64 16]=>some (pC [.int .i64 n,.int .i64 16] (.str (GF n.toNat)) (0<=n/\n<128))
  |_=>none
 |k=>BfT k ds S
theorem T8:ConOk Tryz.prog Rg:=by
 intro k ds S A h
 unfold Rg at h
 split at h
 ·split at h
  ·injection h with h;subst h
   exact BZ fun h1=>⟨Bk _,Bpk _ h1⟩
  ·cases h
 ·exact Bc4 _ _ _ _ h
noncomputable def Ees:Senv:=EC Rg 32 2 [4,5,6,8,10,12,24] (fun _=>([],[]))
def XP(a b:Int):List UInt8:=Gh a b
def Qhn(a:Int):List UInt8:=Array.toList (ByteArray.data (Utf8.encode a))
def QqK(a b:Int):Prop:=Bc (N1+LN (Qhn a)<=9223372036854775807) (True/\∃(_y:Unit),True/\(92:UInt8)::List.append [] (Qhn a)=XP a b/\True/\True)
def Qho(a:Int):Bool:=bif decide (a<32) then true else a==127
def QqL(a:Int):List UInt8:=GF (Int.toNat (IntKind.wrap IntKind.i64 a))
def QqM(a:Int):List UInt8:=List.append [] (QqL a)
def QqN(a b:Int):Prop:=ifB (decide (a<32)) (true=Qho a/\True) ((a==127)=Qho a/\True)/\ifB (Qho a) ((Z0<=IntKind.wrap IntKind.i64 a/\IntKind.wrap IntKind.i64 a<128)/\∀(_y:Unit),True->Bc ((3:Nat)+LN (QqL a)<=9223372036854775807) (Bc (LN ((92:UInt8)::(117:UInt8)::(123:UInt8)::QqM a)+N1<=9223372036854775807) (True/\∃(_y:Unit),True/\(92:UInt8)::(117:UInt8)::(123:UInt8)::List.append (QqM a) [(125:UInt8)]=XP a b/\True/\True))) (True/\∃(_y:Unit),True/\Qhn a=XP a b/\True/\True)
theorem Bog(c q:Int)(h:0<=c/\c<=1114111):ACalls Tryz.prog 155 [.int .i32 c,.int .i32 q] ⟨[],[]⟩ (SpecR (sC [.int .i32 c,.int .i32 q] (.str (Gh c q))) ()):=by
 refine Bg (A:=sC _ _) (x:=()) (E:=Ees) (eOk T8 rfl) Tryz.func155 rfl (by kernel_rfl) rfl (by simp[sC,Ees,EC,E0]) ?_
 refine Bi (T :=
  ifB (c==10) (RT ([(92:UInt8),(110:UInt8)]=XP c q)) (ifB (c==9) (RT ([(92:UInt8),(116:UInt8)]=XP c q)) (ifB (c==13) (RT ([(92:UInt8),(114:UInt8)]=XP c q)) (ifB (c==92) (ifB (c==92) (QqK c q) (QqN c q)) (ifB (c==q) (QqK c q) (QqN c q)))))) (by kernel_rfl) ?_
 delta LN N1 Z0 XP Qhn QqK Qho QqL QqM QqN RT
 have e:IntKind.i64.wrap c=c:=Ba (by omega) (by omega)
 have l1:=Ms c
 have l2:=WH c.toNat
 unfold Mn at l1
 have a1:∀l:List UInt8,[].append l=l:=fun _=>rfl
 have a2:∀l r:List UInt8,l.append r=l++r:=fun _ _=>rfl
 simp only[a1,a2,Bf,Bd,e,beq_iff_eq,beq_eq_false_iff_ne,decide_eq_true_eq,decide_eq_false_iff_not,Bool.cond_true_left,Bool.or_eq_true,Bool.or_eq_false_iff,true_and,and_true,exists_const,forall_const,List.length_cons]
 refine⟨fun h=>by subst h;rfl,fun h1=>⟨fun h=>by subst h;rfl,fun h2=>⟨fun h=>by subst h;rfl,fun h3=>⟨fun h4=>⟨fun _=>⟨by omega,?_⟩,fun hh=>(hh h4).elim⟩,fun h4=>⟨fun h5=>⟨by omega,?_⟩,fun h5=>⟨⟨fun h=>by simp[h],fun h=>by simp[h]⟩,fun h6=>⟨by omega,by omega,by omega,?_⟩,fun h6=>?_⟩⟩⟩⟩⟩⟩
 ·unfold Gh;rw[if_neg h1,if_neg h2,if_neg h3,if_pos (.inl h4)];rfl
 ·unfold Gh;rw[if_neg h1,if_neg h2,if_neg h3,if_pos (.inr h5)];rfl
 ·unfold Gh;rw[if_neg h1,if_neg h2,if_neg h3,if_neg (by omega),if_pos h6];rfl
 ·unfold Gh;rw[if_neg h1,if_neg h2,if_neg h3,if_neg (by omega),if_neg (by omega)];rfl
theorem BkV:∀k,k<16->List.drop k (List.take (k+1) ([48,49,50,51,52,53,54,55,56,57,97,98,99,100,101,102]:List UInt8))=[Bbz k]:=by decide
noncomputable def Erh1:Senv:=EC Eu 22 1 [2,3,5] (fun id=>match id with | 4=>([0,1,3,4,5,6,7,8,9,2,10,11],[2]) | _=>([],[]))
theorem Bp3(n:Int)(h:0<=n/\n<16):ACalls Tryz.prog 179 [.int .i64 n] ⟨[],[]⟩ (SpecR (sC [.int .i64 n] (.str [Bbz n.toNat])) ()):=by
 refine Bg (A:=sC _ _) (x:=()) (E:={ Erh1 with inl:=fun _ _ _ _=>False }) ⟨BdM,BL,mix,fun _ _ _ _ h=>h.elim,BeT⟩ Tryz.func179 rfl (by kernel_rfl) rfl (by simp[sC,Erh1,EC,E0]) ?_
 refine Bi (T :=
  ifB (decide (n<16)) (Bc (Z0<=n/\n<=IntKind.wrap IntKind.i64 (n+Z1)/\IntKind.wrap IntKind.i64 (n+Z1)<=16) (RT (List.drop (Int.toNat n) (List.take (Int.toNat (IntKind.wrap IntKind.i64 (n+Z1))) [(48:UInt8),(49:UInt8),(50:UInt8),(51:UInt8),(52:UInt8),(53:UInt8),(54:UInt8),(55:UInt8),(56:UInt8),(57:UInt8),(97:UInt8),(98:UInt8),(99:UInt8),(100:UInt8),(101:UInt8),(102:UInt8)])=[Bbz (Int.toNat n)]))) (Bc (Z0<=Int.tmod n (16:Int)/\Int.tmod n (16:Int)<=IntKind.wrap IntKind.i64 (Int.tmod n (16:Int)+Z1)/\IntKind.wrap IntKind.i64 (Int.tmod n (16:Int)+Z1)<=16) False)) (by kernel_rfl) ?_
 delta Z0 Z1 RT
 rw[Bf]
 refine⟨fun _=>?_,fun h1=>absurd h.2 (by simpa using h1)⟩
 rw[Bd,Ba (by omega) (by omega)]
 refine⟨by omega,trivial,(),trivial,?_,trivial,trivial⟩
 rw[show (n+1).toNat=n.toNat+1 by omega]
 exact BkV _ (by omega)
def BiD:Con:=fun k ds S=>match k with
 |179=>match ds with
  | [.int .i64 n]=>some (pC [.int .i64 n] (.str [Bbz n.toNat]) (0<=n/\n<16))
  |_=>none
 |k=>Rg k ds S
theorem Bj2:ConOk Tryz.prog BiD:=by
 intro k ds S A h
 unfold BiD at h
 split at h
 ·split at h
  ·injection h with h;subst h
   exact BZ fun h1=>⟨Bk _,Bp3 _ h1⟩
  ·cases h
 ·exact T8 _ _ _ _ h
noncomputable def Erh2:Senv:=EC BiD 22 1 [2,3,5] (fun id=>match id with | 4=>([0,1,3,4,5,6,7,8,9,2,10,11],[2]) | _=>([],[]))
def QqO:List UInt8:=[(48:UInt8),(49:UInt8),(50:UInt8),(51:UInt8),(52:UInt8),(53:UInt8),(54:UInt8),(55:UInt8),(56:UInt8),(57:UInt8),(97:UInt8),(98:UInt8),(99:UInt8),(100:UInt8),(101:UInt8),(102:UInt8)]
def Qhp(a:Int):Int:=IntKind.wrap IntKind.i64 (Int.tmod a (16:Int)+Z1)
def QqP(a:Int):List UInt8:=List.drop (Int.toNat (Int.tmod a (16:Int))) (List.take (Int.toNat (Qhp a)) QqO)
theorem Bnh(n:Int)(h:0<=n/\n<128):ACalls Tryz.prog 179 [.int .i64 n] ⟨[],[]⟩ (SpecR (sC [.int .i64 n] (.str (GF n.toNat))) ()):=by
 refine Bg (A:=sC _ _) (x:=()) (E:=Erh2) (eOk Bj2 rfl) Tryz.func179 rfl (by kernel_rfl) rfl (by simp[sC,Erh2,EC,E0]) ?_
 refine Bi (T :=
  ifB (decide (n<16)) (Bc (Z0<=n/\n<=IntKind.wrap IntKind.i64 (n+Z1)/\IntKind.wrap IntKind.i64 (n+Z1)<=16) (RT (List.drop (Int.toNat n) (List.take (Int.toNat (IntKind.wrap IntKind.i64 (n+Z1))) QqO)=GF (Int.toNat n)))) (Bc (Z0<=Int.tmod n (16:Int)/\Int.tmod n (16:Int)<=Qhp n/\Qhp n<=16) ((Z0<=IntKind.wrap IntKind.i64 (Int.tdiv n (16:Int))/\IntKind.wrap IntKind.i64 (Int.tdiv n (16:Int))<16)/\∀(y:Unit),True->Bc (N1+LN (QqP n)<=9223372036854775807) (RT (Bbz (Int.toNat (IntKind.wrap IntKind.i64 (Int.tdiv n (16:Int))))::List.append [] (QqP n)=GF (Int.toNat n)))))) (by kernel_rfl) ?_
 delta LN N1 Z0 Z1 QqO Qhp QqP RT
 rw[Bf]
 have ho:n.tmod 16=((n.toNat % 16:Nat):Int):=by
  obtain ⟨m,rfl⟩:∃m:Nat,n=m:=⟨n.toNat,by omega⟩
  rfl
 have hd:n.tdiv 16=((n.toNat / 16:Nat):Int):=by
  obtain ⟨m,rfl⟩:∃m:Nat,n=m:=⟨n.toNat,by omega⟩
  rfl
 refine⟨fun h1=>?_,fun h1=>?_⟩
 ·have h1:n<16:=by simpa using h1
  rw[Bd,Ba (by omega) (by omega)]
  refine⟨by omega,trivial,(),trivial,?_,trivial,trivial⟩
  rw[show (n+1).toNat=n.toNat+1 by omega,BkV _ (by omega)]
  unfold GF;rw[if_pos (by omega)]
 ·have h1:¬n<16:=by simpa using h1
  have e1:IntKind.i64.wrap (((n.toNat % 16:Nat):Int)+1)=((n.toNat % 16+1:Nat):Int):=by rw[Ba (by omega) (by omega)];omega
  have e2:IntKind.i64.wrap ((n.toNat / 16:Nat):Int)=((n.toNat / 16:Nat):Int):=Ba (by omega) (by omega)
  rw[ho,hd,e1,e2,Bd]
  refine⟨by omega,by omega,fun _ _=>?_⟩
  rw[Int.toNat_natCast,Int.toNat_natCast,Int.toNat_natCast,BkV _ (by omega),Bd]
  refine⟨by simp,trivial,(),trivial,?_,trivial,trivial⟩
  unfold GF;rw[if_neg (by omega)];rfl
def Bdh:Con:=fun k ds S=>match k with
 |179=>match ds with
  | [.int .i64 n]=>some (pC [.int .i64 n] (.str (GF n.toNat)) (0<=n/\n<128))
  |_=>none
 |155=>match ds with
  | [.int .i32 c,.int .i32 q]=>some (pC [.int .i32 c,.int .i32 q] (.str (Gh c q)) (0<=c/\c<=1114111))
  |_=>none
 |k=>Rg k ds S
theorem W5:ConOk Tryz.prog Bdh:=by
 intro k ds S A h
 unfold Bdh at h
 split at h
 ·split at h
  ·injection h with h;subst h
   exact BZ fun h1=>⟨Bk _,Bnh _ h1⟩
  ·cases h
 ·split at h
  ·injection h with h;subst h
   exact BZ fun h1=>⟨Bk _,Bog _ _ h1⟩
  ·cases h
 ·exact T8 _ _ _ _ h
noncomputable def Erx:Senv:=EC Bdh 33 2 [4,5,6,8,10,12,25] (fun _=>([],[]))
def XQ(a b:Int):List UInt8:=Gh a b
def Qhq(a:Int):List UInt8:=Array.toList (ByteArray.data (Utf8.encode (IntKind.wrap IntKind.i32 a)))
def QqQ(a b:Int):Prop:=Bc (N1+LN (Qhq a)<=9223372036854775807) (True/\∃(_y:Unit),True/\(92:UInt8)::List.append [] (Qhq a)=XQ a b/\True/\True)
def Qhr(a:Int):Bool:=bif decide (a<32) then true else a==127
def QqR(a:Int):List UInt8:=List.append [] (GF (Int.toNat a))
def QqS(a b:Int):Prop:=ifB (decide (a<32)) (true=Qhr a/\True) ((a==127)=Qhr a/\True)/\ifB (Qhr a) ((Z0<=a/\a<128)/\∀(_y:Unit),True->Bc ((3:Nat)+LN (GF (Int.toNat a))<=9223372036854775807) (Bc (LN ((92:UInt8)::(117:UInt8)::(123:UInt8)::QqR a)+N1<=9223372036854775807) (True/\∃(_y:Unit),True/\(92:UInt8)::(117:UInt8)::(123:UInt8)::List.append (QqR a) [(125:UInt8)]=XQ a b/\True/\True))) (True/\∃(_y:Unit),True/\Qhq a=XQ a b/\True/\True)
theorem Bko(c q:Int)(h:0<=c/\c<=1114111):ACalls Tryz.prog 172 [.int .i64 c,.int .i64 q] ⟨[],[]⟩ (SpecR (sC [.int .i64 c,.int .i64 q] (.str (Gh c q))) ()):=by
 refine Bg (A:=sC _ _) (x:=()) (E:=Erx) (eOk W5 rfl) Tryz.func172 rfl (by kernel_rfl) rfl (by simp[sC,Erx,EC,E0]) ?_
 refine Bi (T :=
  ifB (c==10) (RT ([(92:UInt8),(110:UInt8)]=XQ c q)) (ifB (c==9) (RT ([(92:UInt8),(116:UInt8)]=XQ c q)) (ifB (c==13) (RT ([(92:UInt8),(114:UInt8)]=XQ c q)) (ifB (c==92) (ifB (c==92) (QqQ c q) (QqS c q)) (ifB (c==q) (QqQ c q) (QqS c q)))))) (by kernel_rfl) ?_
 delta LN N1 Z0 XQ Qhq QqQ Qhr QqR QqS RT
 have e:IntKind.i32.wrap c=c:=by rw[IntKind.wrap_i32];omega
 have l1:=Ms c
 have l2:=WH c.toNat
 unfold Mn at l1
 have a1:∀l:List UInt8,[].append l=l:=fun _=>rfl
 have a2:∀l r:List UInt8,l.append r=l++r:=fun _ _=>rfl
 simp only[a1,a2,Bf,Bd,e,beq_iff_eq,beq_eq_false_iff_ne,decide_eq_true_eq,decide_eq_false_iff_not,Bool.cond_true_left,Bool.or_eq_true,Bool.or_eq_false_iff,true_and,and_true,exists_const,forall_const,List.length_cons]
 refine⟨fun h=>by subst h;rfl,fun h1=>⟨fun h=>by subst h;rfl,fun h2=>⟨fun h=>by subst h;rfl,fun h3=>⟨fun h4=>⟨fun _=>⟨by omega,?_⟩,fun hh=>(hh h4).elim⟩,fun h4=>⟨fun h5=>⟨by omega,?_⟩,fun h5=>⟨⟨fun h=>by simp[h],fun h=>by simp[h]⟩,fun h6=>⟨by omega,by omega,by omega,?_⟩,fun h6=>?_⟩⟩⟩⟩⟩⟩
 ·unfold Gh;rw[if_neg h1,if_neg h2,if_neg h3,if_pos (.inl h4)];rfl
 ·unfold Gh;rw[if_neg h1,if_neg h2,if_neg h3,if_pos (.inr h5)];rfl
 ·unfold Gh;rw[if_neg h1,if_neg h2,if_neg h3,if_neg (by omega),if_pos h6];rfl
 ·unfold Gh;rw[if_neg h1,if_neg h2,if_neg h3,if_neg (by omega),if_neg (by omega)];rfl
theorem CL(l:List UInt8):bytesOf l.length (fun i=>[.int .u8 ((l.getD i 0).toNat:Int)])=l:=by
 apply List.ext_getElem
 ·simp[bytesOf]
 ·intro i h1 h2
  simp only[bytesOf,List.getElem_map,List.getElem_range,M5,Ab.byteOf,List.getD_eq_getElem?_getD,List.getElem?_eq_getElem h2,Option.getD_some,Int.toNat_natCast,UInt8.ofNat_toNat]
theorem IV(l:List UInt8):Ix l.length (fun i=>[.int .u8 ((l.getD i 0).toNat:Int)])=true:=by
 simp only[Ix,List.all_eq_true,List.mem_range]
 intro i _
 have:=(l.getD i 0).toNat_lt
 simp only[BiL,Ab.byteB,Bool.and_eq_true,decide_eq_true_eq];omega
theorem BcS{n:Nat}{g:Nat->List D}{m:Ab.Mode}(h:Ix n g=true):Bn (.sl 1 n g m) (bsl (bytesOf n g) m):=by
 simp only[bsl,Bn,Bb]
 refine⟨by simp,by simp[bytesOf],fun i hi=>?_,Ok m⟩
 have hb:BiL (g i)=true:=List.all_eq_true.1 h i (List.mem_range.2 hi)
 have hg:(bytesOf n g).getD i 0=M5 (g i):=by simp[bytesOf,List.getD_eq_getElem?_getD,hi]
 rw[hg]
 unfold BiL at hb
 split at hb
 ·rename_i d hd
  rw[hd]
  have:=Wn hb
  simp only[M5]
  rw[<- this]
 ·cases hb
theorem BmW(l r:List UInt8){i:Nat}(_hi:i<l.length+r.length):BM l.length (fun i=>[D.int .u8 ((l.getD i 0).toNat:Int)]) (fun i=>[D.int .u8 ((r.getD i 0).toNat:Int)]) i=[D.int .u8 (((l++r).getD i 0).toNat:Int)]:=by
 simp only[BM]
 split
 ·rename_i hlt
  simp[List.getD_eq_getElem?_getD,List.getElem?_append_left hlt]
 ·rename_i hge
  simp[List.getD_eq_getElem?_getD,List.getElem?_append_right (Nat.le_of_not_lt hge)]
theorem IZ{n : Nat}{l r : List UInt8}{F G : Nat -> List D}(hn : n=l.length)(hF : ∀i, i<n -> F i=[D.int .u8 ((l.getD i 0).toNat : Int)])(hG : ∀i, i<r.length -> G i=[D.int .u8 ((r.getD i 0).toNat : Int)]) :
  ∀i,i<n+r.length->BM n F G i=[D.int .u8 (((l++r).getD i 0).toNat:Int)]:=by
 intro i hi
 subst hn
 rw[<- BmW l r hi]
 simp only[BM]
 split
 ·exact hF i (by assumption)
 ·exact hG _ (by omega)
theorem Be1{n:Nat}{l:List UInt8}{F:Nat->List D}(hn:n=l.length)(hF:∀i,i<n->F i=[D.int .u8 ((l.getD i 0).toNat:Int)]):bytesOf n F=l:=by
 subst hn
 conv=>rhs;rw[<- CL l]
 unfold bytesOf
 exact List.map_congr_left fun i hi=>by rw[hF i (List.mem_range.1 hi)]
theorem Bkj{n:Nat}{l:List UInt8}{F:Nat->List D}(hn:n=l.length)(hF:∀i,i<n->F i=[D.int .u8 ((l.getD i 0).toNat:Int)]):Ix n F=true:=by
 subst hn
 have h:=IV l
 simp only[Ix,List.all_eq_true,List.mem_range] at h ⊢
 intro i hi
 rw[hF i hi];exact h i hi
theorem Mr{n : Nat}{l : List UInt8}{F : Nat -> List D}{z : Int}{b : UInt8}(hn : n=l.length)(hF : ∀i, i<n -> F i=[D.int .u8 ((l.getD i 0).toNat : Int)])(h : z=(b.toNat : Int)) :
  ∀i,i<n+1->BM n F (fun i=>[[D.int .u8 z]].getD i []) i=[D.int .u8 (((l++[b]).getD i 0).toNat:Int)]:=by
 intro i hi
 subst hn
 simp only[BM]
 split
 ·rename_i hlt
  rw[hF i hlt]
  simp[List.getD_eq_getElem?_getD,List.getElem?_append_left hlt]
 ·have:i=l.length:=by omega
  subst this
  simp[List.getD_eq_getElem?_getD,h]
def M9(q:Int)(l:List Int):List UInt8:=l.flatMap fun c=>Gh c q
def IF(q:Int)(l:List Int):List UInt8:=Mn q++M9 q l++Mn q
theorem To(c q:Int):(Gh c q).length<=6:=by
 have h1:=Ms c
 have h2:=WH c.toNat
 unfold Gh
 (repeat' split)<;>(try simp only[List.length_cons,List.length_nil,List.length_append])<;>omega
theorem OF(q:Int):∀l:List Int,(M9 q l).length<=6*l.length
 | []=>by simp[M9]
 |c::l=>by
  have h1:=To c q
  have h2:=OF q l
  simp only[M9,List.flatMap_cons,List.length_append,List.length_cons] at h2 ⊢
  omega
theorem R8(q c:Int)(l:List Int):M9 q (c::l)=Gh c q++M9 q l:=by simp[M9]
theorem BlW(q:Int):M9 q []=[]:=rfl
theorem BcM{l:List Int}{i:Nat}(h:i<l.length):l.getD i 0∈l:=by
 rw[List.getD_eq_getElem?_getD,List.getElem?_eq_getElem h];simp
structure QHd (q:Int) (l:List Int) (i:Nat) (pre out:List UInt8):Prop where
 hi:i<=l.length
 ho:out++M9 q (l.drop i)=pre++M9 q l
theorem QHd.init(q:Int)(l:List Int)(pre:List UInt8):QHd q l 0 pre pre:=⟨Nat.zero_le _,by simp⟩
theorem QHd.step{q:Int}{l:List Int}{i:Nat}{pre out:List UInt8}(h:QHd q l i pre out)(hlt:i<l.length):QHd q l (i+1) pre (out++Gh (l.getD i 0) q):=by
 refine⟨by omega,?_⟩
 rw[<- h.ho,Om hlt,R8,List.append_assoc]
theorem QHd.len{q:Int}{l:List Int}{i:Nat}{pre out:List UInt8}(h:QHd q l i pre out):out.length<=pre.length+6*l.length:=by
 have:=congrArg List.length h.ho
 have:=OF q l
 simp only[List.length_append] at *; omega
theorem QHd.done{q:Int}{l:List Int}{i:Nat}{pre out:List UInt8}(h:QHd q l i pre out)(hge:¬i<l.length):out=pre++M9 q l:=by
 have:=h.ho
 rw[List.drop_of_length_le (by omega),BlW,List.append_nil] at this
 exact this
noncomputable def Equ(q:Int)(l:List Int):Senv:={ EC Bdh 27 2 [4,5,7,10,11,12,13] (fun _=>([],[])) with
 ann:=fun b _ _=>match b with
  |0=>some { slots:=[12,5],keep:=[0,1,10,11],α:=Nat×List UInt8,st:=fun y=>([.int .i64 y.1,.str y.2],⟨[],[]⟩),inv:=fun y=>QHd q l y.1 (Mn q) y.2,mu:=fun y=>l.length-y.1 }
  |_=>none }
def Qhs(a:Int)(b:List Int)(c:Nat)(d:List UInt8):Prop:=QHd a b c (Mn a) d
def Qht(a:Int):List UInt8:=Array.toList (ByteArray.data (Utf8.encode a))
def Qhu(a:List Int)(b:Nat):Int:=IntKind.wrap IntKind.i32 (GI a (Int.toNat (↑b:Int)))
def QqT(a:List Int)(b:Nat)(c:Int):List UInt8:=Gh (Qhu a b) c
def QOL(a:List Int):D:=SI a
def QqU(a:List Int):Prop:=SM (QOL a)
theorem BoQ(q:Int)(l:List Int)(hl:l.length<=1099511627776)(hc:∀c∈l,0<=c/\c<=1114111):ACalls Tryz.prog 136 [.int .i32 q,isl l .any] ⟨[],[]⟩ (SpecR (sC [.int .i32 q,isl l .any] (.str (IF q l))) ()):=by
 refine Bg (A:=sC _ _) (x:=()) (E:=Equ q l) (eOk W5 rfl) Tryz.func136 rfl (by kernel_rfl) rfl (by simp[sC,Equ,EC,E0]) ?_
 refine Bi (T :=
  (∃(x:Nat×List UInt8),Qhs q l x.1 x.2/\(Z0=(NI x.1)/\Qht q=x.2/\True)/\True/\True)/\∀(x:Nat×List UInt8),Qhs q l x.1 x.2->ifB (decide ((NI x.1)<(LI l))) (Bc (Z0<=(NI x.1)/\(NI x.1)<(LI l)) ((Z0<=Qhu l x.1/\Qhu l x.1<=1114111)/\∀(y:Unit),True->Bc (LN x.2+LN (QqT l x.1 q)<=9223372036854775807) ((SM (D.int IntKind.i32 q)/\QqU l/\QqU l/\SM (ZI (LI l))/\True)/\∃(y:Nat×List UInt8),Qhs q l y.1 y.2/\LN l-y.1<LN l-x.1/\(IntKind.wrap IntKind.i64 ((NI x.1)+Z1)=(NI y.1)/\x.2++QqT l x.1 q=y.2/\True)/\True/\True))) (Bc (LN x.2+LN (Qht q)<=9223372036854775807) (RT (x.2++Qht q=IF q l)))) (by kernel_rfl) ?_
 delta GI LI LN N1 NI SI SM Z0 Z1 ZI Qhs Qht Qhu QqT QOL QqU RT
 have hu:∀c,(Utf8.encode c).data.toList=Mn c:=fun _=>rfl
 simp only[hu,Bf,Bd,decide_eq_true_eq,true_and,and_true,exists_const,forall_const,Int.toNat_natCast,eq_self]
 refine⟨⟨(0,Mn q),QHd.init _ _ _,rfl,rfl⟩,?_⟩
 rintro ⟨i,out⟩ hh
 simp only at hh ⊢
 have h1:=hh.len
 have h2:=Ms q
 refine⟨fun hlt=>?_,fun hge=>?_⟩
 ·have hlt':i<l.length:=by omega
  have hci:=hc (l.getD i 0) (BcM hlt')
  have e:IntKind.i32.wrap (l.getD i 0)=l.getD i 0:=by rw[IntKind.wrap_i32];omega
  have h3:=To (l.getD i 0) q
  rw[e]
  exact⟨by omega,hci,by omega,(i+1,out++Gh (l.getD i 0) q),hh.step hlt',by simp only;omega,Ba (by omega) (by omega),rfl⟩
 ·have hge':¬i<l.length:=by simpa using hge
  have h3:=OF q l
  rw[hh.done hge']
  exact⟨by simp only[List.length_append];omega,rfl⟩
def BgK:Con:=fun k ds S=>match k with
 |172=>match ds with
  | [.int .i64 c,.int .i64 q]=>some (pC [.int .i64 c,.int .i64 q] (.str (Gh c q)) (0<=c/\c<=1114111))
  |_=>none
 |k=>Bdh k ds S
theorem Bdq:ConOk Tryz.prog BgK:=by
 intro k ds S A h
 unfold BgK at h
 split at h
 ·split at h
  ·injection h with h;subst h
   exact BZ fun h1=>⟨Bk _,Bko _ _ h1⟩
  ·cases h
 ·exact W5 _ _ _ _ h
noncomputable def Erq(l:List Int):Senv:={ EC BgK 25 5 [10] (fun _=>([],[])) with
 gh:=fun b=>match b with
  |0=>[.slot 3]
  |_=>[]
 ann:=fun b _ S=>match b with
  |0=>some { slots:=[4,3],keep:=[0,1],α:=Nat×Nat×List UInt8,st:=fun y=>([.int .i64 y.1,bsl y.2.2 (.tok 0 y.2.1)],⟨S.objs,[(0,y.2.1)]⟩),inv:=fun y=>QHd 34 l y.1 [34] y.2.2,mu:=fun y=>l.length-y.1 }
  |_=>none }
def Qhv(a:List Int)(b:Nat)(c:List UInt8):Prop:=QHd (34:Int) a b [(34:UInt8)] c
def Zw(a:List UInt8)(b:Nat):List D:=[ZB (BI a b)]
def QqV(a:Nat)(b:Int)(c:Nat)(d:Nat->List D)(e:List Int)(f:Nat)(g:Nat->List D)(h k:Nat):Prop:=(SM a/\(SM b/\(SM c/\(∀(i:Nat),i<c->SM (d i))/\True)/\(SM (LN e)/\(∀(i:Nat),i<LN e->SM [ZI (GI e i)])/\True)/\(SM f/\(∀(i:Nat),i<f->SM (g i))/\True)/\True)/\True)/\h=k/\True
def Qba(a:List UInt8)(b:List Int)(c:Nat):Nat:=LN a+LN (Gh (GI b (Int.toNat (↑c:Int))) (34:Int))
theorem BmX(k:Int)(n1 n2:Nat)(f1 f2:Nat->List D)(l:List Int)(hl:l.length<=1099511627776)(hc:∀c∈l,0<=c/\c<=1114111):ACalls Tryz.prog 164 [.agg [.int .i64 k,.sl 1 n1 f1 .any,isl l .any,.sl 4 n2 f2 .any]] ⟨[],[]⟩ (SpecR (sC [.agg [.int .i64 k,.sl 1 n1 f1 .any,isl l .any,.sl 4 n2 f2 .any]] (.str (IF 34 l))) ()):=by
 refine Bg (A:=sC _ _) (x:=()) (E:=Erq l) (eOk Bdq rfl) Tryz.func164 rfl (by kernel_rfl) rfl (by simp[sC,Erq,EC,E0]) ?_
 refine Bi (T :=
  ∀(x:Nat),True->∀(t:Nat),(∃(x_1:Nat×Nat×List UInt8),Qhv l x_1.1 x_1.2.2/\(Z0=(NI x_1.1)/\(N1=LN x_1.2.2/\(∀(i:Nat),i<N1->List.getD [[ZB (34:Int)]] i []=Zw x_1.2.2 i)/\t=x_1.2.1)/\True)/\QqV x k n1 f1 l n2 f2 t x_1.2.1)/\∀(x_1:Nat×Nat×List UInt8),Qhv l x_1.1 x_1.2.2->SM x/\ifB (decide ((NI x_1.1)<(LI l))) (SM x/\Bc (Z0<=(NI x_1.1)/\(NI x_1.1)<(LI l)) ((Z0<=GI l (TN x_1.1)/\GI l (TN x_1.1)<=1114111)/\∀(y:Unit),True->SM x_1.2.1/\Bc (Qba x_1.2.2 l x_1.1*N1<=140737488355328/\Qba x_1.2.2 l x_1.1<=9223372036854775807) (∀(t:Nat),(SM (D.agg [ZI k,D.sl N1 n1 f1 Mode.any,SI l,D.sl N4 n2 f2 Mode.any])/\SM (D.ref N0 x N0)/\True)/\∃(y:Nat×Nat×List UInt8),Qhv l y.1 y.2.2/\LN l-y.1<LN l-x_1.1/\(IntKind.wrap IntKind.i64 ((NI x_1.1)+Z1)=(NI y.1)/\(Qba x_1.2.2 l x_1.1=LN y.2.2/\(∀(i:Nat),i<Qba x_1.2.2 l x_1.1->BM (LN x_1.2.2) (fun i=>Zw x_1.2.2 i) (fun i=>[ZB (BI (Gh (GI l (TN x_1.1)) (34:Int)) i)]) i=Zw y.2.2 i)/\t=y.2.1)/\True)/\QqV x k n1 f1 l n2 f2 t y.2.1))) (SM x_1.2.1/\Bc ((LN x_1.2.2+N1)*N1<=140737488355328/\LN x_1.2.2+N1<=9223372036854775807) (∀(t:Nat),True/\chk (true&&Ix (LN x_1.2.2+N1) (BM (LN x_1.2.2) (fun i=>Zw x_1.2.2 i) fun i=>List.getD [[ZB (34:Int)]] i [])) (RT (bytesOf (LN x_1.2.2+N1) (BM (LN x_1.2.2) (fun i=>Zw x_1.2.2 i) fun i=>List.getD [[ZB (34:Int)]] i [])=IF (34:Int) l))))) (by kernel_rfl) ?_
 delta BI GI LI LN N0 N1 N4 NI SI SM TN U0 Z0 Z1 ZB ZI Qhv Zw QqV Qba RT
 simp only[Bf,Bd,decide_eq_true_eq,true_and,and_true,exists_const,forall_const,Int.toNat_natCast,eq_self,implies_true]
 have hr:∀i,i<1->([[D.int .u8 34]]:List (List D)).getD i []=[D.int .u8 (([34]:List UInt8).getD i 0).toNat]:=fun i hi=>by
  have:i=0:=by omega
  subst this;rfl
 intro t
 refine⟨⟨(0,t,[34]),QHd.init _ _ _,⟨rfl,rfl,hr,rfl⟩,rfl⟩,?_⟩
 rintro ⟨i,t1,out⟩ hh
 simp only at hh ⊢
 have h1:=hh.len
 have h0:([34]:List UInt8).length=1:=rfl
 refine⟨fun hlt=>?_,fun hge=>?_⟩
 ·have hlt':i<l.length:=by omega
  have h3:=To (l.getD i 0) 34
  refine⟨by omega,hc _ (BcM hlt'),by omega,fun t2=>⟨(i+1,t2,_),hh.step hlt',by omega,⟨Ba (by omega) (by omega),by rw[List.length_append],?_,rfl⟩,rfl⟩⟩
  exact IZ rfl (fun _ _=>rfl) (fun _ _=>rfl)
 ·have hge':¬i<l.length:=by simpa using hge
  have hd:=hh.done hge'
  have ha:=Mr (l:=out) (b:=34) (z:=34) rfl (fun _ _=>rfl) rfl
  refine⟨by omega,?_⟩
  rw[Bb,Bool.true_and]
  refine⟨Bkj (l:=out++[34]) (by simp) ha,?_⟩
  rw[Be1 (l:=out++[34]) (by simp) ha,hd];rfl
def ssl(l:List (List UInt8))(m:Ab.Mode):D:=.sl 1 l.length (fun i=>[.str (l.getD i [])]) m
theorem Bme(l : List (List UInt8))(sep : List UInt8)(hl : l.length<=140737488355328)(hj : (Lib.join l sep).length<=140737488355328) :
  ACalls Tryz.prog 104 [ssl l .any,.str sep] ⟨[],[]⟩ (SpecR (sC [ssl l .any,.str sep] (.str (Lib.join l sep))) ()):=by
 refine⟨⟨_,Tryz.func104,by kernel_rfl,by kernel_rfl⟩,fun C F args w ha hs=>?_⟩
 obtain ⟨u,v,e,hu,hv⟩:=IJ ha
 have e2:args=[u,v].toArray:=by rw[<- e]
 subst e2
 simp only[Rep] at hv;subst hv
 simp only[ssl,Rep] at hu
 obtain ⟨a,len,cap,rfl,hh,hr⟩:=hu
 have hlen:len=l.length:=hh.1
 subst hlen
 have hF:Sat C F w:=by simpa[St.add] using hs
 have fin:∀w' e,e=Ending.returned (.string ⟨(Lib.join l sep).toArray⟩)->Go.RowKit.Below w.heap.size w w'->∃C' r S',C.le C'/\Sat C' (S'.add F) w'/\RepEnd C' r e/\SpecR (sC [ssl l .any,.str sep] (.str (Lib.join l sep))) () r S':=fun w' e he h =>
  ⟨C,.ret (.str (Lib.join l sep)),⟨[],[]⟩,.refl C,by simpa[St.add] using hF.kept h,by subst he;simp[RepEnd,Rep],(),trivial,rfl,rfl⟩
 by_cases h0:l=[]
 ·subst h0
  refine (Tryz.strings_Join_none a cap _ w).mono fun e w' ⟨he,hw⟩=>fin w' e he ?_
  subst hw;exact Go.RowKit.Below.refl _ _
 ·have hpos:0<l.length:=List.length_pos_iff.2 h0
  have ha:∃x,a=some x:=by
   cases a with
   |none=>have:=hh.2.2.2.1 rfl;omega
   |some x=>exact⟨x,rfl⟩
  obtain ⟨⟨bk,o,sp⟩,rfl⟩:=ha
  have hsp:sp=none:=hh.2.2.2.2.1 _ rfl (by have:=hh.2.1;omega)
  subst hsp
  have hcell:∀i x,l[i]? =some x->w.cell? ⟨bk,o+i,none⟩=some (.string ⟨x.toArray⟩):=by
   intro i x hx
   have hi:i<l.length:=(List.getElem?_eq_some_iff.1 hx).1
   have hrow:=(hr _ rfl i hi).2
   simp only[RepCells] at hrow
   obtain ⟨⟨v,i1,i2⟩,_⟩:=hrow
   simp only[Rep] at i2
   subst i2
   have:=hs.imm _ _ _ i1
   have e:l.getD i []=x:=by rw[List.getD_eq_getElem?_getD,hx];rfl
   rw[e] at this
   simpa using this
  have hsz:bk<w.heap.size:=by
   have:=hcell 0 (l.getD 0 []) (by rw[List.getD_eq_getElem?_getD,List.getElem?_eq_getElem hpos];rfl)
   unfold World.cell? at this
   by_cases hb:bk<w.heap.size
   ·exact hb
   ·rw[Array.getElem?_eq_none (Nat.le_of_not_lt hb)] at this
    cases this
  have hm:(l.map fun s=>(⟨s.toArray⟩:ByteArray)).map (·.data.toList)=l:=by simp[Function.comp_def]
  have key:=Tryz.strings_Join bk o cap (l.map fun s=>(⟨s.toArray⟩:ByteArray)) ⟨sep.toArray⟩ w (fun i x hx=>by
   rw[List.getElem?_map,Option.map_eq_some_iff] at hx
   obtain ⟨y,h1,h2⟩:=hx
   subst h2
   exact hcell i y h1) hsz (by simpa using hl) (by simpa using hh.2.1) (by rw[hm];exact hj)
  rw[hm,List.length_map] at key
  exact key.mono fun e w' ⟨he,hb⟩=>fin w' e he hb
def Bed:List D->List UInt8
 | [.str s]=>s
 |_=>[]
def Bi2:List D->Bool
 | [.str _]=>true
 |_=>false
def B5(n:Nat)(f:Nat->List D):List (List UInt8):=(List.range n).map fun i=>Bed (f i)
def Gx(n:Nat)(f:Nat->List D):Bool:=(List.range n).all fun i=>Bi2 (f i)
theorem WS{n:Nat}{f:Nat->List D}{m:Ab.Mode}(h:Gx n f=true):Bn (.sl 1 n f m) (ssl (B5 n f) .any):=by
 simp only[ssl,Bn,Bb]
 refine⟨by simp,by simp[B5],fun i hi=>?_,by cases m<;>simp[BG]⟩
 have hb:Bi2 (f i)=true:=List.all_eq_true.1 h i (List.mem_range.2 hi)
 have hg:(B5 n f).getD i []=Bed (f i):=by simp[B5,List.getD_eq_getElem?_getD,hi]
 rw[hg]
 unfold Bi2 at hb
 split at hb
 ·rename_i s hd;rw[hd];rfl
 ·cases hb
theorem MS{n:Nat}{l:List (List UInt8)}{F:Nat->List D}(hn:n=l.length)(hF:∀i,i<n->F i=[D.str (l.getD i [])]):B5 n F=l:=by
 subst hn
 apply List.ext_getElem
 ·simp[B5]
 ·intro i h1 h2
  simp only[B5,List.getElem_map,List.getElem_range,hF i h2,Bed,List.getD_eq_getElem?_getD,List.getElem?_eq_getElem h2,Option.getD_some]
theorem OM{n:Nat}{l:List (List UInt8)}{F:Nat->List D}(hn:n=l.length)(hF:∀i,i<n->F i=[D.str (l.getD i [])]):Gx n F=true:=by
 subst hn
 simp only[Gx,List.all_eq_true,List.mem_range]
 intro i hi
 rw[hF i hi];rfl
def GJ(l:List (List UInt8))(sep:List UInt8):Prop:=l.length<=140737488355328/\(Lib.join l sep).length<=140737488355328
def O4:Con:=fun k ds S=>match k with
 |104=>match ds with
  | [.sl 1 n f m,.str sep]=>some (pC [.sl 1 n f m,.str sep] (.str (Lib.join (B5 n f) sep)) (Gx n f=true/\GJ (B5 n f) sep))
  |_=>none
 |136=>match ds with
  | [.int .i32 q,.sl 1 n f m]=>some (pC [.int .i32 q,.sl 1 n f m] (.str (IF q (Bj n f))) (n<=1099511627776/\IntsP n f/\∀c∈Bj n f,0<=c/\c<=1114111))
  |_=>none
 |k=>BgK k ds S
theorem Ih:ConOk Tryz.prog O4:=by
 intro k ds S A h
 unfold O4 at h
 split at h
 ·split at h
  ·injection h with h;subst h
   exact BZ fun ⟨h1,h2⟩=>⟨Bk _,Ca (us:=[ssl (B5 _ _) .any,_]) ⟨WS h1,Bp _,trivial⟩ (Bme _ _ h2.1 h2.2)⟩
  ·cases h
 ·split at h
  ·injection h with h;subst h
   exact BZ fun ⟨h1,h2,h3⟩=>⟨Bk _,Ca (us:=[_,isl (Bj _ _) .any]) ⟨Bp _,(CB h2).1,trivial⟩ (BoQ _ _ (by rw[BJ];exact h1) h3)⟩
  ·cases h
 ·exact Bdq _ _ _ _ h
theorem Bb1{t s:List UInt8}{x:Nat}(h:x<t.length):CW (t.drop x) s=((t.getD x 0==32&&decide (s.length<(t.drop (x+1)).length)&&(t.drop (x+1)).take s.length==s&&(t.drop (x+1)).getD s.length 0==32)||CW (t.drop (x+1)) s):=by
 rw[List.drop_eq_getElem_cons h,CW]
 simp only[List.getD_eq_getElem?_getD,List.getElem?_eq_getElem h,Option.getD_some]
theorem O6{s:List UInt8}:∀ {r:List UInt8},r.length<s.length+2->CW r s=false
 | [],_=>rfl
 |b::r,h=>by
  have h1:¬s.length<r.length:=by simp only[List.length_cons] at h;omega
  rw[CW,decide_eq_false h1,O6 (r:=r) (by simp only[List.length_cons] at h;omega)]
  simp
noncomputable def Eam(t s:List UInt8):Senv:={ EC Eu 57 2 [4,5,6,9,13,19,27,56] (fun _=>([],[])) with
 ann:=fun b _ S=>match b with
  |0=>some { slots:=[5],keep:=[0,1],α:=Nat,st:=fun y=>([.int .i64 y],S),inv:=fun y=>y<=s.length/\(s.take y).all (fun b=>b != 32)=true,mu:=fun y=>s.length-y }
  |2=>some { slots:=[6],keep:=[0,1],α:=Nat,st:=fun y=>([.int .i64 y],S),inv:=fun y=>y<=t.length/\CW (t.drop y) s=CW t s,mu:=fun y=>t.length-y }
  |_=>none }
def Qhw(a b:List UInt8):Prop:=True/\∃(_y:Unit),True/\false=EI a b/\True/\True
def Qhx(a:Nat)(c:List UInt8):Prop:=a<=LN c/\(List.all (List.take a c) fun (b:UInt8)=>b != (32:UInt8))=true
def Qhy(a:List UInt8)(b:Nat):Bool:=(BI a (Int.toNat (↑b:Int)))==32
def Zx(a:Nat):Int:=IntKind.wrap IntKind.i64 ((↑a:Int)+Z1)
def QqW(a:List UInt8)(b c:Nat):Prop:=LN a-b<LN a-c/\(Zx c=(↑b:Int)/\True)/\True/\True
def Qhz(a:Nat)(b c:List UInt8):Prop:=a<=LN b/\CW (List.drop a b) c=CW b c
def Zy(a:Nat)(b:List UInt8):Int:=IntKind.wrap IntKind.i64 (Zx a+(LI b))
def QqX(a:Nat)(b:List UInt8):Nat:=Int.toNat (Zy a b)
def QqY(a:Nat)(b c:List UInt8):Bool:=List.drop (Int.toNat (Zx a)) (List.take (QqX a b) c)==b
def QqZ(a:List UInt8)(b:Nat)(c:List UInt8):Bool:=(BI a (QqX b c))==32
def QhA(a:List UInt8)(b:Nat)(c:List UInt8):Bool:=bif bif Qhy a b then QqY b c a else false then QqZ a b c else false
def Qq0(a:List UInt8)(b:Nat)(c:List UInt8):Prop:=false=QhA a b c/\True
theorem BpN(t s:List UInt8)(ht:t.length<=BC)(hs:s.length<=BC):ACalls Tryz.prog 113 [.str t,.str s] ⟨[],[]⟩ (SpecR (sC [.str t,.str s] (.bool (EI t s))) ()):=by
 refine Bg (A:=sC _ _) (x:=()) (E:=Eam t s) (eOk BL rfl) Tryz.func113 rfl (by kernel_rfl) rfl (by simp[sC,Eam,EC,E0]) ?_
 refine Bi (T :=
  ifB ((LI s)==Z0) (Qhw t s) ((∃(x:Nat),Qhx x s/\(Z0=(↑x:Int)/\True)/\True/\True)/\∀(x:Nat),Qhx x s->ifB (decide ((↑x:Int)<(LI s))) (Bc (Z0<=(↑x:Int)/\(↑x:Int)<(LI s)) (ifB (Qhy s x) (Qhw t s) ((SM (D.str t)/\SM (D.str s)/\True)/\∃(y:Nat),Qhx y s/\QqW s y x))) ((∃(x:Nat),Qhz x t s/\(Z0=(↑x:Int)/\True)/\True/\True)/\∀(x:Nat),Qhz x t s->ifB (decide (IntKind.wrap IntKind.i64 (IntKind.wrap IntKind.i64 ((↑x:Int)+(LI s))+2)<=(LI t))) (Bc (Z0<=(↑x:Int)/\(↑x:Int)<(LI t)) (ifB (Qhy t x) (Bc (Z0<=Zx x/\Zx x<=Zy x s/\Zy x s<=(LI t)) (ifB (QqY x s t) (Bc (Z0<=Zy x s/\Zy x s<(LI t)) (QqZ t x s=QhA t x s/\True)) (Qq0 t x s))) (Qq0 t x s))/\ifB (QhA t x s) (RT (true=EI t s)) ((SM (D.str t)/\SM (D.str s)/\True)/\∃(y:Nat),Qhz y t s/\QqW t y x)) (Qhw t s)))) (by kernel_rfl) ?_
 delta BI LI LN SM U0 Z0 Z1 Qhw Qhx QhA Qq0 Qhy Zx QqW Qhz Zy QqX QqY QqZ RT
 simp only[eq_self,ne_eq,Int.toNat_natCast,Bf,Bd,decide_eq_true_eq,decide_eq_false_iff_not,true_and,and_true,beq_iff_eq,Bool.cond_false_right,Bool.and_eq_true,Bool.and_eq_false_iff,beq_eq_false_iff_ne,exists_const]
 unfold BC at ht hs
 have b32:∀b:UInt8,((b.toNat:Int)=32)↔b=32:=fun b=>⟨fun h=>by
  apply UInt8.toNat_inj.1
  show b.toNat=32
  omega,fun h=>by subst h;rfl⟩
 have tk:∀x:Nat,x<s.length->s.take (x+1)=s.take x++[s.getD x 0]:=fun x hx=>by
  rw[List.take_add_one,List.getElem?_eq_getElem hx,List.getD_eq_getElem?_getD,List.getElem?_eq_getElem hx];rfl
 refine⟨fun h=>?_,fun h0=>⟨⟨0,⟨Nat.zero_le _,rfl⟩,rfl⟩,fun x ⟨h1,h2⟩=>⟨fun h=>⟨⟨by omega,h⟩,fun e=>?_,fun e=>⟨x+1,⟨by omega,?_⟩,by omega,by rw[Ba (by omega) (by omega)];rfl⟩⟩,fun h=>?_⟩⟩⟩
 ·have:s=[]:=List.length_eq_zero_iff.1 (by omega)
  subst this;rfl
 ·have hx:x<s.length:=by omega
  have hm:s.getD x 0∈s:=by rw[List.getD_eq_getElem?_getD,List.getElem?_eq_getElem hx];exact List.getElem_mem hx
  have:(s.all fun b=>b != 32)=false:=by
   rw[List.all_eq_false]
   exact⟨_,hm,by rw[(b32 _).1 e];simp⟩
  unfold EI
  rw[this];simp
 ·rw[tk x (by omega),List.all_append,h2]
  have:s.getD x 0≠32:=fun he=>e ((b32 _).2 he)
  simpa using this
 ·have hall:(s.all fun b=>b != 32)=true:=by
   have:x=s.length:=by omega
   rw[this,List.take_length] at h2
   exact h2
  have hne:s.isEmpty=false:=by
   cases s with
   |nil=>exact (h0 rfl).elim
   |cons=>rfl
  have hA:EI t s=CW t s:=by unfold EI;rw[hall,hne];rfl
  rw[hA]
  refine⟨⟨0,⟨Nat.zero_le _,by rw[List.drop_zero]⟩,rfl⟩,fun y ⟨y1,y2⟩=>?_⟩
  have w1:IntKind.i64.wrap ((y:Int)+1)=((y+1:Nat):Int):=by rw[Ba (by omega) (by omega)];rfl
  have w2:IntKind.i64.wrap (((y+1:Nat):Int)+(s.length:Int))=((y+1+s.length:Nat):Int):=by rw[Ba (by omega) (by omega)];omega
  have w3:IntKind.i64.wrap (IntKind.i64.wrap ((y:Int)+(s.length:Int))+2)=((y+s.length+2:Nat):Int):=by rw[Ba (n:=(y:Int)+s.length) (by omega) (by omega),Ba (by omega) (by omega)];omega
  rw[w1,w2,w3]
  simp only[Int.toNat_natCast,b32]
  have hdt:List.drop (y+1) (List.take (y+1+s.length) t)=(t.drop (y+1)).take s.length:=by
   rw[List.drop_take];congr 1;omega
  have hgd:t.getD (y+1+s.length) 0=(t.drop (y+1)).getD s.length 0:=by simp[List.getD_eq_getElem?_getD]
  rw[hdt,hgd]
  have bi:∀b:UInt8,(((b.toNat:Int))==32)=(b==32):=fun b=>by
   by_cases hb:b=32
   ·rw[hb];rfl
   ·have h1:(b==32)=false:=by simpa using hb
    have h2:(((b.toNat:Int))==32)=false:=by
     have:=fun h=>hb ((b32 b).1 h)
     simpa using this
    rw[h1,h2]
  simp only[bi]
  refine⟨fun hle=>?_,fun hgt=>?_⟩
  ·have hy:y<t.length:=by omega
   have hstep:=Bb1 (s:=s) hy
   rw[y2] at hstep
   have hlt:decide (s.length<(t.drop (y+1)).length)=true:=by rw[List.length_drop];simp;omega
   rw[hlt,Bool.and_true] at hstep
   refine⟨⟨⟨by omega,by omega⟩,fun e1=>⟨⟨by omega,by omega,by omega⟩,fun e2=>⟨⟨by omega,by omega⟩,?_⟩,fun e2=>?_⟩,fun e1=>?_⟩,fun ⟨⟨e1,e2⟩,e3⟩=>?_,fun hno=>⟨y+1,⟨by omega,?_⟩,by omega,rfl⟩⟩
   ·rw[e1,e2];simp
   ·have:((t.drop (y+1)).take s.length==s)=false:=by simpa using e2
    rw[this];simp
   ·have:(t.getD y 0==32)=false:=by simpa using e1
    rw[this];simp
   ·rw[hstep,e1,e2,e3];simp
   ·have:(t.getD y 0==32&&(t.drop (y+1)).take s.length==s&&(t.drop (y+1)).getD s.length 0==32)=false:=by
     rw[Bool.and_eq_false_iff,Bool.and_eq_false_iff]
     rcases hno with (h | h) | h
     ·exact .inl (.inl (by simpa using h))
     ·exact .inl (.inr (by simpa using h))
     ·exact .inr (by simpa using h)
    rw[this,Bool.false_or] at hstep
    exact hstep.symm
  ·rw[<- y2]
   exact (O6 (by rw[List.length_drop];omega)).symm
def BiB:Con:=fun k ds _=>match k with
 |113=>match ds with
  | [.str t,.str s]=>some (pC [.str t,.str s] (.bool (EI t s)) (t.length<=BC/\s.length<=BC))
  |_=>none
 |_=>none
theorem Bkv:ConOk Tryz.prog BiB:=by
 intro k ds S A h
 unfold BiB at h
 split at h
 ·split at h
  ·injection h with h;subst h
   exact BZ fun ⟨h1,h2⟩=>⟨Bk _,BpN _ _ h1 h2⟩
  ·cases h
 ·cases h
noncomputable def Erres:Senv:={ EC BiB 9 1 [2] (fun _=>([],[])) with mg:=fun _=>2 }
theorem Bmn(s:List UInt8)(hs:s.length<=BC):ACalls Tryz.prog 91 [.str s] ⟨[],[]⟩ (SpecR (sC [.str s] (.bool (Rw s))) ()):=by
 refine Bg (A:=sC _ _) (x:=()) (E:=Erres) (eOk Bkv rfl) Tryz.func91 rfl (by kernel_rfl) rfl (by simp[sC,Erres,EC,E0]) ?_
 refine Bi (T :=
  ((298:Nat)<=8589934592/\LN s<=8589934592)/\∀(y:Unit),True->ifB (EI [(32:UInt8),(88:UInt8),(32:UInt8),(89:UInt8),(32:UInt8),(70:UInt8),(32:UInt8),(71:UInt8),(32:UInt8),(115:UInt8),(101:UInt8),(108:UInt8),(102:UInt8),(32:UInt8),(97:UInt8),(114:UInt8),(103:UInt8),(32:UInt8),(109:UInt8),(105:UInt8),(110:UInt8),(32:UInt8),(109:UInt8),(97:UInt8),(120:UInt8),(32:UInt8),(97:UInt8),(110:UInt8),(100:UInt8),(32:UInt8),(111:UInt8),(114:UInt8),(32:UInt8),(110:UInt8),(111:UInt8),(116:UInt8),(32:UInt8),(115:UInt8),(104:UInt8),(97:UInt8),(112:UInt8),(101:UInt8),(32:UInt8),(114:UInt8),(101:UInt8),(115:UInt8),(104:UInt8),(97:UInt8),(112:UInt8),(101:UInt8),(32:UInt8),(116:UInt8),(97:UInt8),(108:UInt8),(108:UInt8),(121:UInt8),(32:UInt8),(100:UInt8),(101:UInt8),(112:UInt8),(116:UInt8),(104:UInt8),(32:UInt8),(115:UInt8),(116:UInt8),(97:UInt8),(99:UInt8),(107:UInt8),(32:UInt8),(105:UInt8),(111:UInt8),(116:UInt8),(97:UInt8),(32:UInt8),(116:UInt8),(97:UInt8),(107:UInt8),(101:UInt8),(32:UInt8),(100:UInt8),(114:UInt8),(111:UInt8),(112:UInt8),(32:UInt8),(102:UInt8),(105:UInt8),(114:UInt8),(115:UInt8),(116:UInt8),(32:UInt8),(114:UInt8),(101:UInt8),(118:UInt8),(101:UInt8),(114:UInt8),(115:UInt8),(101:UInt8),(32:UInt8),(114:UInt8),(111:UInt8),(116:UInt8),(97:UInt8),(116:UInt8),(101:UInt8),(32:UInt8),(116:UInt8),(114:UInt8),(97:UInt8),(110:UInt8),(115:UInt8),(112:UInt8),(111:UInt8),(115:UInt8),(101:UInt8),(32:UInt8),(102:UInt8),(114:UInt8),(111:UInt8),(109:UInt8),(32:UInt8),(112:UInt8),(105:UInt8),(99:UInt8),(107:UInt8),(32:UInt8),(115:UInt8),(101:UInt8),(108:UInt8),(101:UInt8),(99:UInt8),(116:UInt8),(32:UInt8),(97:UInt8),(109:UInt8),(101:UInt8),(110:UInt8),(100:UInt8),(32:UInt8),(117:UInt8),(112:UInt8),(32:UInt8),(100:UInt8),(111:UInt8),(119:UInt8),(110:UInt8),(32:UInt8),(115:UInt8),(111:UInt8),(114:UInt8),(116:UInt8),(32:UInt8),(102:UInt8),(105:UInt8),(110:UInt8),(100:UInt8),(32:UInt8),(105:UInt8),(110:UInt8),(32:UInt8),(117:UInt8),(110:UInt8),(105:UInt8),(113:UInt8),(117:UInt8),(101:UInt8),(32:UInt8),(119:UInt8),(104:UInt8),(101:UInt8),(114:UInt8),(101:UInt8),(32:UInt8),(99:UInt8),(111:UInt8),(112:UInt8),(121:UInt8),(32:UInt8),(101:UInt8),(120:UInt8),(112:UInt8),(97:UInt8),(110:UInt8),(100:UInt8),(32:UInt8),(99:UInt8),(117:UInt8),(116:UInt8),(32:UInt8),(101:UInt8),(110:UInt8),(99:UInt8),(111:UInt8),(100:UInt8),(101:UInt8),(32:UInt8),(100:UInt8),(101:UInt8),(99:UInt8),(111:UInt8),(100:UInt8),(101:UInt8),(32:UInt8),(98:UInt8),(111:UInt8),(120:UInt8),(32:UInt8),(111:UInt8),(112:UInt8),(101:UInt8),(110:UInt8),(32:UInt8),(115:UInt8),(97:UInt8),(109:UInt8),(101:UInt8),(32:UInt8),(107:UInt8),(105:UInt8),(110:UInt8),(100:UInt8),(32:UInt8),(111:UInt8),(114:UInt8),(100:UInt8),(32:UInt8),(99:UInt8),(104:UInt8),(114:UInt8),(32:UInt8),(102:UInt8),(111:UInt8),(114:UInt8),(109:UInt8),(97:UInt8),(116:UInt8),(32:UInt8),(108:UInt8),(101:UInt8),(102:UInt8),(116:UInt8),(32:UInt8),(114:UInt8),(105:UInt8),(103:UInt8),(104:UInt8),(116:UInt8),(32:UInt8),(101:UInt8),(97:UInt8),(99:UInt8),(104:UInt8),(32:UInt8),(115:UInt8),(119:UInt8),(97:UInt8),(112:UInt8),(32:UInt8),(111:UInt8),(117:UInt8),(116:UInt8),(101:UInt8),(114:UInt8),(32:UInt8),(105:UInt8),(110:UInt8),(110:UInt8),(101:UInt8),(114:UInt8),(32:UInt8),(114:UInt8),(97:UInt8),(110:UInt8),(107:UInt8),(32:UInt8),(112:UInt8),(111:UInt8),(119:UInt8),(101:UInt8),(114:UInt8),(32:UInt8),(115:UInt8),(116:UInt8),(101:UInt8),(110:UInt8),(99:UInt8),(105:UInt8),(108:UInt8),(32:UInt8),(97:UInt8),(116:UInt8),(111:UInt8),(112:UInt8),(32:UInt8),(111:UInt8),(118:UInt8),(101:UInt8),(114:UInt8),(32:UInt8)] s) (RT (true=Rw s)) (((34:Nat)<=8589934592/\LN s<=8589934592)/\∀(y:Unit),True->RT (EI [(32:UInt8),(43:UInt8),(32:UInt8),(45:UInt8),(32:UInt8),(42:UInt8),(32:UInt8),(37:UInt8),(32:UInt8),(124:UInt8),(32:UInt8),(94:UInt8),(32:UInt8),(60:UInt8),(32:UInt8),(60:UInt8),(61:UInt8),(32:UInt8),(61:UInt8),(32:UInt8),(126:UInt8),(61:UInt8),(32:UInt8),(62:UInt8),(61:UInt8),(32:UInt8),(62:UInt8),(32:UInt8),(44:UInt8),(32:UInt8),(47:UInt8),(32:UInt8),(92:UInt8),(32:UInt8)] s=Rw s))) (by kernel_rfl) ?_
 delta LN RT
 simp only[Bf,true_and,and_true,exists_const,forall_const]
 generalize hA:EI _ s=a
 generalize hB:EI _ s=b
 have ea:a=resL.contains s:=by
  rw[<- hA,<- Bcr s]
  congr 1
 have eb:b=sgnL.contains s:=by
  rw[<- hB,<- Bdt s]
  congr 1
 subst ea eb
 unfold BC at hs
 refine⟨⟨by decide,hs⟩,fun h=>?_,fun h=>⟨⟨by decide,hs⟩,?_⟩⟩
 ·unfold Rw;rw[h];rfl
 ·unfold Rw;rw[h];rfl
def ownL : List (List UInt8) := ["X", "Y", "F", "G", "self", "arg"].map asc ++ (primL.drop 1 ++ opL.drop 1)
theorem BmQ(s:List UInt8):Rw s=ownL.contains s:=by
 have h1:∀x∈resL++sgnL,ownL.contains x=true:=by decide +kernel
 have h2:∀x∈ownL,(resL++sgnL).contains x=true:=by decide +kernel
 unfold Rw
 rw[<- List.contains_append]
 cases h:(resL++sgnL).contains s with
 |true=>exact (h1 s (by simpa using h)).symm
 |false =>
  cases h':ownL.contains s with
  |true=>rw[h2 s (by simpa using h')] at h;cases h
  |false=>rfl
theorem Bho(s:List UInt8):s∈primL.drop 1↔∃q:Nat,1<=q/\q<56/\Cf q=s:=by
 have e:∀q,1<=q->q<56->Cf ((q:Nat):Int)=(primL.drop 1).getD (q-1) []:=fun q h1 h2=>by
  unfold Cf
  rw[if_neg (by omega),Int.toNat_natCast]
  simp[List.getD_eq_getElem?_getD,show q-1+1=q by omega]
 have hl:(primL.drop 1).length=55:=by decide +kernel
 constructor
 ·intro h
  obtain ⟨i,hi,rfl⟩:=List.getElem_of_mem h
  exact⟨i+1,by omega,by omega,by rw[e _ (by omega) (by omega)];simp only[Nat.add_sub_cancel];simp only[List.getD_eq_getElem?_getD,List.getElem?_eq_getElem hi,Option.getD_some]⟩
 ·rintro ⟨q,h1,h2,rfl⟩
  rw[e q h1 h2]
  have:q-1<(primL.drop 1).length:=by omega
  rw[List.getD_eq_getElem?_getD,List.getElem?_eq_getElem this]
  exact List.getElem_mem this
theorem BmY(s:List UInt8):s∈opL.drop 1↔∃q:Nat,1<=q/\q<12/\opT q=s:=by
 have e:∀q,1<=q->q<12->opT ((q:Nat):Int)=(opL.drop 1).getD (q-1) []:=fun q h1 h2=>by
  unfold opT
  rw[if_neg (by omega),Int.toNat_natCast]
  simp[List.getD_eq_getElem?_getD,show q-1+1=q by omega]
 have hl:(opL.drop 1).length=11:=by decide +kernel
 constructor
 ·intro h
  obtain ⟨i,hi,rfl⟩:=List.getElem_of_mem h
  exact⟨i+1,by omega,by omega,by rw[e _ (by omega) (by omega)];simp only[Nat.add_sub_cancel];simp only[List.getD_eq_getElem?_getD,List.getElem?_eq_getElem hi,Option.getD_some]⟩
 ·rintro ⟨q,h1,h2,rfl⟩
  rw[e q h1 h2]
  have:q-1<(opL.drop 1).length:=by omega
  rw[List.getD_eq_getElem?_getD,List.getElem?_eq_getElem this]
  exact List.getElem_mem this
theorem BcG(s : List UInt8)(h32 : s.length ≤ 32)(hp : TH s = true) : Ce s = true ↔ (s ≠ asc "self" ∧ s ≠ asc "arg" ∧ (∀ q : Nat, 1 ≤ q → q < 56 → Cf q ≠ s) ∧ ∀ q : Nat, 1 ≤ q → q < 12 → opT q ≠ s) := by
 have hx : ∀ x ∈ ["X", "Y", "F", "G"].map asc, TH x = false := by decide +kernel
 unfold Ce
 rw[hp,decide_eq_true h32,BmQ]
 have hs : s ∈ ownL ↔ (s = asc "self" ∨ s = asc "arg" ∨ s ∈ primL.drop 1 ∨ s ∈ opL.drop 1) := by
  unfold ownL
  rw[List.mem_append,List.mem_append]
  constructor
  ·rintro (h | h)
   ·simp only[List.map_cons,List.map_nil,List.mem_cons,List.not_mem_nil,or_false] at h
    rcases h with h | h | h | h | h | h
    ·rw[hx s (by rw[h];simp)] at hp;cases hp
    ·rw[hx s (by rw[h];simp)] at hp;cases hp
    ·rw[hx s (by rw[h];simp)] at hp;cases hp
    ·rw[hx s (by rw[h];simp)] at hp;cases hp
    ·exact .inl h
    ·exact .inr (.inl h)
   ·exact .inr (.inr h)
  ·rintro (h | h | h)
   ·rw[h];exact .inl (by simp)
   ·rw[h];exact .inl (by simp)
   ·exact .inr h
 rw[Bho,BmY] at hs
 simp only[Bool.true_and,Bool.not_eq_true',List.contains_eq_mem,decide_eq_false_iff_not]
 rw[hs]
 constructor
 ·intro h
  exact⟨fun e=>h (.inl e),fun e=>h (.inr (.inl e)),fun q h1 h2 e=>h (.inr (.inr (.inl ⟨q,h1,h2,e⟩))),fun q h1 h2 e=>h (.inr (.inr (.inr ⟨q,h1,h2,e⟩)))⟩
 ·rintro ⟨h1,h2,h3,h4⟩ (h | h | ⟨q,q1,q2,q3⟩ | ⟨q,q1,q2,q3⟩)
  ·exact h1 h
  ·exact h2 h
  ·exact h3 q q1 q2 q3
  ·exact h4 q q1 q2 q3
def BfA:Con:=fun k ds _=>match k with
 |77=>match ds with
  | [.int .i64 p]=>some (pC [.int .i64 p] (.str (Cf p)) True)
  |_=>none
 |78=>match ds with
  | [.int .i64 p]=>some (pC [.int .i64 p] (.str (opT p)) True)
  |_=>none
 |91=>match ds with
  | [.str s]=>some (pC [.str s] (.bool (Rw s)) (s.length<=BC))
  |_=>none
 |_=>none
theorem Bcy:ConOk Tryz.prog BfA:=by
 intro k ds S A h
 unfold BfA at h
 split at h
 ·split at h
  ·injection h with h;subst h
   exact BZ fun _=>⟨Bk _,Bl6 _⟩
  ·cases h
 ·split at h
  ·injection h with h;subst h
   exact BZ fun _=>⟨Bk _,BkC _⟩
  ·cases h
 ·split at h
  ·injection h with h;subst h
   exact BZ fun h1=>⟨Bk _,Bmn _ h1⟩
  ·cases h
 ·cases h
def M8(b:UInt8):Bool:=low b||dig b
theorem Wv(b:UInt8):M8 b=true↔((97<=b.toNat/\b.toNat<=122)\/(48<=b.toNat/\b.toNat<=57)):=by
 unfold M8 low dig
 simp only[Bool.or_eq_true,Bool.and_eq_true,decide_eq_true_eq]
theorem Ow(s:List UInt8):TH s=true↔s≠[]/\low (s.getD 0 0)=true/\s.all M8=true:=by
 unfold TH
 simp only[Bool.and_eq_true,Bool.not_eq_true',List.isEmpty_eq_false_iff,and_assoc]
 exact Iff.rfl
theorem Bms{s:List UInt8}(h:s.all M8=true){i:Nat}(hi:i<s.length):M8 (s.getD i 0)=true:=by
 rw[List.getD_eq_getElem?_getD,List.getElem?_eq_getElem hi]
 exact List.all_eq_true.1 h _ (List.getElem_mem hi)
theorem BdJ{s:List UInt8}{x:Nat}(hx:x<s.length)(h1:(s.take x).all M8=true)(h2:M8 (s.getD x 0)=true):(s.take (x+1)).all M8=true:=by
 have e:s.take (x+1)=s.take x++[s.getD x 0]:=by
  rw[List.take_add_one,List.getElem?_eq_getElem hx,List.getD_eq_getElem?_getD,List.getElem?_eq_getElem hx];rfl
 rw[e,List.all_append,h1,List.all_cons,h2];rfl
theorem BO{s:List UInt8}(h:Ce s=true):s≠[]/\s.length<=32/\s≠[115,101,108,102]/\s≠[97,114,103]/\(97<=(s.getD 0 0).toNat/\(s.getD 0 0).toNat<=122)/\(∀i,i<s.length->((97<=(s.getD i 0).toNat/\(s.getD i 0).toNat<=122)\/(48<=(s.getD i 0).toNat/\(s.getD i 0).toNat<=57)))/\(∀q:Nat,1<=q->q<56->Cf q≠s)/\∀q:Nat,1<=q->q<12->opT q≠s:=by
 have h0:=h
 unfold Ce at h
 simp only[Bool.and_eq_true,decide_eq_true_eq] at h
 obtain ⟨⟨hp,h32⟩,_⟩:=h
 obtain ⟨h1,h2,h3,h4⟩:=(BcG s h32 hp).1 h0
 obtain ⟨p1,p2,p3⟩:=(Ow s).1 hp
 have e1 : asc "self" = [115, 101, 108, 102] := by decide +kernel
 have e2 : asc "arg" = [97, 114, 103] := by decide +kernel
 rw[e1] at h1
 rw[e2] at h2
 unfold low at p2
 simp only[Bool.and_eq_true,decide_eq_true_eq] at p2
 exact⟨p1,h32,h1,h2,p2,fun i hi=>(Wv _).1 (Bms p3 hi),h3,h4⟩
theorem Bkb{s:List UInt8}(h1:s≠[])(h2:s.length<=32)(h3:s≠[115,101,108,102])(h4:s≠[97,114,103])(h5:97<=(s.getD 0 0).toNat/\(s.getD 0 0).toNat<=122)(h6:s.all M8=true)(h7:∀q:Nat,1<=q->q<56->Cf q≠s)(h8:∀q:Nat,1<=q->q<12->opT q≠s):Ce s=true:=by
 have e1 : asc "self" = [115, 101, 108, 102] := by decide +kernel
 have e2 : asc "arg" = [97, 114, 103] := by decide +kernel
 refine (BcG s h2 ((Ow s).2 ⟨h1,?_,h6⟩)).2 ⟨by rw[e1];exact h3,by rw[e2];exact h4,h7,h8⟩
 unfold low
 simp only[Bool.and_eq_true,decide_eq_true_eq]
 exact h5
theorem CA{s:List UInt8}(h:Ce s=true->False):false=Ce s:=by
 cases e:Ce s with
 |false=>rfl
 |true=>exact (h e).elim
noncomputable def Ein(s:List UInt8):Senv:={ EC BfA 75 1 [2,3,4,5,30,32,33,34,57,60,66,68,74] (fun _=>([],[])) with
 mg:=fun _=>2
 ann:=fun b _ S=>match b with
  |0=>some { slots:=[33],keep:=[0,32],α:=Nat,st:=fun y=>([.int .i64 y],S),inv:=fun y=>y<=s.length/\(s.take y).all M8=true,mu:=fun y=>s.length-y }
  |2=>some { slots:=[4],keep:=[0],α:=Nat,st:=fun y=>([.int .i64 y],S),inv:=fun y=>1<=y/\y<=56/\∀q:Nat,1<=q->q<y->Cf q≠s,mu:=fun y=>56-y }
  |4=>some { slots:=[5],keep:=[0],α:=Nat,st:=fun y=>([.int .i64 y],S),inv:=fun y=>1<=y/\y<=12/\∀q:Nat,1<=q->q<y->opT q≠s,mu:=fun y=>12-y }
  |_=>none }
def JQ(a:List UInt8):Prop:=True/\∃(_y:Unit),True/\false=Ce a/\True/\True
def QhB(a:Nat)(b:List UInt8):Prop:=a<=LN b/\List.all (List.take a b) M8=true
def Qbb(a:List UInt8)(b:Nat):Int:=(BI a (Int.toNat (↑b:Int)))
def QhC(a b:Nat):Prop:=(IntKind.wrap IntKind.i64 ((↑a:Int)+Z1)=(↑b:Int)/\True)/\True/\True
def Qq1(a:List UInt8)(b:Nat):Prop:=(SM (D.str a)/\SM (ZI (LI a))/\True)/\∃(y:Nat),QhB y a/\LN a-y<LN a-b/\QhC b y
def Qq2(a:Nat)(b:List UInt8):Prop:=Bc (Z0<=(↑a:Int)/\(↑a:Int)<(LI b)) (ifB (decide (Qbb b a<48)) (JQ b) (Bc (Z0<=(↑a:Int)/\(↑a:Int)<(LI b)) (ifB (decide ((57:Int)<Qbb b a)) (JQ b) (Qq1 b a))))
def QhD(a:Nat)(b:List UInt8):Prop:=N1<=a/\a<=56/\∀(q:Nat),N1<=q->q<a->Cf (↑q:Int)≠b
def QhE(a:Nat)(b:List UInt8):Prop:=N1<=a/\a<=12/\∀(q:Nat),N1<=q->q<a->opT (↑q:Int)≠b
theorem BnH(s:List UInt8):ACalls Tryz.prog 54 [.str s] ⟨[],[]⟩ (SpecR (sC [.str s] (.bool (Ce s))) ()):=by
 refine Bg (A:=sC _ _) (x:=()) (E:=Ein s) (eOk Bcy rfl) Tryz.func54 rfl (by kernel_rfl) rfl (by simp[sC,Ein,EC,E0]) ?_
 refine Bi (T :=
  ifB (s==[]) (JQ s) (ifB (decide ((32:Int)<(LI s))) (JQ s) (ifB (s==[(115:UInt8),(101:UInt8),(108:UInt8),(102:UInt8)]) (JQ s) (ifB (s==[(97:UInt8),(114:UInt8),(103:UInt8)]) (JQ s) (Bc (Z0<=Z0/\Z0<(LI s)) (ifB (decide ((BI s N0)<97)) (JQ s) (Bc (Z0<=Z0/\Z0<(LI s)) (ifB (decide ((122:Int)<(BI s N0))) (JQ s) ((∃(x:Nat),QhB x s/\(Z0=(↑x:Int)/\True)/\True/\True)/\∀(x:Nat),QhB x s->ifB (decide ((↑x:Int)<(LI s))) (Bc (Z0<=(↑x:Int)/\(↑x:Int)<(LI s)) (ifB (decide (Qbb s x<97)) (Qq2 x s) (Bc (Z0<=(↑x:Int)/\(↑x:Int)<(LI s)) (ifB (decide ((122:Int)<Qbb s x)) (Qq2 x s) (Qq1 s x))))) ((∃(x:Nat),QhD x s/\(Z1=(↑x:Int)/\True)/\True/\True)/\∀(x:Nat),QhD x s->ifB (decide ((↑x:Int)<=55)) (True/\∀(y:Unit),True->ifB (Cf (↑x:Int)==s) (JQ s) ((SM (D.str s)/\True)/\∃(y:Nat),QhD y s/\(56:Nat)-y<56-x/\QhC x y)) ((∃(x:Nat),QhE x s/\(Z1=(↑x:Int)/\True)/\True/\True)/\∀(x:Nat),QhE x s->ifB (decide ((↑x:Int)<=11)) (True/\∀(y:Unit),True->ifB (opT (↑x:Int)==s) (JQ s) ((SM (D.str s)/\True)/\∃(y:Nat),QhE y s/\(12:Nat)-y<12-x/\QhC x y)) (RT (true=Ce s))))))))))))) (by kernel_rfl) ?_
 delta BI LI LN N0 N1 SM U0 Z0 Z1 ZI JQ QhB Qbb QhC Qq1 Qq2 QhD QhE RT
 simp only[eq_self,ne_eq,Int.toNat_natCast,Bf,Bd,decide_eq_true_eq,decide_eq_false_iff_not,true_and,and_true,beq_iff_eq,beq_eq_false_iff_ne,exists_const,forall_const]
 refine⟨fun h=>CA fun e=>(BO e).1 h,fun k1=>⟨fun h=>CA fun e=>by have:=(BO e).2.1;omega,fun k2=>⟨fun h=>CA fun e=>(BO e).2.2.1 h,fun k3=>⟨fun h=>CA fun e=>(BO e).2.2.2.1 h,fun k4=>?_⟩⟩⟩⟩
 have hl:0<s.length:=List.length_pos_iff.2 k1
 refine⟨⟨by omega,by omega⟩,fun h=>CA fun e=>by have:=(BO e).2.2.2.2.1;omega,fun k5=>⟨⟨by omega,by omega⟩,fun h=>CA fun e=>by have:=(BO e).2.2.2.2.1;omega,fun k6=>⟨⟨0,⟨Nat.zero_le _,rfl⟩,rfl⟩,fun x ⟨hx,ht⟩=>⟨fun hlt=>?_,fun hge=>?_⟩⟩⟩⟩
 ·have hx':x<s.length:=by omega
  have w:IntKind.i64.wrap ((x:Int)+1)=((x+1:Nat):Int):=by rw[Ba (by omega) (by omega)];rfl
  have go:((97<=(s.getD x 0).toNat/\(s.getD x 0).toNat<=122)\/(48<=(s.getD x 0).toNat/\(s.getD x 0).toNat<=57))->∃y,(y<=s.length/\(List.take y s).all M8=true)/\s.length-y<s.length-x/\IntKind.i64.wrap ((x:Int)+1)=(y:Int):=fun hc =>
   ⟨x+1,⟨hx',BdJ hx' ht ((Wv _).2 hc)⟩,by omega,w⟩
  have no:¬((97<=(s.getD x 0).toNat/\(s.getD x 0).toNat<=122)\/(48<=(s.getD x 0).toNat/\(s.getD x 0).toNat<=57))->false=Ce s:=fun hc=>CA fun e=>hc ((BO e).2.2.2.2.2.1 x hx')
  exact⟨⟨by omega,by omega⟩,fun a1=>⟨⟨by omega,by omega⟩,fun a2=>no (by omega),fun a2=>⟨⟨by omega,by omega⟩,fun a3=>no (by omega),fun a3=>go (by omega)⟩⟩,
   fun a1=>⟨⟨by omega,by omega⟩,fun a2=>⟨⟨by omega,by omega⟩,fun a3=>no (by omega),fun a3=>⟨⟨by omega,by omega⟩,fun a4=>no (by omega),fun a4=>go (by omega)⟩⟩,fun a2=>go (by omega)⟩⟩
 ·have hall:s.all M8=true:=by
   have:x=s.length:=by omega
   rwa [this,List.take_length] at ht
  refine⟨⟨1,⟨Nat.le_refl _,by omega,fun q h1 h2=>by omega⟩,rfl⟩,fun y ⟨y1,y2,y3⟩=>⟨fun hy=>⟨fun e=>CA fun e'=>(BO e').2.2.2.2.2.2.1 y y1 (by omega) e,fun e=>⟨y+1,⟨by omega,by omega,fun q h1 h2=>?_⟩,by omega,by rw[Ba (by omega) (by omega)];rfl⟩⟩,
   fun hy=>⟨⟨1,⟨Nat.le_refl _,by omega,fun q h1 h2=>by omega⟩,rfl⟩,fun z ⟨z1,z2,z3⟩=>⟨fun hz=>⟨fun e=>CA fun e'=>(BO e').2.2.2.2.2.2.2 z z1 (by omega) e,fun e=>⟨z+1,⟨by omega,by omega,fun q h1 h2=>?_⟩,by omega,by rw[Ba (by omega) (by omega)];rfl⟩⟩,fun hz=>?_⟩⟩⟩⟩
  ·by_cases e':q=y
   ·rw[e'];exact e
   ·exact y3 q h1 (by omega)
  ·by_cases e':q=z
   ·rw[e'];exact e
   ·exact z3 q h1 (by omega)
  ·exact (Bkb k1 (by omega) k3 k4 ⟨by omega,by omega⟩ hall (fun q h1 h2=>y3 q h1 (by omega)) fun q h1 h2=>z3 q h1 (by omega)).symm
noncomputable def Ern(s:List UInt8):Senv:={ EC BfA 47 1 [2,3,14,18,46] (fun _=>([],[])) with
 mg:=fun _=>2
 ann:=fun b _ S=>match b with
  |0=>some { slots:=[3],keep:=[0],α:=Nat,st:=fun y=>([.int .i64 y],S),inv:=fun y=>y<=s.length/\(s.take y).all M8=true/\(0<y->low (s.getD 0 0)=true),mu:=fun y=>s.length-y }
  |_=>none }
def XR(a:List UInt8):Prop:=True/\∃(_y:Unit),True/\false=Ce a/\True/\True
def QhF(a:Nat)(b:List UInt8):Prop:=a<=LN b/\List.all (List.take a b) M8=true/\(N0<a->low (List.getD b N0 U0)=true)
def Qbc(a:List UInt8)(b:Nat):Int:=(BI a (Int.toNat (↑b:Int)))
def Qq3(a:List UInt8)(b:Nat):Prop:=(SM (D.str a)/\True)/\∃(y:Nat),QhF y a/\LN a-y<LN a-b/\(IntKind.wrap IntKind.i64 ((↑b:Int)+Z1)=(↑y:Int)/\True)/\True/\True
def Qq4(a:Nat)(b:List UInt8):Prop:=ifB ((↑a:Int)==Z0) (XR b) (Bc (Z0<=(↑a:Int)/\(↑a:Int)<(LI b)) (ifB (decide (Qbc b a<48)) (XR b) (Bc (Z0<=(↑a:Int)/\(↑a:Int)<(LI b)) (ifB (decide ((57:Int)<Qbc b a)) (XR b) (Qq3 b a)))))
theorem BnQ(s:List UInt8):ACalls Tryz.prog 68 [.str s] ⟨[],[]⟩ (SpecR (sC [.str s] (.bool (Ce s))) ()):=by
 refine Bg (A:=sC _ _) (x:=()) (E:=Ern s) (eOk Bcy rfl) Tryz.func68 rfl (by kernel_rfl) rfl (by simp[sC,Ern,EC,E0]) ?_
 refine Bi (T :=
  ifB (s==[]) (XR s) (ifB (decide ((32:Int)<(LI s))) (XR s) (LN s<=8589934592/\∀(y:Unit),True->ifB (Rw s) (XR s) ((∃(x:Nat),QhF x s/\(Z0=(↑x:Int)/\True)/\True/\True)/\∀(x:Nat),QhF x s->ifB (decide ((↑x:Int)<(LI s))) (Bc (Z0<=(↑x:Int)/\(↑x:Int)<(LI s)) (ifB (decide (Qbc s x<97)) (Qq4 x s) (Bc (Z0<=(↑x:Int)/\(↑x:Int)<(LI s)) (ifB (decide ((122:Int)<Qbc s x)) (Qq4 x s) (Qq3 s x))))) (RT (true=Ce s)))))) (by kernel_rfl) ?_
 delta BI LI LN N0 SM U0 Z0 Z1 Qbc Qq3 Qq4 XR QhF RT
 simp only[eq_self,ne_eq,Int.toNat_natCast,Bf,Bd,decide_eq_true_eq,decide_eq_false_iff_not,true_and,and_true,beq_iff_eq,beq_eq_false_iff_ne,exists_const,forall_const]
 refine⟨fun h=>CA fun e=>(BO e).1 h,fun k1=>⟨fun h=>CA fun e=>by have:=(BO e).2.1;omega,fun k2=>⟨by omega,fun h=>CA fun e=>?_,fun k3=>?_⟩⟩⟩
 ·unfold Ce at e
  rw[h] at e
  simp at e
 have hl:0<s.length:=List.length_pos_iff.2 k1
 have lo:∀b:UInt8,low b=true↔(97<=b.toNat/\b.toNat<=122):=fun b=>by
  unfold low
  simp only[Bool.and_eq_true,decide_eq_true_eq]
 refine⟨⟨0,⟨Nat.zero_le _,rfl,fun h=>absurd h (by omega)⟩,rfl⟩,fun x ⟨hx,ht,h0⟩=>⟨fun hlt=>?_,fun hge=>?_⟩⟩
 ·have hx':x<s.length:=by omega
  have w:IntKind.i64.wrap ((x:Int)+1)=((x+1:Nat):Int):=by rw[Ba (by omega) (by omega)];rfl
  have go:((97<=(s.getD x 0).toNat/\(s.getD x 0).toNat<=122)\/(48<=(s.getD x 0).toNat/\(s.getD x 0).toNat<=57))->(x=0->(97<=(s.getD x 0).toNat/\(s.getD x 0).toNat<=122))->∃y,(y<=s.length/\(List.take y s).all M8=true/\(0<y->low (s.getD 0 0)=true))/\s.length-y<s.length-x/\IntKind.i64.wrap ((x:Int)+1)=(y:Int):=fun hc h1 =>
   ⟨x+1,⟨hx',BdJ hx' ht ((Wv _).2 hc),fun _=>by
    by_cases e:x=0
    ·subst e;exact (lo _).2 (h1 rfl)
    ·exact h0 (by omega)⟩,by omega,w⟩
  have no:¬((97<=(s.getD x 0).toNat/\(s.getD x 0).toNat<=122)\/(48<=(s.getD x 0).toNat/\(s.getD x 0).toNat<=57))->false=Ce s:=fun hc=>CA fun e=>hc ((BO e).2.2.2.2.2.1 x hx')
  have n0:(x:Int)=0->¬(97<=(s.getD x 0).toNat/\(s.getD x 0).toNat<=122)->false=Ce s:=fun hx0 hc=>CA fun e=>hc (by
   have:x=0:=by omega
   rw[this];exact (BO e).2.2.2.2.1)
  exact⟨⟨by omega,by omega⟩,fun a1=>⟨fun a2=>n0 a2 (by omega),fun a2=>⟨⟨by omega,by omega⟩,fun a3=>no (by omega),fun a3=>⟨⟨by omega,by omega⟩,fun a4=>no (by omega),fun a4=>go (by omega) (by omega)⟩⟩⟩,
   fun a1=>⟨⟨by omega,by omega⟩,fun b=>⟨fun a2=>n0 a2 (by omega),fun a2=>⟨⟨by omega,by omega⟩,fun a3=>no (by omega),fun a3=>⟨⟨by omega,by omega⟩,fun a4=>no (by omega),fun a4=>go (by omega) (by omega)⟩⟩⟩,fun b=>go (by omega) (by omega)⟩⟩
 ·have:x=s.length:=by omega
  rw[this,List.take_length] at ht
  have hp:TH s=true:=(Ow s).2 ⟨k1,h0 (by omega),ht⟩
  unfold Ce
  rw[hp,k3,decide_eq_true (by omega)]
  rfl
def If(vk:Int)(sh nu it:Nat):Bool:=vk==0&&(sh==0)&&(nu==0)&&(it==0)
def BF(kd at_:Int)(tx:List UInt8)(pr op vk:Int)(sh nu it bo:Nat)(de sl ss k:Int):Bool :=
 kd==k&&decide (0<=at_)&&decide (0<=de)&&decide (0<=sl)&&decide (0<=ss)&&(tx.isEmpty||k==2)&&(pr==0||k==9)&&(op==0||k==17)&&(If vk sh nu it||k==1)&&((bo==0)||k==10)
def GK(kd at_ cl:Int)(tx:List UInt8)(pr op vk:Int)(sh nu it ki bo:Nat)(de sl ss:Int):Bool:=kd==0&&at_==0&&cl==0&&de==0&&sl==0&&ss==0&&BF kd at_ tx pr op vk sh nu it bo de sl ss 0&&(ki==0)
theorem Bc8{α:Type}(l:List α):(l.length==0)=l.isEmpty:=by cases l<;>rfl
theorem Bc5(n:Nd)(k:Int):BF n.kd n.at_ n.tx n.pr n.op n.va.k n.va.sh.length n.va.nu.length n.va.it.length n.bo.length n.de n.sl n.ss k=IL n k:=by
 unfold BF IL If Th
 simp[Bc8]
theorem Bg5(n:Nd):GK n.kd n.at_ n.cl n.tx n.pr n.op n.va.k n.va.sh.length n.va.nu.length n.va.it.length n.ki.length n.bo.length n.de n.sl n.ss=Cx n:=by
 unfold GK Cx
 rw[Bc5]
 simp[Bc8]
def ndC(kd at_ cl:Int)(tx:List UInt8)(pr op vk:Int)(sh nu it ki bo:Nat)(f1 f2 f3 f4 f5:Nat->List D)(de sl ss:Int):List D :=
 [.int .i64 kd,.int .i64 at_,.int .i64 cl,.str tx,.int .i64 pr,.int .i64 op,.int .i64 vk,.sl 1 sh f1 .any,.sl 1 nu f2 .any,.sl 4 it f3 .any,.sl 15 ki f4 .any,.sl 34 bo f5 .any,.int .i64 de,.int .i64 sl,.int .i64 ss]
noncomputable def Eiz:Senv:=EC Eu 24 3 [] (fun _=>([],[]))
def XS(a:Nat):Bool:=(↑a:Int)==Z0
def QhG(a:Int)(b c d:Nat):Bool:=bif bif bif a==Z0 then XS b else false then XS c else false then XS d else false
def QhH(a:Int)(b c d:Nat):Prop:=false=QhG a b c d/\True
theorem Bqa(vk:Int)(sh nu it:Nat)(f1 f2 f3:Nat->List D):CD 94 [.agg [.int .i64 vk,.sl 1 sh f1 .any,.sl 1 nu f2 .any,.sl 4 it f3 .any]] (.bool (If vk sh nu it)):=by
 refine Bg (A:=sC _ _) (x:=()) (E:=Eiz) (eOk BL rfl) Tryz.func94 rfl (by kernel_rfl) rfl (by simp[sC,Eiz,EC,E0]) ?_
 refine Bi (T :=
  ∀(x:Nat),True->(SM x/\ifB (vk==Z0) (SM x/\ifB (XS sh) (SM x/\ifB (XS nu) (SM x/\XS it=QhG vk sh nu it/\True) (QhH vk sh nu it)) (QhH vk sh nu it)) (QhH vk sh nu it))/\RT (QhG vk sh nu it=If vk sh nu it)) (by kernel_rfl) ?_
 delta SM Z0 XS QhG QhH RT
 have z:∀n:Nat,((n:Int)==0)=(n==0):=fun n=>by
  rw[Bool.eq_iff_iff,beq_iff_eq,beq_iff_eq];omega
 simp only[z]
 unfold If
 generalize (vk==0)=a
 generalize (sh==0)=b
 generalize (nu==0)=c
 generalize (it==0)=d
 intro x _
 cases a<;>cases b<;>cases c<;>cases d<;>simp[Bf]
def BfU:Con:=fun k ds _=>match k with
 |94=>match ds with
  | [.agg [.int .i64 vk,.sl 1 sh _ _,.sl 1 nu _ _,.sl 4 it _ _]]=>some (pC ds (.bool (If vk sh nu it)) True)
  |_=>none
 |_=>none
theorem Bdd:ConOk Tryz.prog BfU:=by
 intro k ds S A h
 unfold BfU at h
 split at h
 ·split at h
  ·injection h with h;subst h
   rename_i vk sh f1 _ nu f2 _ it f3 _
   exact BZ fun _=>⟨Bk _,Ca (us:=[.agg [.int .i64 vk,.sl 1 sh f1 .any,.sl 1 nu f2 .any,.sl 4 it f3 .any]]) (by simp[BD,Bn,Bb,BG,kEq]) (Bqa _ _ _ _ _ _ _)⟩
  ·cases h
 ·cases h
noncomputable def Eol:Senv:=EC BfU 75 3 [4] (fun _=>([],[]))
theorem BnG(kd at_ cl : Int)(tx : List UInt8)(pr op vk : Int)(sh nu it ki bo : Nat)(f1 f2 f3 f4 f5 : Nat -> List D)(de sl ss k : Int) :
  ACalls Tryz.prog 72 [.agg (ndC kd at_ cl tx pr op vk sh nu it ki bo f1 f2 f3 f4 f5 de sl ss),.int .i64 k] ⟨[],[]⟩ (SpecR (sC [.agg (ndC kd at_ cl tx pr op vk sh nu it ki bo f1 f2 f3 f4 f5 de sl ss),.int .i64 k] (.bool (BF kd at_ tx pr op vk sh nu it bo de sl ss k))) ()):=by
 refine Bg (A:=sC _ _) (x:=()) (E:=Eol) (eOk Bdd rfl) Tryz.func72 rfl (by kernel_rfl) rfl (by simp[sC,Eol,EC,E0]) ?_
 refine Bi (T :=
  ∀(x:Nat),True->SM x/\ifB (kd==k) (SM x/\ifB (decide (Z0<=at_)) (SM x/\ifB (decide (Z0<=de)) (SM x/\ifB (decide (Z0<=sl)) (SM x/\ifB (decide (Z0<=ss)) (SM x/\ifB (tx==[]) (SM x/\ifB (pr==Z0) (SM x/\ifB (op==Z0) (SM x/\True/\∀(y:Unit),True->ifB (If vk sh nu it) (SM x/\ifB ((↑bo:Int)==Z0) (RT (true=BF kd at_ tx pr op vk sh nu it bo de sl ss k)) (RT ((k==10)=BF kd at_ tx pr op vk sh nu it bo de sl ss k))) (ifB (k==Z1) (SM x/\ifB ((↑bo:Int)==Z0) (RT (true=BF kd at_ tx pr op vk sh nu it bo de sl ss k)) (RT ((k==10)=BF kd at_ tx pr op vk sh nu it bo de sl ss k))) (RT (false=BF kd at_ tx pr op vk sh nu it bo de sl ss k)))) (ifB (k==17) (SM x/\True/\∀(y:Unit),True->ifB (If vk sh nu it) (SM x/\ifB ((↑bo:Int)==Z0) (RT (true=BF kd at_ tx pr op vk sh nu it bo de sl ss k)) (RT ((k==10)=BF kd at_ tx pr op vk sh nu it bo de sl ss k))) (ifB (k==Z1) (SM x/\ifB ((↑bo:Int)==Z0) (RT (true=BF kd at_ tx pr op vk sh nu it bo de sl ss k)) (RT ((k==10)=BF kd at_ tx pr op vk sh nu it bo de sl ss k))) (RT (false=BF kd at_ tx pr op vk sh nu it bo de sl ss k)))) (RT (false=BF kd at_ tx pr op vk sh nu it bo de sl ss k)))) (ifB (k==9) (SM x/\ifB (op==Z0) (SM x/\True/\∀(y:Unit),True->ifB (If vk sh nu it) (SM x/\ifB ((↑bo:Int)==Z0) (RT (true=BF kd at_ tx pr op vk sh nu it bo de sl ss k)) (RT ((k==10)=BF kd at_ tx pr op vk sh nu it bo de sl ss k))) (ifB (k==Z1) (SM x/\ifB ((↑bo:Int)==Z0) (RT (true=BF kd at_ tx pr op vk sh nu it bo de sl ss k)) (RT ((k==10)=BF kd at_ tx pr op vk sh nu it bo de sl ss k))) (RT (false=BF kd at_ tx pr op vk sh nu it bo de sl ss k)))) (ifB (k==17) (SM x/\True/\∀(y:Unit),True->ifB (If vk sh nu it) (SM x/\ifB ((↑bo:Int)==Z0) (RT (true=BF kd at_ tx pr op vk sh nu it bo de sl ss k)) (RT ((k==10)=BF kd at_ tx pr op vk sh nu it bo de sl ss k))) (ifB (k==Z1) (SM x/\ifB ((↑bo:Int)==Z0) (RT (true=BF kd at_ tx pr op vk sh nu it bo de sl ss k)) (RT ((k==10)=BF kd at_ tx pr op vk sh nu it bo de sl ss k))) (RT (false=BF kd at_ tx pr op vk sh nu it bo de sl ss k)))) (RT (false=BF kd at_ tx pr op vk sh nu it bo de sl ss k)))) (RT (false=BF kd at_ tx pr op vk sh nu it bo de sl ss k)))) (ifB (k==2) (SM x/\ifB (pr==Z0) (SM x/\ifB (op==Z0) (SM x/\True/\∀(y:Unit),True->ifB (If vk sh nu it) (SM x/\ifB ((↑bo:Int)==Z0) (RT (true=BF kd at_ tx pr op vk sh nu it bo de sl ss k)) (RT ((k==10)=BF kd at_ tx pr op vk sh nu it bo de sl ss k))) (ifB (k==Z1) (SM x/\ifB ((↑bo:Int)==Z0) (RT (true=BF kd at_ tx pr op vk sh nu it bo de sl ss k)) (RT ((k==10)=BF kd at_ tx pr op vk sh nu it bo de sl ss k))) (RT (false=BF kd at_ tx pr op vk sh nu it bo de sl ss k)))) (ifB (k==17) (SM x/\True/\∀(y:Unit),True->ifB (If vk sh nu it) (SM x/\ifB ((↑bo:Int)==Z0) (RT (true=BF kd at_ tx pr op vk sh nu it bo de sl ss k)) (RT ((k==10)=BF kd at_ tx pr op vk sh nu it bo de sl ss k))) (ifB (k==Z1) (SM x/\ifB ((↑bo:Int)==Z0) (RT (true=BF kd at_ tx pr op vk sh nu it bo de sl ss k)) (RT ((k==10)=BF kd at_ tx pr op vk sh nu it bo de sl ss k))) (RT (false=BF kd at_ tx pr op vk sh nu it bo de sl ss k)))) (RT (false=BF kd at_ tx pr op vk sh nu it bo de sl ss k)))) (ifB (k==9) (SM x/\ifB (op==Z0) (SM x/\True/\∀(y:Unit),True->ifB (If vk sh nu it) (SM x/\ifB ((↑bo:Int)==Z0) (RT (true=BF kd at_ tx pr op vk sh nu it bo de sl ss k)) (RT ((k==10)=BF kd at_ tx pr op vk sh nu it bo de sl ss k))) (ifB (k==Z1) (SM x/\ifB ((↑bo:Int)==Z0) (RT (true=BF kd at_ tx pr op vk sh nu it bo de sl ss k)) (RT ((k==10)=BF kd at_ tx pr op vk sh nu it bo de sl ss k))) (RT (false=BF kd at_ tx pr op vk sh nu it bo de sl ss k)))) (ifB (k==17) (SM x/\True/\∀(y:Unit),True->ifB (If vk sh nu it) (SM x/\ifB ((↑bo:Int)==Z0) (RT (true=BF kd at_ tx pr op vk sh nu it bo de sl ss k)) (RT ((k==10)=BF kd at_ tx pr op vk sh nu it bo de sl ss k))) (ifB (k==Z1) (SM x/\ifB ((↑bo:Int)==Z0) (RT (true=BF kd at_ tx pr op vk sh nu it bo de sl ss k)) (RT ((k==10)=BF kd at_ tx pr op vk sh nu it bo de sl ss k))) (RT (false=BF kd at_ tx pr op vk sh nu it bo de sl ss k)))) (RT (false=BF kd at_ tx pr op vk sh nu it bo de sl ss k)))) (RT (false=BF kd at_ tx pr op vk sh nu it bo de sl ss k)))) (RT (false=BF kd at_ tx pr op vk sh nu it bo de sl ss k)))) (RT (false=BF kd at_ tx pr op vk sh nu it bo de sl ss k))) (RT (false=BF kd at_ tx pr op vk sh nu it bo de sl ss k))) (RT (false=BF kd at_ tx pr op vk sh nu it bo de sl ss k))) (RT (false=BF kd at_ tx pr op vk sh nu it bo de sl ss k))) (RT (false=BF kd at_ tx pr op vk sh nu it bo de sl ss k))) (by kernel_rfl) ?_
 delta SM Z0 Z1 RT
 have z:∀n:Nat,((n:Int)==0)=(n==0):=fun n=>by
  rw[Bool.eq_iff_iff,beq_iff_eq,beq_iff_eq];omega
 have e:(tx==[])=tx.isEmpty:=by cases tx<;>rfl
 unfold BF
 simp only[z,e]
 generalize (kd==k)=a1
 generalize decide (0<=at_)=a2
 generalize decide (0<=de)=a3
 generalize decide (0<=sl)=a4
 generalize decide (0<=ss)=a5
 generalize tx.isEmpty=a6
 generalize (k==2)=a7
 generalize (pr==0)=a8
 generalize (k==9)=a9
 generalize (op==0)=b1
 generalize (k==17)=b2
 generalize If vk sh nu it=b3
 generalize (k==1)=b4
 generalize (bo==0)=b5
 generalize (k==10)=b6
 simp only[Bf,true_and,and_true,exists_const,forall_const]
 repeat' (first | refine And.intro ?_ ?_ | intro _)
 all_goals subst_vars
 all_goals simp only[Bool.true_and,Bool.and_true,Bool.false_and,Bool.and_false,Bool.true_or,Bool.false_or,Bool.or_true,Bool.or_false]
def Bk6:Con:=fun k ds S=>match k with
 |72=>match ds with
  | [.agg [.int .i64 kd,.int .i64 at_,.int .i64 _,.str tx,.int .i64 pr,.int .i64 op,.int .i64 vk,.sl 1 sh _ _,.sl 1 nu _ _,.sl 4 it _ _,.sl 15 _ _ _,.sl 34 bo _ _,.int .i64 de,.int .i64 sl,.int .i64 ss],.int .i64 k]=>some (pC ds (.bool (BF kd at_ tx pr op vk sh nu it bo de sl ss k)) True)
  |_=>none
 |k=>BfU k ds S
theorem Bpz(kd at_ cl : Int)(tx : List UInt8)(pr op vk : Int)(sh nu it ki bo : Nat)(f1 f2 f3 f4 f5 : Nat -> List D)(m1 m2 m3 m4 m5 : Ab.Mode)(de sl ss : Int)(ex : List D) :
  BD (.agg [.int .i64 kd,.int .i64 at_,.int .i64 cl,.str tx,.int .i64 pr,.int .i64 op,.int .i64 vk,.sl 1 sh f1 m1,.sl 1 nu f2 m2,.sl 4 it f3 m3,.sl 15 ki f4 m4,.sl 34 bo f5 m5,.int .i64 de,.int .i64 sl,.int .i64 ss]::ex) (.agg (ndC kd at_ cl tx pr op vk sh nu it ki bo f1 f2 f3 f4 f5 de sl ss)::ex):=by
 refine⟨?_,Bk _⟩
 simp[ndC,BD,Bn,Bb,BG,kEq]
theorem BiE:ConOk Tryz.prog Bk6:=by
 intro k ds S A h
 unfold Bk6 at h
 split at h
 ·split at h
  ·injection h with h;subst h
   exact BZ fun _=>⟨Bk _,Ca (Bpz _ _ _ _ _ _ _ _ _ _ _ _ _ _ _ _ _ _ _ _ _ _ _ _ _ _) (BnG _ _ _ _ _ _ _ _ _ _ _ _ _ _ _ _ _ _ _ _ _)⟩
  ·cases h
 ·exact Bdd _ _ _ _ h
noncomputable def Eem:Senv:=EC Bk6 41 3 [] (fun _=>([],[]))
theorem BpM(kd at_ cl : Int)(tx : List UInt8)(pr op vk : Int)(sh nu it ki bo : Nat)(f1 f2 f3 f4 f5 : Nat -> List D)(de sl ss : Int) :
  ACalls Tryz.prog 53 [.agg (ndC kd at_ cl tx pr op vk sh nu it ki bo f1 f2 f3 f4 f5 de sl ss)] ⟨[],[]⟩ (SpecR (sC [.agg (ndC kd at_ cl tx pr op vk sh nu it ki bo f1 f2 f3 f4 f5 de sl ss)] (.bool (GK kd at_ cl tx pr op vk sh nu it ki bo de sl ss))) ()):=by
 refine Bg (A:=sC _ _) (x:=()) (E:=Eem) (eOk BiE rfl) Tryz.func53 rfl (by kernel_rfl) rfl (by simp[sC,Eem,EC,E0]) ?_
 refine Bi (T :=
  ∀(x:Nat),True->SM x/\ifB (kd==Z0) (SM x/\ifB (at_==Z0) (SM x/\ifB (cl==Z0) (SM x/\ifB (de==Z0) (SM x/\ifB (sl==Z0) (SM x/\ifB (ss==Z0) (SM x/\True/\∀(y:Unit),True->ifB (BF kd at_ tx pr op vk sh nu it bo de sl ss Z0) (SM x/\RT (((↑ki:Int)==Z0)=GK kd at_ cl tx pr op vk sh nu it ki bo de sl ss)) (RT (false=GK kd at_ cl tx pr op vk sh nu it ki bo de sl ss))) (RT (false=GK kd at_ cl tx pr op vk sh nu it ki bo de sl ss))) (RT (false=GK kd at_ cl tx pr op vk sh nu it ki bo de sl ss))) (RT (false=GK kd at_ cl tx pr op vk sh nu it ki bo de sl ss))) (RT (false=GK kd at_ cl tx pr op vk sh nu it ki bo de sl ss))) (RT (false=GK kd at_ cl tx pr op vk sh nu it ki bo de sl ss))) (RT (false=GK kd at_ cl tx pr op vk sh nu it ki bo de sl ss))) (by kernel_rfl) ?_
 delta SM Z0 RT
 have z:∀n:Nat,((n:Int)==0)=(n==0):=fun n=>by
  rw[Bool.eq_iff_iff,beq_iff_eq,beq_iff_eq];omega
 unfold GK
 simp only[z]
 generalize (kd==0)=a1
 generalize (at_==0)=a2
 generalize (cl==0)=a3
 generalize (de==0)=a4
 generalize (sl==0)=a5
 generalize (ss==0)=a6
 generalize (ki==0)=a8
 generalize BF _ _ _ _ _ _ _ _ _ _ _ _ _ _=a7
 simp only[Bf,true_and,and_true,exists_const,forall_const]
 repeat' (first | refine And.intro ?_ ?_ | intro _)
 all_goals subst_vars
 all_goals simp only[Bool.true_and,Bool.and_true,Bool.false_and,Bool.and_false]
noncomputable def CY{α:Type}(a b:α):Bool:=@decide (a=b) (Classical.propDecidable _)
theorem CV{α:Type}{a b:α}:CY a b=true↔a=b:=by unfold CY;exact @decide_eq_true_iff _ (Classical.propDecidable _)
theorem Ex{α:Type}{a b:α}(h:a≠b):false=CY a b:=by
 cases hs:CY a b with
 |false=>rfl
 |true=>exact (h (CV.1 hs)).elim
theorem Bh7{α:Type}{a b:α}(h:a=b):true=CY a b:=(CV.2 h).symm
theorem UL{α:Type}{l m:List α}(d:α)(h:l.length=m.length)(h2:∀j,j<l.length->l.getD j d=m.getD j d):l=m:=by
 apply List.ext_getElem h
 intro i h3 h4
 have:=h2 i h3
 simpa[List.getD_eq_getElem?_getD,List.getElem?_eq_getElem h3,List.getElem?_eq_getElem h4] using this
theorem Bco{α β:Type}{a b:α}{c d:β}(h:a=b↔c=d):CY a b=CY c d:=by
 rw[Bool.eq_iff_iff,CV,CV];exact h
theorem BmL{a b:Arr}(h1:a.k=b.k)(h2:a.sh=b.sh)(h3:a.nu=b.nu)(h4:a.it=b.it):a=b:=by
 cases a;cases b
 simp only[Arr.k,Arr.sh,Arr.nu,Arr.it] at h1 h2 h3 h4
 rw[h1,h2,h3,h4]
noncomputable def Eshp(l m:List Int):Senv:={ EC Eu 26 2 [4,5,10,14,25] (fun id=>match id with | 6=>([0,1,2,3,4,5,6,7,8],[]) | _=>([],[])) with
 ann:=fun b _ S=>match b with
  |0=>some { slots:=[5],keep:=[0,1],α:=Nat,st:=fun i=>([.int .i64 i],S),inv:=fun i=>i<=l.length/\∀j,j<i->l.getD j 0=m.getD j 0,mu:=fun i=>l.length-i }
  |_=>none }
def Qq5(a b:List Int):Prop:=RT (false=decide (a=b))
def QhI(a:Nat)(b c:List Int):Prop:=a<=LN b/\∀(j:Nat),j<a->GI b j=GI c j
def QOM(a:List Int):D:=SI a
def Qq6(a:List Int):Prop:=SM (QOM a)
theorem Bin(l m:List Int)(hl:l.length<=maxLen)(hm:m.length<=maxLen):ACalls Tryz.prog 125 [isl l .any,isl m .any] ⟨[],[]⟩ (SpecR (sC [isl l .any,isl m .any] (.bool (decide (l=m)))) ()):=by
 refine Bg (A:=sC _ _) (x:=()) (E:=Eshp l m) (eOk BL rfl) Tryz.func125 rfl (by kernel_rfl) rfl (by simp[sC,Eshp,EC,E0]) ?_
 refine Bi (T :=
  ifB ((LI l) != (LI m)) (Qq5 l m) ((∃(x:Nat),QhI x l m/\(Z0=(↑x:Int)/\True)/\True/\True)/\∀(x:Nat),QhI x l m->ifB (decide ((↑x:Int)<(LI l))) (Bc (Z0<=(↑x:Int)/\(↑x:Int)<(LI l)) (Bc (Z0<=(↑x:Int)/\(↑x:Int)<(LI m)) (ifB (GI l (Int.toNat (↑x:Int)) != GI m (Int.toNat (↑x:Int))) (Qq5 l m) ((Qq6 l/\Qq6 m/\True)/\∃(y:Nat),QhI y l m/\LN l-y<LN l-x/\(IntKind.wrap IntKind.i64 ((↑x:Int)+Z1)=(↑y:Int)/\True)/\True/\True)))) (RT (true=decide (l=m))))) (by kernel_rfl) ?_
 delta GI LI LN N1 SI SM Z0 Z1 ZI Qq5 QhI QOM Qq6 RT
 simp only[Bf,Bd,decide_eq_true_eq,decide_eq_false_iff_not,true_and,and_true,beq_iff_eq,bne_iff_ne,ne_eq,exists_const,forall_const,implies_true,Int.toNat_natCast]
 simp only[maxLen] at hl hm
 refine⟨fun h=>?_,fun h=>⟨⟨0,⟨Nat.zero_le _,fun j hj=>absurd hj (by omega)⟩,rfl⟩,fun i hi=>⟨fun hlt=>?_,fun hge=>?_⟩⟩⟩
 ·exact (decide_eq_false fun e=>by rw[e] at h;exact h rfl).symm
 ·have h:l.length=m.length:=by
   have h:(l.length:Int)=m.length:=by simpa using h
   omega
  refine⟨⟨by omega,by omega⟩,⟨by omega,by omega⟩,fun hn=>?_,fun he=>⟨i+1,⟨by omega,fun j hj=>?_⟩,by omega,Ba (by omega) (by omega)⟩⟩
  ·exact (decide_eq_false fun e=>hn (by rw[e])).symm
  ·by_cases e:j=i
   ·subst e;simpa using he
   ·exact hi.2 j (by omega)
 ·have h:l.length=m.length:=by
   have h:(l.length:Int)=m.length:=by simpa using h
   omega
  exact (decide_eq_true (UL 0 h fun j hj=>hi.2 j (by omega))).symm
noncomputable def Mi(a b:Arr):Bool:=@decide (a=b) (Classical.propDecidable _)
theorem Gs{a b:Arr}:Mi a b=true↔a=b:=by unfold Mi;exact @decide_eq_true_iff _ (Classical.propDecidable _)
theorem Mm{a b:Arr}(h:a≠b):false=Mi a b:=by
 cases hs:Mi a b with
 |false=>rfl
 |true=>exact (h (Gs.1 hs)).elim
noncomputable def sSm(row:Arr->List D)(q:Arr×Arr->Prop):FnSpec where
 β:=Arr×Arr
 α:=Unit
 args:=fun x=>[.agg (row x.1),.agg (row x.2)]
 st:=fun _=>⟨[],[]⟩
 pre:=q
 post:=fun _ _=>True
 res:=fun x _=>.ret (.bool (Mi x.1 x.2))
 out:=fun _ _=>⟨[],[]⟩
noncomputable def BiA(l m:List Arr):Con:=fun k ds _=>match k with
 |111=>some (sSm Arr.row1 (fun x=>x.1∈l/\x.2∈m))
 |125=>match ds with
  | [.sl 1 n f _,.sl 1 p g _]=>some (pC ds (.bool (decide (Bj n f=Bj p g))) ((IntsP n f/\n<=maxLen)/\IntsP p g/\p<=maxLen))
  |_=>none
 |_=>none
noncomputable def Esm(a b:Arr):Senv:={ EC (BiA a.it b.it) 55 6 [35,40,54] (fun id=>match id with | 6=>([0,1,2,3,4,5,6,7,8,9,10,11],[10]) | _=>([],[])) with
 ann:=fun q _ S=>match q with
  |0=>some { slots:=[5],keep:=[2,3],α:=Nat,st:=fun i=>([.int .i64 i],S),inv:=fun i=>i<=a.it.length/\∀j,j<i->a.it.getD j default=b.it.getD j default,mu:=fun i=>a.it.length-i }
  |_=>none }
def Qbd(a:Arr):Int:=Arr.k a
def Zz(a b:Arr):Prop:=RT (false=Mi a b)
def XT(a:Arr):Nat:=LN (Arr.sh a)
def Qbe(a:Arr)(b:Nat):List D:=[ZI (GI (Arr.sh a) b)]
def Qq7(a:Arr):Prop:=(IntsP (XT a) fun i=>Qbe a i)/\XT a<=9223372036854775807
def Qq8(a:Arr):List Int:=Bj (XT a) fun i=>Qbe a i
def XU(a:Arr):Nat:=LN (Arr.nu a)
def Qbf(a:Arr)(b:Nat):List D:=[ZI (GI (Arr.nu a) b)]
def Qq9(a:Arr):Prop:=(IntsP (XU a) fun i=>Qbf a i)/\XU a<=9223372036854775807
def Qra(a:Arr):List Int:=Bj (XU a) fun i=>Qbf a i
def ZA(a:Arr):List Arr:=Arr.it a
def VY(a:Arr):Nat:=LN (ZA a)
def ZC(a:Arr):Int:=(NI (VY a))
def Qbg:Arr:=DA
def VZ(a:Arr)(b:Nat):Arr:=List.getD (ZA a) b Qbg
def QhJ(a:Nat)(b c:Arr):Prop:=a<=VY b/\∀(j:Nat),j<a->VZ b j=VZ c j
def QON(a:Arr)(b:Nat):List Int:=Arr.sh (VZ a b)
def QOO(a:Arr)(b:Nat):List Int:=Arr.nu (VZ a b)
def Qrb(a:Arr)(b:Nat):List Arr:=Arr.it (VZ a b)
def QOP(a:Arr)(b:Nat):List D:=[ZI (Arr.k (VZ a b)),SI (QON a b),SI (QOO a b),D.sl N4 (LN (Qrb a b)) (fun i=>Arr.row (List.getD (Qrb a b) i Qbg)) Mode.any]
def Qrc(a:Arr):Prop:=SM (Qbd a)/\(SM (XT a)/\(∀(i:Nat),i<XT a->SM (Qbe a i))/\True)/\(SM (XU a)/\(∀(i:Nat),i<XU a->SM (Qbf a i))/\True)/\(SM (VY a)/\(∀(i:Nat),i<VY a->SM (QOP a i))/\True)/\True
def Qrd(a:Nat)(b:Arr)(c:Nat)(d:Arr):Prop:=(SM a/\Qrc b/\SM c/\Qrc d/\True)/\True
def Qbh(a:Arr)(b:Nat):Arr:=List.getD (ZA a) (Int.toNat (↑b:Int)) Qbg
def Qre(a:Arr)(b:Nat):List Int:=Arr.sh (Qbh a b)
def Qrf(a:Arr)(b:Nat):Nat:=LN (Qre a b)
def Qrg(a:Arr)(b:Nat):List Int:=Arr.nu (Qbh a b)
def Qrh(a:Arr)(b:Nat):Nat:=LN (Qrg a b)
def Qri(a:Arr)(b:Nat):List Arr:=Arr.it (Qbh a b)
def Qrj(a:Arr)(b:Nat):Nat:=LN (Qri a b)
def Qrk(a:Arr)(b:Nat)(c:Arr):Prop:=Arr.k (Qbh a b)=Qbd c/\(Qrf a b=XT c/\(∀(i:Nat),i<Qrf a b->[ZI (GI (Qre a b) i)]=Qbe c i)/\True)/\(Qrh a b=XU c/\(∀(i:Nat),i<Qrh a b->[ZI (GI (Qrg a b) i)]=Qbf c i)/\True)/\(Qrj a b=VY c/\(∀(i:Nat),i<Qrj a b->Arr.row (List.getD (Qri a b) i Qbg)=Arr.row (VZ c i))/\True)/\True
theorem Bg8(a b : Arr)(ha : a.sh.length<=maxLen /\ a.nu.length<=maxLen /\ a.it.length<=maxLen)(hb : b.sh.length<=maxLen /\ b.nu.length<=maxLen /\ b.it.length<=maxLen)(hc : ConOk Tryz.prog (BiA a.it b.it)) :
  ACalls Tryz.prog 111 ((sSm Arr.row2 (fun _=>True)).args (a,b)) ⟨[],[]⟩ (SpecR (sSm Arr.row2 (fun _=>True)) (a,b)):=by
 refine Bg (A:=sSm Arr.row2 (fun _=>True)) (x:=(a,b)) (E:=Esm a b) (eOk hc rfl) Tryz.func111 rfl (by kernel_rfl) rfl (by simp[sSm,Esm,EC,E0]) ?_
 refine Bi (T :=
  ∀(x:Nat),True->∀(x_1:Nat),x≠x_1/\True->SM x/\SM x_1/\ifB (Qbd a != Qbd b) (Zz a b) (SM x/\SM x_1/\(Qq7 a/\Qq7 b)/\∀(y:Unit),True->ifB (!decide (Qq8 a=Qq8 b)) (Zz a b) (SM x/\SM x_1/\(Qq9 a/\Qq9 b)/\∀(y:Unit),True->ifB (!decide (Qra a=Qra b)) (Zz a b) (SM x/\SM x_1/\ifB (ZC a != ZC b) (Zz a b) ((∃(x_2:Nat),QhJ x_2 a b/\(Z0=(↑x_2:Int)/\True)/\Qrd x_1 b x a)/\∀(x_2:Nat),QhJ x_2 a b->SM x/\ifB (decide ((↑x_2:Int)<ZC a)) (SM x/\Bc (Z0<=(↑x_2:Int)/\(↑x_2:Int)<ZC a) (SM x_1/\Bc (Z0<=(↑x_2:Int)/\(↑x_2:Int)<ZC b) (∃(x_3:Arr×Arr),(Qrk a x_2 x_3.1/\Qrk b x_2 x_3.2/\True)/\(True/\True)/\(x_3.1∈ZA a/\x_3.2∈ZA b)/\∀(y:Unit),True->ifB (!Mi x_3.1 x_3.2) (Zz a b) ((SM (D.ref N0 x N0)/\SM (D.ref (max (N0+N1) N0) x_1 N0)/\True)/\∃(y:Nat),QhJ y a b/\VY a-y<VY a-x_2/\(IntKind.wrap IntKind.i64 ((↑x_2:Int)+Z1)=(↑y:Int)/\True)/\Qrd x_1 b x a)))) (RT (true=Mi a b))))))) (by kernel_rfl) ?_
 delta DA GI LN N0 N1 N4 NI SI SM Z0 Z1 ZI XU Qbf Qq9 Qra ZA VY ZC Qbg VZ QhJ QON QOO Qrb QOP Qrc Qrd Qbh Qre Qrf Qrg Qrh Qri Qrj Qrk Qbd Zz XT Qbe Qq7 Qq8 RT
 have da:(default:Arr)=Arr.mk 0 [] [] []:=rfl
 simp only[<- da,Bf,Bd,decide_eq_true_eq,decide_eq_false_iff_not,true_and,and_true,beq_iff_eq,bne_iff_ne,Bool.cond_false_right,Bool.cond_true_left,Bool.and_eq_true,Bool.and_eq_false_iff,Bool.or_eq_true,Bool.or_eq_false_iff,beq_eq_false_iff_ne,ne_eq,exists_const,forall_const,implies_true,Int.toNat_natCast,Prod.exists,B0]
 simp only[maxLen] at ha hb
 obtain ⟨a1,a2,a3⟩:=ha
 obtain ⟨b1,b2,b3⟩:=hb
 refine fun x x1 _=>⟨fun h=>Mm fun e=>h (by rw[e]),fun hk=>⟨⟨⟨BQ _,a1⟩,BQ _,b1⟩,fun h=>Mm fun e=>?_,fun hs=>⟨⟨⟨BQ _,a2⟩,BQ _,b2⟩,fun h=>Mm fun e=>?_,fun hn=>⟨fun h=>Mm fun e=>h (by rw[e]),fun hl=>⟨⟨0,⟨Nat.zero_le _,fun j hj=>absurd hj (by omega)⟩,rfl⟩,fun i hi=>⟨fun hlt=>?_,fun hge=>?_⟩⟩⟩⟩⟩⟩
 ·rw[e] at h;simp at h
 ·rw[e] at h;simp at h
 ·have hl:a.it.length=b.it.length:=by
   have hl:(a.it.length:Int)=b.it.length:=by simpa using hl
   omega
  have h1:i<a.it.length:=by omega
  have h2:i<b.it.length:=by omega
  refine⟨⟨by omega,by omega⟩,⟨by omega,by omega⟩,a.it.getD i default,b.it.getD i default,⟨⟨rfl,⟨rfl,fun _ _=>rfl⟩,⟨rfl,fun _ _=>rfl⟩,rfl,fun _ _=>rfl⟩,rfl,⟨rfl,fun _ _=>rfl⟩,⟨rfl,fun _ _=>rfl⟩,rfl,fun _ _=>rfl⟩,⟨Cg h1,Cg h2⟩,fun h=>Mm fun e=>?_,fun h=>⟨i+1,⟨by omega,fun j hj=>?_⟩,by omega,Ba (by omega) (by omega)⟩⟩
  ·rw[e,Gs.2 rfl] at h;cases h
  ·by_cases e:j=i
   ·subst e
    exact Gs.1 (by simpa using h)
   ·exact hi.2 j (by omega)
 ·have hl:a.it.length=b.it.length:=by
   have hl:(a.it.length:Int)=b.it.length:=by simpa using hl
   omega
  exact (Gs.2 (BmL (by simpa using hk) (by simpa using hs) (by simpa using hn) (UL default hl fun j hj=>hi.2 j (by omega)))).symm
theorem BaU{k:Nat}{q q':Arr×Arr->Prop}{x:Arr×Arr}(h:ACalls Tryz.prog k ((sSm Arr.row2 q).args x) ⟨[],[]⟩ (SpecR (sSm Arr.row2 q) x)):ACalls Tryz.prog k ((sSm Arr.row1 q').args x) ⟨[],[]⟩ (SpecR (sSm Arr.row1 q') x) :=
 (h.wkArgs (by simp only[sSm,wkL,wkD];exact⟨GN _,GN _,trivial⟩)).mono fun _ _ ⟨y,q1,q2,q3⟩=>⟨y,q1,q2,q3⟩
theorem WG:∀(a b:Arr),a.ok->b.ok->ACalls Tryz.prog 111 ((sSm Arr.row2 (fun _=>True)).args (a,b)) ⟨[],[]⟩ (SpecR (sSm Arr.row2 (fun _=>True)) (a,b))
 |.mk k s n is,.mk k' s' n' is',ha,hb=>by
  simp only[Arr.ok] at ha hb
  obtain ⟨_,_,_,a1,a2,a3,a4⟩:=ha
  obtain ⟨_,_,_,b1,b2,b3,b4⟩:=hb
  refine Bg8 _ _ ⟨a1,a2,a3⟩ ⟨b1,b2,b3⟩ ?_
  intro f ds S A h
  unfold BiA at h
  split at h
  ·injection h with h;subst h
   refine ConOk.plain (fun (x:Arr×Arr) hx=>?_) rfl rfl
   obtain ⟨x,y⟩:=x
   have hx1:x∈is:=hx.1
   have hx2:y∈is':=hx.2
   exact BaU (WG x y ((E7 _).1 a4 x hx1) ((E7 _).1 b4 y hx2))
  ·split at h
   ·injection h with h;subst h
    exact BZ fun ⟨⟨h1,h2⟩,h3,h4⟩=>⟨Bk _,Ca (us:=[isl (Bj _ _) .any,isl (Bj _ _) .any]) ⟨(CB h1).1,(CB h3).1,trivial⟩ (Bin _ _ (by rw[BJ];exact h2) (by rw[BJ];exact h4))⟩
   ·cases h
  ·cases h
termination_by a=>SizeOf.sizeOf a
decreasing_by
 have:=List.sizeOf_lt_of_mem hx1
 simp;omega
theorem UU{l:List Nd}{m:List Int}:(l.map Nd.cl==m)=true↔l.length=m.length/\∀j,j<l.length->(l.getD j default).cl=m.getD j 0:=by
 rw[beq_iff_eq]
 constructor
 ·rintro rfl
  refine⟨by simp,fun j hj=>?_⟩
  simp[List.getD_eq_getElem?_getD,hj]
 ·rintro ⟨h1,h2⟩
  apply List.ext_getElem (by simpa using h1)
  intro i h3 h4
  have h3:i<l.length:=by simpa using h3
  have:=h2 i h3
  simpa[List.getD_eq_getElem?_getD,h3,h4] using this
theorem Bbs{l:List Nd}{m:List Int}(h:¬(l.length=m.length/\∀j,j<l.length->(l.getD j default).cl=m.getD j 0)):false=(l.map Nd.cl==m):=by
 cases e:(l.map Nd.cl==m) with
 |false=>rfl
 |true=>exact (h (UU.1 e)).elim
noncomputable def Eqc(l:List Nd)(m:List Int):Senv:={ EC Eu 32 3 [6,7,8,9,14,15,16,17,18,30] (fun _=>([],[])) with
 ann:=fun q _ S=>match q with
  |0=>some { slots:=[17],keep:=[0,1,2,15,16],α:=Nat,st:=fun i=>([.int .i64 i],S),inv:=fun i=>i<=l.length/\∀j,j<i->(l.getD j default).cl=m.getD j 0,mu:=fun i=>l.length-i }
  |_=>none }
def Qrl(a:List Nd)(b:List Int):Prop:=RT (false=(List.map Nd.cl a==b))
def Qrm:Arr:=DA
def ZD:Nd:=Nd.mk Z0 Z0 Z0 [] Z0 Z0 Qrm [] [] Z0 Z0 Z0
def Q6(a:List Nd)(b:Nat):Nd:=List.getD a b ZD
def Qrn(a:List Nd)(b:Nat):Int:=Nd.cl (Q6 a b)
def QhK(a:Nat)(b:List Nd)(c:List Int):Prop:=a<=LN b/\∀(j:Nat),j<a->Qrn b j=GI c j
def QOS(a:List Nd):D:=D.sl 15 (LN a) (fun i=>(Nd.rowE (Q6 a i))) Mode.any
def Qrr(a:List Nd):Prop:=SM (QOS a)
def QOT(a:List Int):D:=SI a
theorem BoN(l:List Nd)(m:List Int)(hl:l.length<=maxLen)(hm:m.length<=maxLen):CD 119 [gsl 15 Nd.row1 l,isl m .any,.fn (.func 120) [] []] (.bool (l.map Nd.cl==m)):=by
 refine Bg (A:=sC _ _) (x:=()) (E:=Eqc l m) (eOk BL rfl) Tryz.func119 rfl (by kernel_rfl) rfl (by simp[sC,Eqc,EC,E0]) ?_
 refine Bi (T :=
  ifB ((LI l) != (LI m)) (Qrl l m) ((∃(x:Nat),QhK x l m/\(Z0=(↑x:Int)/\True)/\True/\True)/\∀(x:Nat),QhK x l m->ifB (decide ((↑x:Int)<(LI l))) (Bc (Z0<=(↑x:Int)/\(↑x:Int)<(LI l)) (∀(x_1:Nat),True->SM x_1/\Bc (Z0<=(↑x:Int)/\(↑x:Int)<(LI m)) (SM x_1/\∀(x_2:Nat),x_1≠x_2/\True->SM x_2/\True/\ifB (!Nd.cl (List.getD l (Int.toNat (↑x:Int)) ZD)==GI m (Int.toNat (↑x:Int))) (Qrl l m) ((Qrr l/\SM (QOT m)/\SM (D.fn (Fn.func (120:Nat)) [] [])/\Qrr l/\SM (ZI (LI l))/\True)/\∃(y:Nat),QhK y l m/\LN l-y<LN l-x/\(IntKind.wrap IntKind.i64 ((↑x:Int)+Z1)=(↑y:Int)/\True)/\True/\True)))) (RT (true=(List.map Nd.cl l==m))))) (by kernel_rfl) ?_
 delta DA GI LI LN N1 N4 SI SM Z0 Z1 ZI Qrl Qrm QOS Qrr QOT ZD Q6 Qrn QhK RT
 simp only[eq_self,ne_eq,implies_true,Bk,Int.toNat_natCast,Bf,Bd,decide_eq_true_eq,decide_eq_false_iff_not,true_and,and_true,beq_iff_eq,bne_iff_ne,bne_eq_false_iff_eq,beq_eq_false_iff_ne,Bool.not_eq_true',Bool.not_eq_false',exists_const,forall_const]
 simp only[<- dn]
 simp only[maxLen] at hl hm
 refine⟨fun h=>Bbs fun ⟨e,_⟩=>h (by omega),fun he=>⟨⟨0,⟨Nat.zero_le _,fun j hj=>by omega⟩,rfl⟩,fun x ⟨x1,hx⟩=>⟨fun hlt=>⟨⟨by omega,by omega⟩,fun _=>⟨⟨by omega,by omega⟩,fun _ _=>⟨fun h=>Bbs fun ⟨_,e⟩=>h (e x (by omega)),fun h=>⟨x+1,⟨by omega,fun j hj=>by
   by_cases e:j=x
   ·rw[e];exact h
   ·exact hx j (by omega)⟩,by omega,Ba (by omega) (by omega)⟩⟩⟩⟩,fun hge=>(UU.2 ⟨by omega,fun j hj=>hx j (by omega)⟩).symm⟩⟩⟩
noncomputable def Ercl(n:Nd)(m:List Int):Senv:={ EC Eu 29 3 [4,5,11,15,28] (fun id=>match id with | 6=>([0,1,2,3,4,5,6,7,8,9,10],[]) | _=>([],[])) with
 ann:=fun q _ S=>match q with
  |0=>some { slots:=[5],keep:=[0,1,2],α:=Nat,st:=fun i=>([.int .i64 i],S),inv:=fun i=>i<=m.length/\∀j,j<i->(n.ki.getD j default).cl=m.getD j 0,mu:=fun i=>m.length-i }
  |_=>none }
def QhL(a:Nd):List Nd:=Nd.ki a
def ZE(a:Nd):Nat:=LN (QhL a)
def Qrs(a:Nd)(b:List Int):Prop:=RT (false=Bm a b)
def ZF:Arr:=DA
def V0:Nd:=Nd.mk Z0 Z0 Z0 [] Z0 Z0 ZF [] [] Z0 Z0 Z0
def Q7(a:Nd)(b:Nat):Nd:=List.getD (QhL a) b V0
def Qrt(a:Nd)(b:Nat):Int:=Nd.cl (Q7 a b)
def QhM(a:Nat)(b:List Int)(c:Nd):Prop:=a<=LN b/\∀(j:Nat),j<a->Qrt c j=GI b j
def Qru(a:Nd):Int:=Nd.kd a
def Qrv(a:Nd):Int:=Nd.at_ a
def Qrw(a:Nd):Int:=Nd.cl a
def Qrx(a:Nd):List UInt8:=Nd.tx a
def Qry(a:Nd):Int:=Nd.pr a
def Qrz(a:Nd):Int:=Nd.op a
def Qbj(a:Nd):Arr:=Nd.va a
def QrA(a:Nd):Int:=Arr.k (Qbj a)
def QrB(a:Nd):List Int:=Arr.sh (Qbj a)
def QhN(a:Nd):Nat:=LN (QrB a)
def QrC(a:Nd)(b:Nat):List D:=[ZI (GI (QrB a) b)]
def QrD(a:Nd):List Int:=Arr.nu (Qbj a)
def QhO(a:Nd):Nat:=LN (QrD a)
def QrE(a:Nd)(b:Nat):List D:=[ZI (GI (QrD a) b)]
def QrF(a:Nd):List Arr:=Arr.it (Qbj a)
def QhP(a:Nd):Nat:=LN (QrF a)
def QrG(a:Nd)(b:Nat):List D:=Arr.row (List.getD (QrF a) b ZF)
def Qbl:Sm:=Sm.mk Z0 Z0 [] Z0 V0 V0
def QrK(a:Nd)(b:Nat):List D:=(Nd.rowE (Q7 a b))
def QhQ(a:Nd):Nat:=LN (Nd.bo a)
def XV(a:Nd)(b:Nat):Sm:=List.getD (Nd.bo a) b Qbl
def QrR(a:Nd)(b:Nat):List D:=(Sm.row1 (XV a b))
def QrS(a:Nd):Int:=Nd.de a
def QrT(a:Nd):Int:=Nd.sl a
def QrU(a:Nd):Int:=Nd.ss a
def QrV(a:Nat)(b:Nd):Prop:=(SM a/\(SM (Qru b)/\SM (Qrv b)/\SM (Qrw b)/\SM (Qrx b)/\SM (Qry b)/\SM (Qrz b)/\SM (QrA b)/\(SM (QhN b)/\(∀(i:Nat),i<QhN b->SM (QrC b i))/\True)/\(SM (QhO b)/\(∀(i:Nat),i<QhO b->SM (QrE b i))/\True)/\(SM (QhP b)/\(∀(i:Nat),i<QhP b->SM (QrG b i))/\True)/\(SM (ZE b)/\(∀(i:Nat),i<ZE b->SM (QrK b i))/\True)/\(SM (QhQ b)/\(∀(i:Nat),i<QhQ b->SM (QrR b i))/\True)/\SM (QrS b)/\SM (QrT b)/\SM (QrU b)/\True)/\True)/\True
def QO0(a:Nd):D:=D.agg (Nd.rowE a)
def QO1(a:List Int):D:=SI a
theorem Bpr(n:Nd)(m:List Int)(hl:n.ki.length<=maxLen)(hm:m.length<=maxLen):CD 109 [.agg n.row2,isl m .any] (.bool (Bm n m)):=by
 refine Bg (A:=sC _ _) (x:=()) (E:=Ercl n m) (eOk BL rfl) Tryz.func109 rfl (by kernel_rfl) rfl (by simp[sC,Ercl,EC,E0]) ?_
 refine Bi (T :=
  ∀(x:Nat),True->SM x/\ifB ((NI (ZE n)) != (LI m)) (Qrs n m) ((∃(x_1:Nat),QhM x_1 m n/\(Z0=(↑x_1:Int)/\True)/\QrV x n)/\∀(x_1:Nat),QhM x_1 m n->ifB (decide ((↑x_1:Int)<(LI m))) (SM x/\Bc (Z0<=(↑x_1:Int)/\(↑x_1:Int)<(NI (ZE n))) (Bc (Z0<=(↑x_1:Int)/\(↑x_1:Int)<(LI m)) (ifB (Nd.cl (List.getD (QhL n) (Int.toNat (↑x_1:Int)) V0) != GI m (Int.toNat (↑x_1:Int))) (Qrs n m) ((SM (QO0 n)/\SM (QO1 m)/\SM (D.ref N0 x N0)/\True)/\∃(y:Nat),QhM y m n/\LN m-y<LN m-x_1/\(IntKind.wrap IntKind.i64 ((↑x_1:Int)+Z1)=(↑y:Int)/\True)/\QrV x n)))) (RT (true=Bm n m)))) (by kernel_rfl) ?_
 delta DA GI LI LN N0 N1 N4 NI SI SM Z0 Z1 ZI QhL ZE Qrs ZF V0 Q7 Qrt QhM Qru Qrv Qrw Qrx Qry Qrz Qbj QrA QrB QhN QrC QrD QhO QrE QrF QhP QrG Qbl QrK QhQ XV QrR QrS QrT QrU QrV QO0 QO1 RT
 simp only[eq_self,ne_eq,implies_true,Bk,Int.toNat_natCast,Bf,Bd,decide_eq_true_eq,decide_eq_false_iff_not,true_and,and_true,beq_iff_eq,bne_iff_ne,bne_eq_false_iff_eq,beq_eq_false_iff_ne,Bool.not_eq_true',Bool.not_eq_false',exists_const,forall_const]
 simp only[<- dn]
 simp only[maxLen] at hl hm
 refine⟨fun h=>Bbs fun ⟨e,_⟩=>h (by omega),fun he=>⟨⟨0,⟨Nat.zero_le _,fun j hj=>by omega⟩,rfl⟩,fun x ⟨x1,hx⟩=>⟨fun hlt=>⟨⟨by omega,by omega⟩,⟨by omega,by omega⟩,fun h=>Bbs fun ⟨_,e⟩=>h (e x (by omega)),fun h=>⟨x+1,⟨by omega,fun j hj=>by
   by_cases e:j=x
   ·rw[e];exact h
   ·exact hx j (by omega)⟩,by omega,Ba (by omega) (by omega)⟩⟩,fun hge=>(UU.2 ⟨by omega,fun j hj=>hx j (by omega)⟩).symm⟩⟩⟩
def Be5(n:Nd):Con:=fun k ds S=>match k with
 |119=>match ds with
  | [_,.sl 1 m f _,_]=>some (pA ds S (.bool (n.ki.map Nd.cl==Bj m f)) (wkL ds [gsl 15 Nd.row1 n.ki,isl (Bj m f) .any,.fn (.func 120) [] []]/\m<=maxLen))
  |_=>none
 |_=>none
theorem Bhr{n:Nd}(h:n.ki.length<=maxLen):ConOk Tryz.prog (Be5 n):=by
 intro k ds S A hh
 unfold Be5 at hh
 split at hh
 ·split at hh
  ·injection hh with hh;subst hh
   exact Bo fun ⟨e,hm⟩=>CD.at_ (CD.wk (BoN _ _ h (by rw[BJ];exact hm)) e) _
  ·cases hh
 ·cases hh
noncomputable def Ecls(n:Nd):Senv:=EC (Be5 n) 9 3 [4] (fun _=>([],[]))
def QhR(a:Nd):List Nd:=Nd.ki a
def QrW(a:Nd):D:=D.sl 15 (LN (QhR a)) (fun i=>Nd.row1 (List.getD (QhR a) i (Nd.mk Z0 Z0 Z0 [] Z0 Z0 DA [] [] Z0 Z0 Z0))) Mode.any
def QrX:List D:=[D.fn (Fn.func (120:Nat)) [] []]
def QrY(a:List Int):List Int:=Bj (LN a) fun i=>[ZI (GI a i)]
theorem Bmj(n:Nd)(m:List Int)(hl:n.ki.length<=maxLen)(hm:m.length<=maxLen):CD 96 [.agg n.row2,isl m .any] (.bool (Bm n m)):=by
 refine Bg (A:=sC _ _) (x:=()) (E:=Ecls n) (eOk (Bhr hl) rfl) Tryz.func96 rfl (by kernel_rfl) rfl (by simp[sC,Ecls,EC,E0]) ?_
 refine Bi (T :=
  ∀(x:Nat),True->SM x/\∃(x:Unit),(wkL (QrW n::SI m::QrX) (QrW n::SI (QrY m)::QrX)/\LN m<=9223372036854775807)/\∀(y:Unit),True->RT ((List.map Nd.cl (QhR n)==QrY m)=Bm n m)) (by kernel_rfl) ?_
 delta DA GI LN N1 SI SM Z0 ZI QhR QrW QrX QrY RT
 simp only[true_and,and_true,exists_const,forall_const,B0]
 exact⟨⟨Be _,hm⟩,rfl⟩
end
end Go.Proofs.YtnlplccjbojloaaGreatDoor
