/- Functions of the given program and what each of them computes: lemmas towards the statement, their conditions stated with each of them. -/
import Derived.Test.YtnlplccjbojloaaGreatDoorS1
namespace Go.Proofs.YtnlplccjbojloaaGreatDoor
open Go Go.Ab
set_option maxRecDepth 100000
noncomputable section
def Bq(s:Sm):List Nd:=if s.kd=3 then [s.te,s.nd] else [s.nd]
def BK(n:Nd):List Nd:=n.ki++n.bo.flatMap Bq
mutual
def dpN:Nd->Nat
 |.mk _ _ _ _ _ _ _ ki bo _ _ _=>1+max (dpL ki) (dpB bo)
def dpL:List Nd->Nat
 | []=>0
 |x::r=>max (dpN x) (dpL r)
def dpB:List Sm->Nat
 | []=>0
 |x::r=>max (dpM x) (dpB r)
def dpM:Sm->Nat
 |.mk kd _ _ _ te nd=>if kd=3 then max (dpN te) (dpN nd) else dpN nd
end
mutual
def szN:Nd->Nat
 |.mk _ _ _ _ _ _ _ ki bo _ _ _=>1+szL ki+szB bo
def szL:List Nd->Nat
 | []=>0
 |x::r=>szN x+szL r
def szB:List Sm->Nat
 | []=>0
 |x::r=>szM x+szB r
def szM:Sm->Nat
 |.mk kd _ _ _ te nd=>if kd=3 then szN te+szN nd else szN nd
end
theorem UZ:∀a b:List Nd,dpL (a++b)=max (dpL a) (dpL b)
 | [],b=>by simp only[List.nil_append,dpL];omega
 |x::a,b=>by simp only[List.cons_append,dpL,UZ a b];omega
theorem IX:∀a b:List Nd,szL (a++b)=szL a+szL b
 | [],b=>by simp only[List.nil_append,szL];omega
 |x::a,b=>by simp only[List.cons_append,szL,IX a b];omega
theorem Biy(s:Sm):dpM s=dpL (Bq s):=by
 cases s with
 |mk kd at_ nm sl te nd =>
  have e:Bq (.mk kd at_ nm sl te nd)=if kd=3 then [te,nd] else [nd]:=rfl
  rw[e,dpM]
  split<;>(simp only[dpL];omega)
theorem Bih(s:Sm):szM s=szL (Bq s):=by
 cases s with
 |mk kd at_ nm sl te nd =>
  have e:Bq (.mk kd at_ nm sl te nd)=if kd=3 then [te,nd] else [nd]:=rfl
  rw[e,szM]
  split<;>(simp only[szL];omega)
theorem TF:∀l:List Sm,dpB l=dpL (l.flatMap Bq)
 | []=>by simp only[dpB,List.flatMap_nil,dpL]
 |s::l=>by rw[dpB,List.flatMap_cons,UZ,Biy,TF l]
theorem TJ:∀l:List Sm,szB l=szL (l.flatMap Bq)
 | []=>by simp only[szB,List.flatMap_nil,szL]
 |s::l=>by rw[szB,List.flatMap_cons,IX,Bih,TJ l]
theorem TU(n:Nd):dpN n=1+dpL (BK n):=by
 cases n
 simp only[dpN,BK,Nd.ki,Nd.bo,UZ,TF]
theorem MN(n:Nd):szN n=1+szL (BK n):=by
 cases n
 simp only[szN,BK,Nd.ki,Nd.bo,IX,TJ]
 omega
theorem Bf8(n:Nd):1<=dpN n:=by rw[TU];omega
theorem BaV(n:Nd):1<=szN n:=by rw[MN];omega
theorem Bbl:∀ {l:List Nd} {x:Nd},x∈l->dpN x<=dpL l
 |y::l,x,h=>by
  simp only[dpL]
  rcases List.mem_cons.1 h with rfl | h
  ·omega
  ·have:=Bbl h;omega
theorem UJ:∀ {l:List Nd} {x:Nd},x∈l->szN x<=szL l
 |y::l,x,h=>by
  simp only[szL]
  rcases List.mem_cons.1 h with rfl | h
  ·omega
  ·have:=UJ h;omega
def primL : List (List UInt8) := ["", "+", "-", "*", "%", "|", "^", "min", "max", "<", "<=", "=", "~=", ">=", ">", "and", "or", "not", "shape", "reshape", "tally", "depth", ",", "stack", "iota", "take", "drop", "first", "reverse", "rotate", "transpose", "from", "pick", "select", "amend", "up", "down", "sort", "find", "in", "unique", "where", "copy", "expand", "cut", "encode", "decode", "box", "open", "same", "kind", "ord", "chr", "format", "left", "right"].map asc
def opL : List (List UInt8) := ["", "/", "\\", "each", "swap", "outer", "inner", "rank", "power", "stencil", "atop", "over"].map asc
def Cf(p:Int):List UInt8:=if p<1\/56<=p then [] else primL.getD p.toNat []
def opT(p:Int):List UInt8:=if p<1\/12<=p then [] else opL.getD p.toNat []
def Tu(a:Arr):Bool:=a.k==0&&a.sh.isEmpty&&a.nu.isEmpty&&a.it.isEmpty
def IP(n:Nd)(k:Int):Bool :=
 n.kd==k&&decide (0<=n.at_)&&decide (0<=n.de)&&decide (0<=n.sl)&&decide (0<=n.ss)&&(n.tx.isEmpty||k==2)&&(n.pr==0||k==9)&&(n.op==0||k==17)&&(Tu n.va||k==1)&&(n.bo.isEmpty||k==10)
def Cx(n:Nd):Bool:=n.kd==0&&n.at_==0&&n.cl==0&&n.de==0&&n.sl==0&&n.ss==0&&IP n 0&&n.ki.isEmpty
def Bm(n:Nd)(l:List Int):Bool:=n.ki.map Nd.cl==l
def C6(n:Nd):Bool :=
 n.ki.isEmpty&&(
  if n.kd=1 then n.cl==1&&(Bw n.va).1==0&&((n.va.sh.isEmpty&&n.va.k != 3)||(n.va.sh.length==1&&n.va.k==2))
  else if n.kd=2 then decide (1<=n.cl)&&decide (n.cl<=4)&&Cd n.tx
  else if n.kd=6\/n.kd=7\/n.kd=8 then n.cl==1
  else if n.kd=9 then n.cl==2&&!(Cf n.pr).isEmpty
  else if n.kd=11\/n.kd=12\/n.kd=13 then n.cl==2
  else if n.kd=17 then n.cl==(if n.op<=5 then 3 else 4)&&!(opT n.op).isEmpty
  else false)
def IE(n:Nd):Int:=if (n.ki.getD 0 default).kd=17/\((n.ki.getD 0 default).op=7\/(n.ki.getD 0 default).op=8\/(n.ki.getD 0 default).op=9) then 1 else 2
def CQ(n:Nd):Bool :=
 if n.kd=3 then n.cl==1&&decide (2<=n.ki.length)&&decide (n.ki.length<=1000)&&Bm n (List.replicate n.ki.length 1)
 else if n.kd=4 then n.cl==1&&Bm n [2,1]
 else if n.kd=5 then n.cl==1&&Bm n [2,1,1]
 else if n.kd=14 then n.cl==2&&Bm n [3,2]
 else if n.kd=15 then n.cl==2&&Bm n [4,2,IE n]
 else if n.kd=16 then n.cl==2&&(Bm n [2,2]||Bm n [2,2,2]||Bm n [1,2,2])
 else false
mutual
/-- A kind of leaf occurs outside inner lambdas. -/
def Im(k:Int):Nd->Bool
 |.mk kd _ _ _ _ _ _ ki _ _ _ _=>kd==k||(kd != 10&&BlI k ki)
def BlI(k:Int):List Nd->Bool
 | []=>false
 |x::r=>Im k x||BlI k r
end
def ER(l:List Sm)(k:Int):Bool:=l.any fun s=>(Bq s).any (Im k)
def Ts(n:Nd):Bool :=
 n.ki.isEmpty&&!n.bo.isEmpty&&(n.bo.getD (n.bo.length-1) default).kd==1 &&
  (if n.cl=2 then !(ER n.bo 12)&&!(ER n.bo 13) else if n.cl=3 then ER n.bo 12&&!(ER n.bo 13) else if n.cl=4 then ER n.bo 13 else false)
def CD(k:Nat)(ds:List D)(d:D):Prop:=ACalls Tryz.prog k ds ⟨[],[]⟩ (SpecR (sC ds d) ())
def CS(k:Nat)(ds:List D)(S:St)(d:D):Prop:=ACalls Tryz.prog k ds S (fun r S'=>r=.ret d/\S'=S)
theorem CS.frame{k:Nat}{ds:List D}{S:St}{d:D}(F:St)(h:CS k ds S d):CS k ds (S.add F) d:=by
 refine ((ACalls.frame h F).from fun C F' w H=>H).mono ?_
 rintro r S' ⟨S0,⟨rfl,rfl⟩,rfl⟩
 exact⟨rfl,rfl⟩
theorem CD.at_{k:Nat}{ds:List D}{d:D}(h:CD k ds d)(S:St):CS k ds S d:=ACalls.whole S h
theorem CS.wk{k:Nat}{ds us:List D}{S:St}{d:D}(h:CS k us S d)(hw:wkL ds us):CS k ds S d:=ACalls.wkArgs h hw
theorem CS.cd{k:Nat}{ds:List D}{d:D}(h:CS k ds ⟨[],[]⟩ d):CD k ds d:=ACalls.mono h fun _ _ ⟨h1,h2⟩=>⟨(),trivial,h1,h2⟩
theorem Co{k : Nat}{β : Type}{ds : List D}{S : St}{d : β -> D}{p : β -> Prop}(h : ∀x, p x -> CS k ds S (d x)) :
  (∀x,(pE ds S d p).pre x->ACalls Tryz.prog k ((pE ds S d p).args x) ((pE ds S d p).st x) (SpecR (pE ds S d p) x))/\(∀x,(pE ds S d p).fit=some x->(pE ds S d p).pre x->BD ds ((pE ds S d p).args x)/\leS ((pE ds S d p).st x) S)/\((pE ds S d p).all=true->∀x,(pE ds S d p).pre x->BD ds ((pE ds S d p).args x)/\(pE ds S d p).st x=S) :=
 ⟨fun x hp=>ACalls.mono (h x hp) fun _ _ ⟨h1,h2⟩=>⟨(),trivial,h1,h2⟩,fun _ e=>(by cases e),fun _ _ _=>⟨Bk ds,rfl⟩⟩
def pA(ds:List D)(S:St)(d:D)(p:Prop):FnSpec:=pE (β:=Unit) ds S (fun _=>d) fun _=>p
theorem Bo{k : Nat}{ds : List D}{S : St}{d : D}{p : Prop}(h : p -> CS k ds S d) :
  (∀x,(pA ds S d p).pre x->ACalls Tryz.prog k ((pA ds S d p).args x) ((pA ds S d p).st x) (SpecR (pA ds S d p) x))/\(∀x,(pA ds S d p).fit=some x->(pA ds S d p).pre x->BD ds ((pA ds S d p).args x)/\leS ((pA ds S d p).st x) S)/\((pA ds S d p).all=true->∀x,(pA ds S d p).pre x->BD ds ((pA ds S d p).args x)/\(pA ds S d p).st x=S) :=
 Co fun _ hp=>h hp
def sS(ds:List D)(S:St)(d:D):FnSpec where
 β:=Unit
 α:=Unit
 args:=fun _=>ds
 st:=fun _=>S
 pre:=fun _=>True
 post:=fun _ _=>True
 res:=fun _ _=>.ret d
 out:=fun _ _=>S
theorem CS.of{k:Nat}{ds:List D}{S:St}{d:D}(h:ACalls Tryz.prog k ((sS ds S d).args ()) ((sS ds S d).st ()) (SpecR (sS ds S d) ())):CS k ds S d :=
 ACalls.mono h fun _ _ ⟨_,_,h2,h3⟩=>⟨h2,h3⟩
theorem CS.to{k:Nat}{ds:List D}{S S':St}{d:D}(h:CS k ds S' d)(h1:StTo S S')(h2:StTo S' S):CS k ds S d :=
 ACalls.to (ACalls.from h h1) fun r S0 ⟨e1,e2⟩=>⟨S,by rw[e2];exact h2,e1,rfl⟩
theorem CS.front{k:Nat}{ds:List D}{os:List (Nat×Nat×AObj)}{d:D}(o:Nat×Nat×AObj)(h:CS k ds ⟨os,[]⟩ d):CS k ds ⟨o::os,[]⟩ d:=by
 have p:List.Perm (os.map (·.2)++[o.2]) (o.2::os.map (·.2)):=List.perm_append_singleton _ _
 refine CS.to (CS.frame ⟨[o],[]⟩ h) (StTo.perm (r1:=[]) (r2:=[]) ?_ ?_) (StTo.perm (r1:=[]) (r2:=[]) ?_ ?_)
 ·simp[St.add]
 ·simp[St.add]
 ·simpa[St.add] using p.symm
 ·simp[St.add]
def En{α:Type}(p:α->Bool):List α->Int->Int
 | [],_=>-1
 |x::r,i=>if p x then i else En p r (i+1)
theorem Ez{α:Type}(p:α->Bool):∀(l:List α) (i:Int),0<=i->(decide (0<=En p l i))=l.any p
 | [],i,_=>by simp[En]
 |x::r,i,h=>by
  rw[En]
  by_cases hx:p x=true
  ·rw[if_pos hx];simp[hx,h]
  ·rw[if_neg hx,Ez p r (i+1) (by omega)];simp[hx]
structure IdxG {α:Type} (p:α->Bool) (l:List α) (i:Nat):Prop where
 hi:i<=l.length
 hg:En p (l.drop i) i=En p l 0
theorem IdxG.step{α:Type}[Inhabited α]{p:α->Bool}{l:List α}{i:Nat}(h:IdxG p l i)(hlt:i<l.length):(p (l.getD i default)=true->En p l 0=i)/\(p (l.getD i default)=false->IdxG p l (i+1)):=by
 have hg:=h.hg
 rw[Gi hlt,En] at hg
 refine⟨fun e=>?_,fun e=>?_⟩
 ·rw[if_pos e] at hg;exact hg.symm
 ·rw[if_neg (by rw[e];exact Bool.false_ne_true)] at hg;exact⟨by omega,hg⟩
theorem IdxG.done{α:Type}{p:α->Bool}{l:List α}{i:Nat}(h:IdxG p l i)(hge:¬(i:Int)<l.length):En p l 0 = -1:=by
 have hg:=h.hg
 have:i=l.length:=by have:=h.hi;omega
 rw[this,List.drop_length,En] at hg
 exact hg.symm
def isN(b:Nd)(ds:List D)(ex:List D):Prop:=wkL ds (.agg b.row1::ex)
def isN2(b:Nd)(ds:List D)(ex:List D):Prop:=wkL ds (.agg b.row2::ex)
def isS(b:Sm)(ds:List D)(ex:List D):Prop:=wkL ds (.agg b.row1::ex)
theorem CD.wk{k:Nat}{ds us:List D}{d:D}(h:CD k us d)(hw:wkL ds us):CD k ds d:=Bqe hw h
theorem Bl(n:Nd)(ex:List D):isN n (.agg n.row1::ex) ex:=Be _
theorem CJ(n:Nd)(ex:List D):isN2 n (.agg n.row2::ex) ex:=Be _
theorem Ir(s:Sm)(ex:List D):isS s (.agg s.row1::ex) ex:=Be _
theorem CD.down{k:Nat}{n:Nd}{ex:List D}{d:D}(h:CD k (.agg n.row2::ex) d):CD k (.agg n.row1::ex) d :=
 h.wk (by simp only[wkL,wkD];exact⟨Mq n,Be _⟩)
theorem CD.isN{k:Nat}{n:Nd}{ds ex:List D}{d:D}(h:CD k (.agg n.row2::ex) d)(hi:isN n ds ex):CD k ds d:=h.down.wk hi
theorem CD.isN2{k:Nat}{n:Nd}{ds ex:List D}{d:D}(h:CD k (.agg n.row2::ex) d)(hi:isN2 n ds ex):CD k ds d:=h.wk hi
theorem BX{l:List Nd}{i:Nat}(h:i<l.length):l.getD i default∈l:=by
 rw[List.getD_eq_getElem?_getD,List.getElem?_eq_getElem h];exact List.getElem_mem h
theorem C3{l:List Sm}{i:Nat}(h:i<l.length):l.getD i default∈l:=by
 rw[List.getD_eq_getElem?_getD,List.getElem?_eq_getElem h];exact List.getElem_mem h
mutual
def Bz:Nd->Bool
  | .mk kd at_ cl tx pr op va ki bo de sl ss =>
    IP (.mk kd at_ cl tx pr op va ki bo de sl ss) kd &&
      (if kd = 10 then Ts (.mk kd at_ cl tx pr op va ki bo de sl ss) && (decide (bo.length <= 1000) && Cc true [] bo)
       else C6 (.mk kd at_ cl tx pr op va ki bo de sl ss) || (CQ (.mk kd at_ cl tx pr op va ki bo de sl ss) && W1 ki))
def W1:List Nd->Bool
 | []=>true
 |x::r=>Bz x&&W1 r
def Cc(g:Bool)(names:List (List UInt8)):List Sm->Bool
 | []=>true
 |x::r=>Th g names x&&Cc g (if x.kd=2 then names++[x.nm] else names) r
def Th(g:Bool)(names:List (List UInt8)):Sm->Bool
  | .mk kd at_ nm sl te nd => decide (0 <= at_) && Bz nd &&
    (if kd = 1 then nd.cl == 1 && nm.isEmpty && sl == 0 && Cx te
     else if kd = 2 then Cd nm && !(names.contains nm) && (nd.cl == 1 || nd.cl == 2 || nd.kd == 10) && decide (0 <= sl) && Cx te
     else if kd = 3 then g && Bz te && te.cl == 1 && nd.cl == 1 && nm.isEmpty && sl == 0
     else false)
end
def BP(g:Bool)(l:List Sm):Bool:=decide (l.length<=1000)&&Cc g [] l
theorem CH(n:Nd):Bz n=(IP n n.kd&&(if n.kd=10 then Ts n&&BP true n.bo else C6 n||(CQ n&&n.ki.all Bz))):=by
 have e:∀l:List Nd,W1 l=l.all Bz:=by
  intro l
  induction l with
  |nil=>simp only[W1,List.all_nil]
  |cons x r ih=>simp only[W1,List.all_cons,ih]
 cases n
 simp only[Bz,e]
 rfl
theorem Gy(g : Bool)(names : List (List UInt8))(s : Sm) : Th g names s = (decide (0 <= s.at_) && Bz s.nd &&
    (if s.kd = 1 then s.nd.cl == 1 && s.nm.isEmpty && s.sl == 0 && Cx s.te
     else if s.kd = 2 then Cd s.nm && !(names.contains s.nm) && (s.nd.cl == 1 || s.nd.cl == 2 || s.nd.kd == 10) && decide (0 <= s.sl) && Cx s.te
     else if s.kd = 3 then g && Bz s.te && s.te.cl == 1 && s.nd.cl == 1 && s.nm.isEmpty && s.sl == 0
     else false)) := by
  cases s
  simp only [Th]
  rfl
def RK(l:List Sm):Bool:=[6,7,11,12,13].any fun k=>ER l k
def BU(n:Nd):Int:=if 60<dpN n then 8 else if 16384<szN n then 21 else if Bz n=true then 0 else 11
def BoN(n:Nd):Int:=if BU n≠0 then BU n else if RK [.mk 1 0 [] 0 nd0 n]=true then 11 else 0
def B1(l:List Sm):Int :=
 if 1000<l.length then 2 else if 60<dpB l then 8 else if 16384<szB l then 21
 else if (BP false l&&!RK l)=true then 0 else 11
def TP(n:Nd):Bool:=decide (0<=n.at_)&&decide (0<=n.de)&&decide (0<=n.sl)&&decide (0<=n.ss)
def Gn(n:Nd)(tx pr op va ki bo:Bool):Bool:=(tx||n.tx.isEmpty)&&(pr||n.pr==0)&&(op||n.op==0)&&(va||Tu n.va)&&(ki||n.ki.isEmpty)&&(bo||n.bo.isEmpty)
def EF(op:Int):Int:=if op<1\/11<op then 0 else if op<=5 then 3 else 4
def O5(n:Nd):Bool :=
 if n.kd=1 then Gn n false false false true false false&&n.cl==1&&(Bw n.va).1==0&&((n.va.sh.isEmpty&&n.va.k != 3)||(n.va.sh.length==1&&n.va.k==2))
 else if n.kd=2 then Gn n true false false false false false&&Cd n.tx&&decide (1<=n.cl)&&decide (n.cl<=4)
 else if n.kd=6\/n.kd=7\/n.kd=8 then Gn n false false false false false false&&n.cl==1
 else if n.kd=9 then Gn n false true false false false false&&n.cl==2&&decide (1<=n.pr)&&decide (n.pr<=55)
 else if n.kd=11\/n.kd=12\/n.kd=13 then Gn n false false false false false false&&n.cl==2
 else if n.kd=17 then Gn n false false true false false false&&EF n.op != 0&&n.cl==EF n.op
 else false
def Gh(n:Nd):Bool := Gn n false false false false true false &&
  (if n.kd = 3 then Bm n (List.replicate n.ki.length 1) && n.cl == 1 && decide (2 <= n.ki.length) && decide (n.ki.length <= 1000)
   else if n.kd = 4 then n.cl == 1 && Bm n [2,1]
   else if n.kd = 5 then n.cl == 1 && Bm n [2,1,1]
   else if n.kd = 14 then n.cl == 2 && Bm n [3,2]
   else if n.kd = 15 then n.cl == 2 && Bm n [4,2,IE n]
   else if n.kd = 16 then n.cl == 2 && (Bm n [2,2] || Bm n [2,2,2] || Bm n [1,2,2])
   else false)
theorem BcE(p:Int):(Cf p).isEmpty=!(decide (1<=p)&&decide (p<=55)):=by
 have h:∀n,n<56->(primL.getD n []).isEmpty=!(decide (1<=n)):=by decide +kernel
 unfold Cf
 split
 ·rename_i hc
  have:(decide (1<=p)&&decide (p<=55))=false:=by
   rw[Bool.and_eq_false_iff,decide_eq_false_iff_not,decide_eq_false_iff_not];omega
  rw[this];rfl
 ·rename_i hc
  have:(decide (1<=p)&&decide (p<=55))=true:=by
   rw[Bool.and_eq_true,decide_eq_true_eq,decide_eq_true_eq];omega
  rw[this,h _ (by omega)]
  have:(1:Nat)<=p.toNat:=by omega
  simp[this]
theorem Bjb(p:Int):(opT p).isEmpty=!(decide (1<=p)&&decide (p<=11)):=by
 have h:∀n,n<12->(opL.getD n []).isEmpty=!(decide (1<=n)):=by decide +kernel
 unfold opT
 split
 ·rename_i hc
  have:(decide (1<=p)&&decide (p<=11))=false:=by
   rw[Bool.and_eq_false_iff,decide_eq_false_iff_not,decide_eq_false_iff_not];omega
  rw[this];rfl
 ·rename_i hc
  have:(decide (1<=p)&&decide (p<=11))=true:=by
   rw[Bool.and_eq_true,decide_eq_true_eq,decide_eq_true_eq];omega
  rw[this,h _ (by omega)]
  have:(1:Nat)<=p.toNat:=by omega
  simp[this]
theorem BdR(n:Nd):IP n n.kd=(TP n&&(n.tx.isEmpty||n.kd==2)&&(n.pr==0||n.kd==9)&&(n.op==0||n.kd==17)&&(Tu n.va||n.kd==1)&&(n.bo.isEmpty||n.kd==10)):=by
 unfold IP TP
 simp
theorem Bi7(op:Int):(EF op != 0)=(decide (1<=op)&&decide (op<=11))/\((EF op != 0)=true->EF op=if op<=5 then 3 else 4):=by
 unfold EF
 by_cases h:op<1\/11<op
 ·rw[if_pos h]
  have:(decide (1<=op)&&decide (op<=11))=false:=by
   rw[Bool.and_eq_false_iff,decide_eq_false_iff_not,decide_eq_false_iff_not];omega
  rw[this]
  exact⟨rfl,fun h=>by cases h⟩
 ·rw[if_neg h]
  have:(decide (1<=op)&&decide (op<=11))=true:=by
   rw[Bool.and_eq_true,decide_eq_true_eq,decide_eq_true_eq];omega
  rw[this]
  refine⟨?_,fun _=>rfl⟩
  split<;>rfl
theorem Bj3(n:Nd)(v:Bool)(h:n.kd≠10):(TP n&&(O5 n||(Gh n&&v)))=(IP n n.kd&&(C6 n||(CQ n&&v))):=by
 rw[BdR]
 obtain ⟨o1,o2⟩:=Bi7 n.op
 have h10:(n.kd==10)=false:=by simpa using h
 cases hp:TP n with
 |false=>simp
 |true =>
  unfold O5 Gh C6 CQ Gn
  by_cases e1:n.kd=1
  ·simp[e1]
   cases n.tx.isEmpty<;>cases n.ki.isEmpty<;>cases n.bo.isEmpty<;>simp
   ac_rfl
  by_cases e2:n.kd=2
  ·simp[e2]
   cases n.ki.isEmpty<;>cases n.bo.isEmpty<;>simp
   ac_rfl
  by_cases e3:n.kd=3
  ·simp[e3]
   cases n.tx.isEmpty<;>cases n.bo.isEmpty<;>simp
   ac_rfl
  by_cases e4:n.kd=4
  ·simp[e4]
   cases n.tx.isEmpty<;>cases n.bo.isEmpty<;>simp
   ac_rfl
  by_cases e5:n.kd=5
  ·simp[e5]
   cases n.tx.isEmpty<;>cases n.bo.isEmpty<;>simp
   ac_rfl
  by_cases e6:n.kd=6\/n.kd=7\/n.kd=8
  ·rcases e6 with e | e | e <;>
   ·simp[e]
    cases n.tx.isEmpty<;>cases n.ki.isEmpty<;>cases n.bo.isEmpty<;>simp
  by_cases e9:n.kd=9
  ·simp[e9,BcE]
   cases n.tx.isEmpty<;>cases n.ki.isEmpty<;>cases n.bo.isEmpty<;>simp
   ac_rfl
  by_cases e11:n.kd=11\/n.kd=12\/n.kd=13
  ·rcases e11 with e | e | e <;>
   ·simp[e]
    cases n.tx.isEmpty<;>cases n.ki.isEmpty<;>cases n.bo.isEmpty<;>simp
  by_cases e14:n.kd=14
  ·simp[e14]
   cases n.tx.isEmpty<;>cases n.bo.isEmpty<;>simp
   ac_rfl
  by_cases e15:n.kd=15
  ·simp[e15]
   cases n.tx.isEmpty<;>cases n.bo.isEmpty<;>simp
   ac_rfl
  by_cases e16:n.kd=16
  ·simp[e16]
   cases n.tx.isEmpty<;>cases n.bo.isEmpty<;>simp
   ac_rfl
  by_cases e17:n.kd=17
  ·simp only[e17]
   rw[Bjb,<- o1]
   cases ho:EF n.op != 0 with
   |false=>simp
   |true =>
    rw[o2 ho]
    simp
    cases n.tx.isEmpty<;>cases n.ki.isEmpty<;>cases n.bo.isEmpty<;>simp
  ·simp only[e1,e2,e3,e4,e5,e6,e9,e11,e14,e15,e16,e17,if_false]
   simp
mutual
def Ce(k:Int):Nd->Bool
 |.mk kd _ _ _ _ _ _ ki _ _ _ _=>kd==k||Bdv k ki
def Bdv(k:Int):List Nd->Bool
 | []=>false
 |x::r=>Ce k x||Bdv k r
end
def Eq(l:List Sm)(k:Int):Bool:=l.any fun s=>Ce k s.te||Ce k s.nd
theorem Baq(k:Int):∀l:List Nd,Bdv k l=l.any (Ce k)
 | []=>by simp only[Bdv,List.any_nil]
 |x::r=>by simp only[Bdv,List.any_cons,Baq k r]
theorem Bcj(k:Int):∀l:List Nd,BlI k l=l.any (Im k)
 | []=>by simp only[BlI,List.any_nil]
 |x::r=>by simp only[BlI,List.any_cons,Bcj k r]
theorem Wq(k:Int)(n:Nd):Ce k n=(n.kd==k||n.ki.any (Ce k)):=by
 cases n
 simp only[Ce,Baq]
 rfl
theorem Bf9(k:Int)(n:Nd):Im k n=(n.kd==k||(n.kd != 10&&n.ki.any (Im k))):=by
 cases n
 simp only[Im,Bcj]
 rfl
theorem TK{α:Type}{p q:α->Bool}:∀ {l:List α},(∀x∈l,p x=q x)->l.any p=l.any q
 | [],_=>rfl
 |x::l,h=>by
  simp only[List.any_cons]
  rw[h x (by simp),TK fun y hy=>h y (by simp[hy])]
theorem Nd.size_kid{n x:Nd}(h:x∈n.ki):SizeOf.sizeOf x<SizeOf.sizeOf n:=by
 cases n with
 |mk kd at_ cl tx pr op va ki bo de sl ss =>
  have:=List.sizeOf_lt_of_mem (show x∈ki from h)
  simp only[Nd.mk.sizeOf_spec]
  omega
theorem Nd.size_stmt{n:Nd}{s:Sm}(h:s∈n.bo):SizeOf.sizeOf s<SizeOf.sizeOf n:=by
 cases n with
 |mk kd at_ cl tx pr op va ki bo de sl ss =>
  have:=List.sizeOf_lt_of_mem (show s∈bo from h)
  simp only[Nd.mk.sizeOf_spec]
  omega
theorem Sm.size_te(s:Sm):SizeOf.sizeOf s.te<SizeOf.sizeOf s:=by
 cases s
 simp only[Sm.te,Sm.mk.sizeOf_spec]
 omega
theorem Sm.size_nd(s:Sm):SizeOf.sizeOf s.nd<SizeOf.sizeOf s:=by
 cases s
 simp only[Sm.nd,Sm.mk.sizeOf_spec]
 omega
theorem EI{n:Nd}(h:Bz n=true):(∀x∈n.ki,Bz x=true)/\(n.kd=10->n.ki=[]):=by
 rw[CH,Bool.and_eq_true] at h
 have h:=h.2
 by_cases hk:n.kd=10
 ·rw[if_pos hk,Bool.and_eq_true] at h
  have h1:=h.1
  unfold Ts at h1
  simp only[Bool.and_eq_true,List.isEmpty_iff] at h1
  have e:n.ki=[]:=h1.1.1.1
  exact⟨fun x hx=>by rw[e] at hx;simp at hx,fun _=>e⟩
 ·rw[if_neg hk,Bool.or_eq_true,Bool.and_eq_true] at h
  refine⟨fun x hx=>?_,fun e=>(hk e).elim⟩
  rcases h with h | h
  ·unfold C6 at h
   simp only[Bool.and_eq_true,List.isEmpty_iff] at h
   rw[h.1] at hx
   simp at hx
  ·exact List.all_eq_true.1 h.2 x hx
theorem OE(k:Int)(n:Nd)(h:Bz n=true):Ce k n=Im k n:=by
 obtain ⟨h1,h2⟩:=EI h
 rw[Wq,Bf9]
 have e:n.ki.any (Ce k)=n.ki.any (Im k):=TK fun x hx=>by
  have:=Nd.size_kid hx
  exact OE k x (h1 x hx)
 rw[e]
 by_cases hk:n.kd=10
 ·rw[h2 hk];simp
 ·have:(n.kd != 10)=true:=by simpa using hk
  rw[this,Bool.true_and]
termination_by SizeOf.sizeOf n
theorem Bis{n:Nd}{k:Int}(h:Cx n=true)(hk:k≠0):Ce k n=false:=by
 unfold Cx at h
 simp only[Bool.and_eq_true,beq_iff_eq,List.isEmpty_iff] at h
 obtain ⟨⟨⟨⟨⟨⟨⟨h1,_⟩,_⟩,_⟩,_⟩,_⟩,_⟩,h2⟩:=h
 rw[Wq,h1,h2]
 have:((0:Int)==k)=false:=by simpa using fun e=>hk e.symm
 rw[this];rfl
theorem Ep{g:Bool}:∀ {l:List Sm} {names:List (List UInt8)},Cc g names l=true->∀s∈l,Bz s.nd=true/\((s.kd=3/\Bz s.te=true/\g=true)\/(s.kd≠3/\Cx s.te=true))
 | [],_,_,s,hs=>by simp at hs
 |x::r,names,h,s,hs=>by
  simp only[Cc,Bool.and_eq_true] at h
  rcases List.mem_cons.1 hs with rfl | hs
  ·have h:=h.1
   rw[Gy] at h
   simp only[Bool.and_eq_true] at h
   refine⟨h.1.2,?_⟩
   have h:=h.2
   by_cases h1:s.kd=1
   ·rw[if_pos h1] at h
    simp only[Bool.and_eq_true] at h
    exact .inr ⟨by omega,h.2⟩
   ·rw[if_neg h1] at h
    by_cases h2:s.kd=2
    ·rw[if_pos h2] at h
     simp only[Bool.and_eq_true] at h
     exact .inr ⟨by omega,h.2⟩
    ·rw[if_neg h2] at h
     by_cases h3:s.kd=3
     ·rw[if_pos h3] at h
      simp only[Bool.and_eq_true] at h
      exact .inl ⟨h3,h.1.1.1.1.2,h.1.1.1.1.1⟩
     ·rw[if_neg h3] at h;cases h
  ·exact Ep h.2 s hs
theorem Gj{g:Bool}{l:List Sm}(h:BP g l=true){k:Int}(hk:k≠0):Eq l k=ER l k:=by
 unfold BP at h
 rw[Bool.and_eq_true] at h
 unfold Eq ER
 refine TK fun s hs=>?_
 obtain ⟨h1,h2⟩:=Ep h.2 s hs
 unfold Bq
 rcases h2 with ⟨h3,h4,_⟩ | ⟨h3,h4⟩
 ·rw[if_pos h3,OE k _ h1,OE k _ h4]
  simp
 ·rw[if_neg h3,OE k _ h1,Bis h4 hk]
  simp
def WY(n:Nd):Bool:=Gn n false false false false false true&&!n.bo.isEmpty&&(n.bo.getD (n.bo.length-1) default).kd==1&&BP true n.bo &&
 (if Eq n.bo 13=true then n.cl==4 else if Eq n.bo 12=true then n.cl==3 else n.cl==2)
theorem Bnc(n:Nd)(h:n.kd=10):(TP n&&WY n)=(IP n n.kd&&(Ts n&&BP true n.bo)):=by
 rw[BdR]
 have e2:(n.kd==2)=false:=by rw[h];rfl
 have e9:(n.kd==9)=false:=by rw[h];rfl
 have e17:(n.kd==17)=false:=by rw[h];rfl
 have e1:(n.kd==1)=false:=by rw[h];rfl
 have e10:(n.kd==10)=true:=by rw[h];rfl
 rw[e2,e9,e17,e1,e10]
 unfold WY Ts Gn
 cases hb:BP true n.bo with
 |false=>simp
 |true =>
  rw[Gj hb (by decide),Gj hb (by decide)]
  cases ER n.bo 12<;>cases ER n.bo 13<;>cases n.ki.isEmpty<;>cases n.bo.isEmpty<;>simp
  all_goals first
   |ac_rfl
   |skip
  all_goals by_cases c2:n.cl=2<;>by_cases c3:n.cl=3<;>by_cases c4:n.cl=4<;>simp[c2,c3,c4]<;>first | omega | ac_rfl
theorem Bhl(n:Nd):Bz n=(TP n&&(if n.kd=10 then WY n else O5 n||(Gh n&&n.ki.all Bz))):=by
 rw[CH]
 by_cases h:n.kd=10
 ·rw[if_pos h,if_pos h,Bnc n h]
 ·rw[if_neg h,if_neg h,Bj3 n _ h]
theorem Bld{α:Type}[Inhabited α]{g:α->List D}{l r:List α}(i:Nat):BN l.length (fun i=>g (l.getD i default)) (fun i=>g (r.getD i default)) i=g ((l++r).getD i default):=by
 unfold BN
 split
 ·rename_i h
  simp[List.getD_eq_getElem?_getD,List.getElem?_append_left h,h]
 ·rename_i h
  simp[List.getD_eq_getElem?_getD,List.getElem?_append_right (Nat.le_of_not_lt h)]
theorem G2(s:Sm):(Bq s).length<=2:=by
 unfold Bq
 split<;>simp
theorem We:∀l:List Sm,(l.flatMap Bq).length<=2*l.length
 | []=>by simp
 |s::l=>by
  have:=We l
  have:=G2 s
  simp only[List.flatMap_cons,List.length_append,List.length_cons]
  omega
theorem Bin(n:Nd):(BK n).length<=n.ki.length+2*n.bo.length:=by
 have:=We n.bo
 simp only[BK,List.length_append]
 omega
theorem Bay{l:List Sm}{i:Nat}(h:i<l.length):(l.take (i+1)).flatMap Bq=(l.take i).flatMap Bq++Bq (l.getD i default):=by
 rw[B6 h,List.flatMap_append]
 simp
noncomputable def Epa:Senv:=EC EB 14 3 [5] (fun _=>([],[]))
def QQ(a:Sm):Nd:=Sm.te a
def QaF:Arr:=DA
def XH:Nd:=Nd.mk Z0 Z0 Z0 [] Z0 Z0 QaF [] [] Z0 Z0 Z0
def QR(a:Sm):Nd:=Sm.nd a
def QoU(a:Sm):List (List D):=[(Nd.rowE (QR a))]
def QS(a:Sm)(b:Nat):Nd:=List.getD (Bq a) b XH
def QoY(a:Sm)(b:Nat):List D:=(Nd.rowE (QS a b))
theorem BkE(s:Sm):CD 29 [.agg s.row1] (gsl 15 Nd.row1 (Bq s)):=by
 refine Bg (A:=sC _ _) (x:=()) (E:=Epa) (eOk BM rfl) Tryz.func29 rfl (by kernel_rfl) rfl (by simp[sC,Epa,EC,E0]) ?_
 refine Bi (T :=
  ∀(x:Nat),True->SM x/\ifB (Sm.kd s==3) (SM x/\SM x/\True/\∃(y:Unit),True/\(N2=LN (Bq s)/\(∀(i:Nat),i<N2->List.getD ((Nd.rowE (QQ s))::QoU s) i []=QoY s i)/\True)/\True/\True) (SM x/\True/\∃(y:Unit),True/\(N1=LN (Bq s)/\(∀(i:Nat),i<N1->List.getD (QoU s) i []=QoY s i)/\True)/\True/\True)) (by kernel_rfl) ?_
 delta DA GI LN N1 N2 N4 SI SM Z0 ZI QQ QR QoU QS QoY QaF XH
 simp only[Bf,beq_iff_eq,beq_eq_false_iff_ne,true_and,and_true,exists_const]
 refine fun x _=>⟨fun h=>?_,fun h=>?_⟩
 ·have e:Bq s=[s.te,s.nd]:=if_pos h
  rw[e]
  refine⟨rfl,fun i hi=>?_⟩
  match i,hi with
  |0,_=>rfl
  |1,_=>rfl
 ·have e:Bq s=[s.nd]:=if_neg h
  rw[e]
  refine⟨rfl,fun i hi=>?_⟩
  match i,hi with
  |0,_=>rfl
def Bj5(_n:Nd):Con:=fun k ds S=>match k with
 |29=>some (pE (β:=Sm) ds S (fun s=>gsl 15 Nd.row1 (Bq s)) (fun s=>isS s ds []))
 |_=>none
theorem BjV(n:Nd):ConOk Tryz.prog (Bj5 n):=by
 intro k ds S A h
 unfold Bj5 at h
 split at h
 ·injection h with h;subst h
  exact Co fun s e=>CD.at_ (CD.wk (BkE s) e) _
 ·cases h
noncomputable def Ein0(n:Nd):Senv:={ EC (Bj5 n) 26 4 [5,9,10,11,12] (fun id=>match id with | 5=>([0,1,2,3,4,6,5,7,8,9],[5,7,8]) | _=>([],[])) with
 ann:=fun b _ S=>match b with
  |0=>some { slots:=[11,3],keep:=[0,1,9,10],α:=Nat×List Nd,st:=fun y=>([.int .i64 y.1,gsl 15 Nd.row1 y.2],S),inv:=fun y=>y.1<=n.bo.length/\y.2=n.ki++(n.bo.take y.1).flatMap Bq,mu:=fun y=>n.bo.length-y.1 }
  |_=>none }
def QaI(a:Nd):List Sm:=Nd.bo a
def VV(a:Nd):Nat:=LN (QaI a)
def Qg3(a:Nd):List Nd:=Nd.ki a
def Qg4(a:Nat)(b:Nd)(c:List Nd):Prop:=a<=VV b/\c=Qg3 b++List.flatMap Bq (List.take a (QaI b))
def Zp(a:Nd):Nat:=LN (Qg3 a)
def XI:Arr:=DA
def JN:Nd:=Nd.mk Z0 Z0 Z0 [] Z0 Z0 XI [] [] Z0 Z0 Z0
def Qg5(a:Nd)(b:Nat):List D:=Nd.row1 (List.getD (Qg3 a) b JN)
def QaJ(a:List Nd)(b:Nat):List D:=Nd.row1 (List.getD a b JN)
def QoZ(a:Nd):Int:=Nd.kd a
def Qo0(a:Nd):Int:=Nd.at_ a
def Qo1(a:Nd):Int:=Nd.cl a
def Qo2(a:Nd):List UInt8:=Nd.tx a
def Qo3(a:Nd):Int:=Nd.pr a
def Qo4(a:Nd):Int:=Nd.op a
def QaK(a:Nd):Arr:=Nd.va a
def Qo5(a:Nd):Int:=Arr.k (QaK a)
def Qo6(a:Nd):List Int:=Arr.sh (QaK a)
def Qg6(a:Nd):Nat:=LN (Qo6 a)
def Qo7(a:Nd)(b:Nat):List D:=[ZI (GI (Qo6 a) b)]
def Qo8(a:Nd):List Int:=Arr.nu (QaK a)
def Qg7(a:Nd):Nat:=LN (Qo8 a)
def Qo9(a:Nd)(b:Nat):List D:=[ZI (GI (Qo8 a) b)]
def Qpa(a:Nd):List Arr:=Arr.it (QaK a)
def Qg8(a:Nd):Nat:=LN (Qpa a)
def Qpb(a:Nd)(b:Nat):List D:=Arr.row (List.getD (Qpa a) b XI)
def XJ:Sm:=Sm.mk Z0 Z0 [] Z0 JN JN
def XK(a:Nd)(b:Nat):Sm:=List.getD (QaI a) b XJ
def Qpi(a:Nd)(b:Nat):List D:=(Sm.row1 (XK a b))
def Qpj(a:Nd):Int:=Nd.de a
def Qpk(a:Nd):Int:=Nd.sl a
def Qpl(a:Nd):Int:=Nd.ss a
def Qpm(a:Nat)(b:Nd):Prop:=(SM a/\(SM (QoZ b)/\SM (Qo0 b)/\SM (Qo1 b)/\SM (Qo2 b)/\SM (Qo3 b)/\SM (Qo4 b)/\SM (Qo5 b)/\(SM (Qg6 b)/\(∀(i:Nat),i<Qg6 b->SM (Qo7 b i))/\True)/\(SM (Qg7 b)/\(∀(i:Nat),i<Qg7 b->SM (Qo9 b i))/\True)/\(SM (Qg8 b)/\(∀(i:Nat),i<Qg8 b->SM (Qpb b i))/\True)/\(SM (Zp b)/\(∀(i:Nat),i<Zp b->SM (Qg5 b i))/\True)/\(SM (VV b)/\(∀(i:Nat),i<VV b->SM (Qpi b i))/\True)/\SM (Qpj b)/\SM (Qpk b)/\SM (Qpl b)/\True)/\True)/\True
def Qg9(a:Nd):Int:=(NI (VV a))
def QaN(a:List Nd):Prop:=SM (LI a)
def XL(a:Nd)(b:Nat):Sm:=List.getD (QaI a) (Int.toNat (↑b:Int)) XJ
def Qpt(a:Nd)(b:Nat):D:=D.agg (Sm.row1 (XL a b))
def Qpu(a:Sm)(b:Nd)(c:Nat):Prop:=isS a [Qpt b c] []
def QaQ(a:List Nd)(b:Sm):Nat:=LN a+LN (Bq b)
def Qpv(a:Nd):D:=D.sl 34 (VV a) (fun i=>Qpi a i) Mode.any
def QN9(a:Nd):D:=D.agg [ZI (QoZ a),ZI (Qo0 a),ZI (Qo1 a),D.str (Qo2 a),ZI (Qo3 a),ZI (Qo4 a),ZI (Qo5 a),D.sl N1 (Qg6 a) (fun i=>Qo7 a i) Mode.any,D.sl N1 (Qg7 a) (fun i=>Qo9 a i) Mode.any,D.sl N4 (Qg8 a) (fun i=>Qpb a i) Mode.any,D.sl 15 (Zp a) (fun i=>Qg5 a i) Mode.any,Qpv a,ZI (Qpj a),ZI (Qpk a),ZI (Qpl a)]
def Qpw(a:Nat)(b:List Nd)(c:Sm)(d:Nd)(e f:Nat):Prop:=SM a/\Bc (QaQ b c*208<=140737488355328/\QaQ b c<=9223372036854775807) (∀(_t:Nat),(SM (QN9 d)/\SM (D.ref N0 e N0)/\SM (Qpv d)/\SM (ZI (Qg9 d))/\True)/\∃(y:Nat×List Nd),Qg4 y.1 d y.2/\VV d-y.1<VV d-f/\(IntKind.wrap IntKind.i64 ((↑f:Int)+Z1)=(NI y.1)/\(QaQ b c=LN y.2/\(∀(i:Nat),i<QaQ b c->BN (LN b) (fun i=>QaJ b i) (fun i=>Nd.row1 (List.getD (Bq c) i JN)) i=QaJ y.2 i)/\True)/\True)/\Qpm e d)
theorem BlD(n:Nd)(h1:n.ki.length<=BC)(h2:n.bo.length<=BC):CD 49 [.agg n.row2] (gsl 15 Nd.row1 (BK n)):=by
 refine Bg (A:=sC _ _) (x:=()) (E:=Ein0 n) (eOk (BjV n) rfl) Tryz.func49 rfl (by kernel_rfl) rfl (by simp[sC,Ein0,EC,E0]) ?_
 refine Bi (T :=
  ∀(x:Nat),True->SM x/\SM x/\(∃(x_1:Nat×List Nd),Qg4 x_1.1 n x_1.2/\(Z0=(NI x_1.1)/\(Zp n=LN x_1.2/\(∀(i:Nat),i<Zp n->Qg5 n i=QaJ x_1.2 i)/\True)/\True)/\Qpm x n)/\∀(x_1:Nat×List Nd),Qg4 x_1.1 n x_1.2->ifB (decide ((NI x_1.1)<Qg9 n)) (Bc (Z0<=(NI x_1.1)/\(NI x_1.1)<Qg9 n) (∀(x_2:Nat),x≠x_2/\True->SM x_2/\SM x_2/\(QaN x_1.2/\QaN x_1.2/\∀(t:Nat),(SM x_2/\SM (Qpt n x_1.1))/\∃(x_3:Sm),Qpu x_3 n x_1.1/\∀(y:Unit),True->Qpw t x_1.2 x_3 n x x_1.1)/\∃(x_3:Sm),Qpu x_3 n x_1.1/\∀(y:Unit),True->QaN x_1.2/\QaN x_1.2/\∀(t:Nat),Qpw t x_1.2 x_3 n x x_1.1)) (True/\∃(y:Unit),True/\(LN x_1.2=LN (BK n)/\(∀(i:Nat),i<LN x_1.2->QaJ x_1.2 i=Nd.row1 (List.getD (BK n) i JN))/\True)/\True/\True)) (by kernel_rfl) ?_
 delta DA GI LI LN N0 N1 N4 NI SI SM Z0 Z1 ZI QaI VV Qg3 Qg4 Zp XI JN Qg5 QaJ QoZ Qo0 Qo1 Qo2 Qo3 Qo4 QaK Qo5 Qo6 Qg6 Qo7 Qo8 Qg7 Qo9 Qpa Qg8 Qpb XJ XK Qpi Qpj Qpk Qpl Qpm Qg9 QaN XL Qpt Qpu QaQ Qpv QN9 Qpw
 try simp only[<- dm]
 try simp only[<- dn]
 simp only[ne_eq,implies_true,Int.toNat_natCast,Bf,Bd,decide_eq_true_eq,decide_eq_false_iff_not,true_and,and_true,exists_const,forall_const,Prod.exists]
 intro x
 unfold BC at h1 h2
 refine⟨⟨0,n.ki,⟨Nat.zero_le _,by simp⟩,rfl,rfl,fun _ _=>rfl⟩,?_⟩
 rintro ⟨i,l⟩ ⟨hi,hl⟩
 simp only at hi hl ⊢
 refine⟨fun hlt=>⟨⟨by omega,hlt⟩,fun _ _=>?_⟩,fun hge=>?_⟩
 ·have hlt':i<n.bo.length:=by omega
  have hf:=We (n.bo.take i)
  have hlen:l.length=n.ki.length+((n.bo.take i).flatMap Bq).length:=by rw[hl,List.length_append]
  have ht:(n.bo.take i).length=i:=by rw[List.length_take];omega
  have h2p:=G2 (n.bo.getD i default)
  have w:IntKind.i64.wrap ((i:Int)+1)=((i+1:Nat):Int):=by rw[Ba (by omega) (by omega)];rfl
  refine⟨⟨n.bo.getD i default,Ir _ _,⟨by omega,by omega⟩,i+1,l++Bq (n.bo.getD i default),⟨hlt',by rw[Bay hlt',hl,List.append_assoc]⟩,by omega,w,by rw[List.length_append],fun j _=>Bld j⟩,n.bo.getD i default,Ir _ _,⟨by omega,by omega⟩,i+1,l++Bq (n.bo.getD i default),⟨hlt',by rw[Bay hlt',hl,List.append_assoc]⟩,by omega,w,by rw[List.length_append],fun j _=>Bld j⟩
 ·have e:i=n.bo.length:=by omega
  rw[e,List.take_length] at hl
  have e2:l=BK n:=hl
  rw[e2]
  first
   |exact⟨rfl,fun _ _=>rfl⟩
   |trivial
def Bek(xm:Nat)(m:Int)(l:List Nd)(p:Nd->Bool):Con:=fun k ds S=>match k with
 |50=>some (pE (β:=Nd) ds S (fun b=>.bool (p b)) (fun b=>isN b ds [.ref 1 xm 0]/\b∈l/\S=⟨[(1,xm,.cells [.int .i64 m])],[]⟩))
 |_=>none
theorem Bhp(xm:Nat)(m:Int){l:List Nd}{p:Nd->Bool}(h:∀b∈l,CS 50 (.agg b.row1::[.ref 1 xm 0]) ⟨[(1,xm,.cells [.int .i64 m])],[]⟩ (.bool (p b))):ConOk Tryz.prog (Bek xm m l p):=by
 intro k ds S A hh
 unfold Bek at hh
 split at hh
 ·injection hh with hh;subst hh
  refine Co fun b ⟨e,hb,hs⟩=>?_
  rw[hs]
  exact (h b hb).wk e
 ·cases hh
noncomputable def EDxx(xm:Nat)(m:Int)(l:List Nd)(p:Nd->Bool):Senv:={ EC (Bek xm m l p) 19 2 [4,5,7,8,9,16] (fun _=>([],[])) with
 ann:=fun b _ S=>match b with
  |0=>some { slots:=[8],keep:=[0,1,6,7],α:=Nat,st:=fun i=>([.int .i64 i],S),inv:=fun i=>IdxG p l i,mu:=fun i=>l.length-i }
  |_=>none }
def QaR(a:Nat)(b:Int):Prop:=(SM a/\(SM b/\True)/\True)/\True
def Qpx:Arr:=DA
def Zq:Nd:=Nd.mk Z0 Z0 Z0 [] Z0 Z0 Qpx [] [] Z0 Z0 Z0
def QX(a:List Nd)(b:Nat):Nd:=List.getD a (Int.toNat (↑b:Int)) Zq
def QOc(a:Nat)(b:Int):St:=St.mk [(N1,a,AObj.cells [ZI b])] []
def QOd(a:List Nd):D:=D.sl 15 (LN a) (fun i=>Nd.row1 (List.getD a i Zq)) Mode.any
theorem Dxx_ok(xm : Nat)(m : Int)(l : List Nd)(p : Nd -> Bool)(h : ∀b∈l, CS 50 (.agg b.row1::[.ref 1 xm 0]) ⟨[(1, xm, .cells [.int .i64 m])], []⟩ (.bool (p b)))(hl : l.length<=maxLen) :
  CS 71 [gsl 15 Nd.row1 l,.fn (.func 50) [] [.ref 1 xm 0]] ⟨[(1,xm,.cells [.int .i64 m])],[]⟩ (.int .i64 (En p l 0)):=by
 refine CS.of (Bg (A:=sS _ _ _) (x:=()) (E:=EDxx xm m l p) (eOk (Bhp xm m h) rfl) Tryz.func71 rfl (by kernel_rfl) rfl (by simp[sS,EDxx,EC,E0]) ?_)
 refine Bi (T :=
  (∃(x:Nat),IdxG p l x/\(Z0=(↑x:Int)/\True)/\QaR xm m)/\∀(x:Nat),IdxG p l x->ifB (decide ((↑x:Int)<(LI l))) (Bc (Z0<=(↑x:Int)/\(↑x:Int)<(LI l)) (∃(x_1:Nd),(isN x_1 [D.agg (Nd.rowE (QX l x)),D.ref N1 xm N0] [D.ref N1 xm N0]/\x_1∈l/\SM (QOc xm m))/\∀(y:Unit),True->ifB (p x_1) (True/\∃(y:Unit),True/\(↑x:Int)=En p l Z0/\QaR xm m) ((SM (QOd l)/\SM (D.fn (Fn.func (50:Nat)) [] [D.ref N1 xm N0])/\SM D.unk/\SM (ZI (LI l))/\True)/\∃(y:Nat),IdxG p l y/\LN l-y<LN l-x/\(IntKind.wrap IntKind.i64 ((↑x:Int)+Z1)=(↑y:Int)/\True)/\QaR xm m))) (True/\∃(y:Unit),True/\(-1:Int)=En p l Z0/\QaR xm m)) (by kernel_rfl) ?_
 delta DA GI LI LN N0 N1 N4 SI SM Z0 Z1 ZI QaR Qpx QOc QOd Zq QX
 try simp only[<- dn]
 simp only[Int.toNat_natCast,Bf,Bd,decide_eq_true_eq,decide_eq_false_iff_not,true_and,and_true,exists_const]
 simp only[maxLen] at hl
 refine⟨⟨0,⟨Nat.zero_le _,by simp⟩,rfl⟩,fun i hh=>⟨fun hlt=>?_,fun hge=>(hh.done hge).symm⟩⟩
 have hlt':i<l.length:=by omega
 obtain ⟨s1,s2⟩:=hh.step hlt'
 have hm:l.getD i default∈l:=by rw[List.getD_eq_getElem?_getD,List.getElem?_eq_getElem hlt'];exact List.getElem_mem hlt'
 refine⟨⟨by omega,hlt⟩,l.getD i default,?_,fun _ _=>⟨fun e=>(s1 e).symm,fun e=>⟨i+1,s2 e,by omega,Ba (by omega) (by omega)⟩⟩⟩
 first
  |exact⟨Be _,hm,rfl⟩
  |exact⟨Be _,hm⟩
def Bjs(xm:Nat)(m:Int)(l:List Nd)(p:Nd->Bool):Con:=fun k ds S=>match k with
 |71=>some (pA ds S (.int .i64 (En p l 0)) (wkL ds [gsl 15 Nd.row1 l,.fn (.func 50) [] [.ref 1 xm 0]]/\S=⟨[(1,xm,.cells [.int .i64 m])],[]⟩))
 |_=>none
noncomputable def EDxc(xm:Nat)(m:Int)(l:List Nd)(p:Nd->Bool):Senv:=EC (Bjs xm m l p) 9 2 [4] (fun _=>([],[]))
def QpB(a:List Nd)(b:Nat):List D:=[D.sl 15 (LN a) (fun i=>Nd.row1 (List.getD a i (Nd.mk Z0 Z0 Z0 [] Z0 Z0 DA [] [] Z0 Z0 Z0))) Mode.any,D.fn (Fn.func (50:Nat)) [] [D.ref N1 b N0]]
def QOe(a:Nat)(b:Int):St:=St.mk [(N1,a,AObj.cells [ZI b])] []
theorem Dxc_ok(xm : Nat)(m : Int)(l : List Nd)(p : Nd -> Bool)(h : ∀b∈l, CS 50 (.agg b.row1::[.ref 1 xm 0]) ⟨[(1, xm, .cells [.int .i64 m])], []⟩ (.bool (p b)))(hl : l.length<=maxLen) :
  CS 48 [gsl 15 Nd.row1 l,.fn (.func 50) [] [.ref 1 xm 0]] ⟨[(1,xm,.cells [.int .i64 m])],[]⟩ (.bool (l.any p)):=by
 refine CS.of (Bg (A:=sS _ _ _) (x:=()) (E:=EDxc xm m l p) (eOk ?_ rfl) Tryz.func48 rfl (by kernel_rfl) rfl (by simp[sS,EDxc,EC,E0]) ?_)
 ·intro k ds S A hh
  try unfold Bjs at hh
  try dsimp only at hh
  split at hh
  ·injection hh with hh;subst hh
   refine Bo fun ⟨e,hs⟩=>?_
   rw[hs]
   exact (Dxx_ok xm m l p h hl).wk e
  ·cases hh
 refine Bi (T :=
  ∃(x:Unit),(wkL (QpB l xm) (QpB l xm)/\SM (QOe xm m))/\∀(y:Unit),True->True/\∃(y:Unit),True/\decide (Z0<=En p l Z0)=List.any l p/\(SM xm/\(SM m/\True)/\True)/\True) (by kernel_rfl) ?_
 delta DA LN N0 N1 SM Z0 ZI QpB QOe
 simp only[true_and,and_true,exists_const,forall_const]
 first
  |exact⟨Be _,Ez _ l 0 (Int.le_refl _)⟩
  |exact⟨⟨Be _,rfl⟩,Ez _ l 0 (Int.le_refl _)⟩
def BeO  (l:List Nd)(p:Nd->Bool):Con:=fun k ds S=>match k with
 |76=>some (pE (β:=Nd) ds S (fun b=>.bool (p b)) (fun b=>isN b ds []/\b∈l/\S=⟨[],[]⟩))
 |_=>none
theorem BhM  {l:List Nd}{p:Nd->Bool}(h:∀b∈l,CS 76 (.agg b.row1::[]) ⟨[],[]⟩ (.bool (p b))):ConOk Tryz.prog (BeO  l p):=by
 intro k ds S A hh
 unfold BeO at hh
 split at hh
 ·injection hh with hh;subst hh
  refine Co fun b ⟨e,hb,hs⟩=>?_
  rw[hs]
  exact (h b hb).wk e
 ·cases hh
noncomputable def ENxx  (l:List Nd)(p:Nd->Bool):Senv:={ EC (BeO  l p) 19 2 [4,5,7,8,9,16] (fun _=>([],[])) with
 ann:=fun b _ S=>match b with
  |0=>some { slots:=[8],keep:=[0,1,6,7],α:=Nat,st:=fun i=>([.int .i64 i],S),inv:=fun i=>IdxG p l i,mu:=fun i=>l.length-i }
  |_=>none }
def QpC:Arr:=DA
def Zr:Nd:=Nd.mk Z0 Z0 Z0 [] Z0 Z0 QpC [] [] Z0 Z0 Z0
def QY(a:List Nd)(b:Nat):Nd:=List.getD a (Int.toNat (↑b:Int)) Zr
def QOh(a:List Nd):D:=D.sl 15 (LN a) (fun i=>Nd.row1 (List.getD a i Zr)) Mode.any
theorem Nxx_ok  (l : List Nd)(p : Nd -> Bool)(h : ∀b∈l, CS 76 (.agg b.row1::[]) ⟨[], []⟩ (.bool (p b)))(hl : l.length<=maxLen) :
  CS 71 [gsl 15 Nd.row1 l,.fn (.func 76) [] []] ⟨[],[]⟩ (.int .i64 (En p l 0)):=by
 refine CS.of (Bg (A:=sS _ _ _) (x:=()) (E:=ENxx  l p) (eOk (BhM  h) rfl) Tryz.func71 rfl (by kernel_rfl) rfl (by simp[sS,ENxx,EC,E0]) ?_)
 refine Bi (T :=
  (∃(x:Nat),IdxG p l x/\(Z0=(↑x:Int)/\True)/\True/\True)/\∀(x:Nat),IdxG p l x->ifB (decide ((↑x:Int)<(LI l))) (Bc (Z0<=(↑x:Int)/\(↑x:Int)<(LI l)) (∃(x_1:Nd),(isN x_1 [D.agg (Nd.rowE (QY l x))] []/\x_1∈l/\SM (St.mk [] []))/\∀(y:Unit),True->ifB (p x_1) (RT ((↑x:Int)=En p l Z0)) ((SM (QOh l)/\SM (D.fn (Fn.func (76:Nat)) [] [])/\SM D.unk/\SM (ZI (LI l))/\True)/\∃(y:Nat),IdxG p l y/\LN l-y<LN l-x/\(IntKind.wrap IntKind.i64 ((↑x:Int)+Z1)=(↑y:Int)/\True)/\True/\True))) (RT ((-1:Int)=En p l Z0))) (by kernel_rfl) ?_
 delta DA GI LI LN N1 N4 SI SM Z0 Z1 ZI QpC Zr QY QOh RT
 try simp only[<- dn]
 simp only[Int.toNat_natCast,Bf,Bd,decide_eq_true_eq,decide_eq_false_iff_not,true_and,and_true,exists_const]
 simp only[maxLen] at hl
 refine⟨⟨0,⟨Nat.zero_le _,by simp⟩,rfl⟩,fun i hh=>⟨fun hlt=>?_,fun hge=>(hh.done hge).symm⟩⟩
 have hlt':i<l.length:=by omega
 obtain ⟨s1,s2⟩:=hh.step hlt'
 have hm:l.getD i default∈l:=by rw[List.getD_eq_getElem?_getD,List.getElem?_eq_getElem hlt'];exact List.getElem_mem hlt'
 refine⟨⟨by omega,hlt⟩,l.getD i default,?_,fun _ _=>⟨fun e=>(s1 e).symm,fun e=>⟨i+1,s2 e,by omega,Ba (by omega) (by omega)⟩⟩⟩
 first
  |exact⟨Be _,hm,rfl⟩
  |exact⟨Be _,hm⟩
def Blw  (l:List Nd)(p:Nd->Bool):Con:=fun k ds S=>match k with
 |71=>some (pA ds S (.int .i64 (En p l 0)) (wkL ds [gsl 15 Nd.row1 l,.fn (.func 76) [] []]/\S=⟨[],[]⟩))
 |_=>none
noncomputable def ENxc  (l:List Nd)(p:Nd->Bool):Senv:=EC (Blw  l p) 9 2 [4] (fun _=>([],[]))
def QpG(a:List Nd):List D:=[D.sl 15 (LN a) (fun i=>Nd.row1 (List.getD a i (Nd.mk Z0 Z0 Z0 [] Z0 Z0 DA [] [] Z0 Z0 Z0))) Mode.any,D.fn (Fn.func (76:Nat)) [] []]
theorem Nxc_ok  (l : List Nd)(p : Nd -> Bool)(h : ∀b∈l, CS 76 (.agg b.row1::[]) ⟨[], []⟩ (.bool (p b)))(hl : l.length<=maxLen) :
  CS 48 [gsl 15 Nd.row1 l,.fn (.func 76) [] []] ⟨[],[]⟩ (.bool (l.any p)):=by
 refine CS.of (Bg (A:=sS _ _ _) (x:=()) (E:=ENxc  l p) (eOk ?_ rfl) Tryz.func48 rfl (by kernel_rfl) rfl (by simp[sS,ENxc,EC,E0]) ?_)
 ·intro k ds S A hh
  try unfold Blw at hh
  try dsimp only at hh
  split at hh
  ·injection hh with hh;subst hh
   refine Bo fun ⟨e,hs⟩=>?_
   rw[hs]
   exact (Nxx_ok  l p h hl).wk e
  ·cases hh
 refine Bi (T :=
  ∃(x:Unit),(wkL (QpG l) (QpG l)/\SM (St.mk [] []))/\∀(y:Unit),True->RT (decide (Z0<=En p l Z0)=List.any l p)) (by kernel_rfl) ?_
 delta DA LN SM Z0 QpG RT
 simp only[true_and,and_true,exists_const,forall_const]
 first
  |exact⟨Be _,Ez _ l 0 (Int.le_refl _)⟩
  |exact⟨⟨Be _,rfl⟩,Ez _ l 0 (Int.le_refl _)⟩
def Bd4(xi:Nat)(xk:Nat)(q:Int)(l:List Nd)(p:Nd->Bool):Con:=fun k ds S=>match k with
 |80=>some (pE (β:=Nd) ds S (fun b=>.bool (p b)) (fun b=>isN b ds [.ref 0 xk 0,.ref 1 xi 0]/\b∈l/\S=⟨[(1,xi,.cells [.fn (.func 80) [] [.ref 0 xk 0,.ref 1 xi 0]]),(0,xk,.cells [.int .i64 q])],[]⟩))
 |_=>none
theorem BhK(xi:Nat)(xk:Nat)(q:Int){l:List Nd}{p:Nd->Bool}(h:∀b∈l,CS 80 (.agg b.row1::[.ref 0 xk 0,.ref 1 xi 0]) ⟨[(1,xi,.cells [.fn (.func 80) [] [.ref 0 xk 0,.ref 1 xi 0]]),(0,xk,.cells [.int .i64 q])],[]⟩ (.bool (p b))):ConOk Tryz.prog (Bd4 xi xk q l p):=by
 intro k ds S A hh
 unfold Bd4 at hh
 split at hh
 ·injection hh with hh;subst hh
  refine Co fun b ⟨e,hb,hs⟩=>?_
  rw[hs]
  exact (h b hb).wk e
 ·cases hh
noncomputable def EOxx(xi:Nat)(xk:Nat)(q:Int)(l:List Nd)(p:Nd->Bool):Senv:={ EC (Bd4 xi xk q l p) 19 2 [4,5,7,8,9,16] (fun _=>([],[])) with
 ann:=fun b _ S=>match b with
  |0=>some { slots:=[8],keep:=[0,1,6,7],α:=Nat,st:=fun i=>([.int .i64 i],S),inv:=fun i=>IdxG p l i,mu:=fun i=>l.length-i }
  |_=>none }
def Qha(a b:Nat):List D:=[D.ref N0 a N0,D.ref N1 b N0]
def QpH(a b:Nat):D:=D.fn (Fn.func (80:Nat)) [] (Qha a b)
def QpI(a b:Nat):Prop:=SM (QpH a b)
def QaU(a b:Nat)(c:Int):Prop:=(SM a/\(QpI b a/\True)/\SM b/\(SM c/\True)/\True)/\True
def QpJ:Arr:=DA
def Zs:Nd:=Nd.mk Z0 Z0 Z0 [] Z0 Z0 QpJ [] [] Z0 Z0 Z0
def QZ(a:List Nd)(b:Nat):Nd:=List.getD a (Int.toNat (↑b:Int)) Zs
def QOk(a b:Nat)(c:Int):St:=St.mk [(N1,a,AObj.cells [QpH b a]),(N0,b,AObj.cells [ZI c])] []
def QOl(a:List Nd):D:=D.sl 15 (LN a) (fun i=>Nd.row1 (List.getD a i Zs)) Mode.any
theorem Oxx_ok(xi : Nat)(xk : Nat)(q : Int)(l : List Nd)(p : Nd -> Bool)(h : ∀b∈l, CS 80 (.agg b.row1::[.ref 0 xk 0, .ref 1 xi 0]) ⟨[(1, xi, .cells [.fn (.func 80) [] [.ref 0 xk 0, .ref 1 xi 0]]), (0, xk, .cells [.int .i64 q])], []⟩ (.bool (p b)))(hl : l.length<=maxLen) :
  CS 71 [gsl 15 Nd.row1 l,.fn (.func 80) [] [.ref 0 xk 0,.ref 1 xi 0]] ⟨[(1,xi,.cells [.fn (.func 80) [] [.ref 0 xk 0,.ref 1 xi 0]]),(0,xk,.cells [.int .i64 q])],[]⟩ (.int .i64 (En p l 0)):=by
 refine CS.of (Bg (A:=sS _ _ _) (x:=()) (E:=EOxx xi xk q l p) (eOk (BhK xi xk q h) rfl) Tryz.func71 rfl (by kernel_rfl) rfl (by simp[sS,EOxx,EC,E0]) ?_)
 refine Bi (T :=
  (∃(x:Nat),IdxG p l x/\(Z0=(↑x:Int)/\True)/\QaU xi xk q)/\∀(x:Nat),IdxG p l x->ifB (decide ((↑x:Int)<(LI l))) (Bc (Z0<=(↑x:Int)/\(↑x:Int)<(LI l)) (∃(x_1:Nd),(isN x_1 (D.agg (Nd.rowE (QZ l x))::Qha xk xi) (Qha xk xi)/\x_1∈l/\SM (QOk xi xk q))/\∀(y:Unit),True->ifB (p x_1) (True/\∃(y:Unit),True/\(↑x:Int)=En p l Z0/\QaU xi xk q) ((SM (QOl l)/\QpI xk xi/\SM D.unk/\SM (ZI (LI l))/\True)/\∃(y:Nat),IdxG p l y/\LN l-y<LN l-x/\(IntKind.wrap IntKind.i64 ((↑x:Int)+Z1)=(↑y:Int)/\True)/\QaU xi xk q))) (True/\∃(y:Unit),True/\(-1:Int)=En p l Z0/\QaU xi xk q)) (by kernel_rfl) ?_
 delta DA GI LI LN N0 N1 N4 SI SM Z0 Z1 ZI Qha QpH QpI QaU QpJ Zs QZ QOk QOl
 try simp only[<- dn]
 simp only[Int.toNat_natCast,Bf,Bd,decide_eq_true_eq,decide_eq_false_iff_not,true_and,and_true,exists_const]
 simp only[maxLen] at hl
 refine⟨⟨0,⟨Nat.zero_le _,by simp⟩,rfl⟩,fun i hh=>⟨fun hlt=>?_,fun hge=>(hh.done hge).symm⟩⟩
 have hlt':i<l.length:=by omega
 obtain ⟨s1,s2⟩:=hh.step hlt'
 have hm:l.getD i default∈l:=by rw[List.getD_eq_getElem?_getD,List.getElem?_eq_getElem hlt'];exact List.getElem_mem hlt'
 refine⟨⟨by omega,hlt⟩,l.getD i default,?_,fun _ _=>⟨fun e=>(s1 e).symm,fun e=>⟨i+1,s2 e,by omega,Ba (by omega) (by omega)⟩⟩⟩
 first
  |exact⟨Be _,hm,rfl⟩
  |exact⟨Be _,hm⟩
def BiR(xi:Nat)(xk:Nat)(q:Int)(l:List Nd)(p:Nd->Bool):Con:=fun k ds S=>match k with
 |71=>some (pA ds S (.int .i64 (En p l 0)) (wkL ds [gsl 15 Nd.row1 l,.fn (.func 80) [] [.ref 0 xk 0,.ref 1 xi 0]]/\S=⟨[(1,xi,.cells [.fn (.func 80) [] [.ref 0 xk 0,.ref 1 xi 0]]),(0,xk,.cells [.int .i64 q])],[]⟩))
 |_=>none
noncomputable def EOxc(xi:Nat)(xk:Nat)(q:Int)(l:List Nd)(p:Nd->Bool):Senv:=EC (BiR xi xk q l p) 9 2 [4] (fun _=>([],[]))
def QpN(a b:Nat):D:=D.fn (Fn.func (80:Nat)) [] [D.ref N0 a N0,D.ref N1 b N0]
def QpO(a b:Nat):List D:=[QpN a b]
def QpP(a:List Nd)(b c:Nat):List D:=D.sl 15 (LN a) (fun i=>Nd.row1 (List.getD a i (Nd.mk Z0 Z0 Z0 [] Z0 Z0 DA [] [] Z0 Z0 Z0))) Mode.any::QpO b c
def QOm(a b:Nat)(c:Int):St:=St.mk [(N1,a,AObj.cells (QpO b a)),(N0,b,AObj.cells [ZI c])] []
theorem Oxc_ok(xi : Nat)(xk : Nat)(q : Int)(l : List Nd)(p : Nd -> Bool)(h : ∀b∈l, CS 80 (.agg b.row1::[.ref 0 xk 0, .ref 1 xi 0]) ⟨[(1, xi, .cells [.fn (.func 80) [] [.ref 0 xk 0, .ref 1 xi 0]]), (0, xk, .cells [.int .i64 q])], []⟩ (.bool (p b)))(hl : l.length<=maxLen) :
  CS 48 [gsl 15 Nd.row1 l,.fn (.func 80) [] [.ref 0 xk 0,.ref 1 xi 0]] ⟨[(1,xi,.cells [.fn (.func 80) [] [.ref 0 xk 0,.ref 1 xi 0]]),(0,xk,.cells [.int .i64 q])],[]⟩ (.bool (l.any p)):=by
 refine CS.of (Bg (A:=sS _ _ _) (x:=()) (E:=EOxc xi xk q l p) (eOk ?_ rfl) Tryz.func48 rfl (by kernel_rfl) rfl (by simp[sS,EOxc,EC,E0]) ?_)
 ·intro k ds S A hh
  try unfold BiR at hh
  try dsimp only at hh
  split at hh
  ·injection hh with hh;subst hh
   refine Bo fun ⟨e,hs⟩=>?_
   rw[hs]
   exact (Oxx_ok xi xk q l p h hl).wk e
  ·cases hh
 refine Bi (T :=
  ∃(x:Unit),(wkL (QpP l xk xi) (QpP l xk xi)/\SM (QOm xi xk q))/\∀(y:Unit),True->True/\∃(y:Unit),True/\decide (Z0<=En p l Z0)=List.any l p/\(SM xi/\(SM (QpN xk xi)/\True)/\SM xk/\(SM q/\True)/\True)/\True) (by kernel_rfl) ?_
 delta DA LN N0 N1 SM Z0 ZI QpN QpO QpP QOm
 simp only[true_and,and_true,exists_const,forall_const]
 first
  |exact⟨Be _,Ez _ l 0 (Int.le_refl _)⟩
  |exact⟨⟨Be _,rfl⟩,Ez _ l 0 (Int.le_refl _)⟩
def Bfw(xi:Nat)(xk:Nat)(q:Int)(l:List Sm)(p:Sm->Bool):Con:=fun k ds S=>match k with
 |82=>some (pE (β:=Sm) ds S (fun b=>.bool (p b)) (fun b=>isS b ds [.ref 1 xi 0]/\b∈l/\S=⟨[(1,xi,.cells [.fn (.func 80) [] [.ref 0 xk 0,.ref 1 xi 0]]),(0,xk,.cells [.int .i64 q])],[]⟩))
 |_=>none
theorem Bif(xi:Nat)(xk:Nat)(q:Int){l:List Sm}{p:Sm->Bool}(h:∀b∈l,CS 82 (.agg b.row1::[.ref 1 xi 0]) ⟨[(1,xi,.cells [.fn (.func 80) [] [.ref 0 xk 0,.ref 1 xi 0]]),(0,xk,.cells [.int .i64 q])],[]⟩ (.bool (p b))):ConOk Tryz.prog (Bfw xi xk q l p):=by
 intro k ds S A hh
 unfold Bfw at hh
 split at hh
 ·injection hh with hh;subst hh
  refine Co fun b ⟨e,hb,hs⟩=>?_
  rw[hs]
  exact (h b hb).wk e
 ·cases hh
noncomputable def EPxx(xi:Nat)(xk:Nat)(q:Int)(l:List Sm)(p:Sm->Bool):Senv:={ EC (Bfw xi xk q l p) 19 2 [4,5,7,8,9,16] (fun _=>([],[])) with
 ann:=fun b _ S=>match b with
  |0=>some { slots:=[8],keep:=[0,1,6,7],α:=Nat,st:=fun i=>([.int .i64 i],S),inv:=fun i=>IdxG p l i,mu:=fun i=>l.length-i }
  |_=>none }
def QpQ(a b:Nat):D:=D.fn (Fn.func (80:Nat)) [] [D.ref N0 a N0,D.ref N1 b N0]
def QaW(a b:Nat)(c:Int):Prop:=(SM a/\(SM (QpQ b a)/\True)/\SM b/\(SM c/\True)/\True)/\True
def Qhb:Arr:=DA
def QaX:Nd:=Nd.mk Z0 Z0 Z0 [] Z0 Z0 Qhb [] [] Z0 Z0 Z0
def QaY:Sm:=Sm.mk Z0 Z0 [] Z0 QaX QaX
def XM(a:List Sm)(b:Nat):Sm:=List.getD a (Int.toNat (↑b:Int)) QaY
def QOr(a b:Nat)(c:Int):St:=St.mk [(N1,a,AObj.cells [QpQ b a]),(N0,b,AObj.cells [ZI c])] []
def QOs(a:List Sm):D:=D.sl 34 (LN a) (fun i=>Sm.row1 (List.getD a i QaY)) Mode.any
theorem Pxx_ok(xi : Nat)(xk : Nat)(q : Int)(l : List Sm)(p : Sm -> Bool)(h : ∀b∈l, CS 82 (.agg b.row1::[.ref 1 xi 0]) ⟨[(1, xi, .cells [.fn (.func 80) [] [.ref 0 xk 0, .ref 1 xi 0]]), (0, xk, .cells [.int .i64 q])], []⟩ (.bool (p b)))(hl : l.length<=maxLen) :
  CS 98 [gsl 34 Sm.row1 l,.fn (.func 82) [] [.ref 1 xi 0]] ⟨[(1,xi,.cells [.fn (.func 80) [] [.ref 0 xk 0,.ref 1 xi 0]]),(0,xk,.cells [.int .i64 q])],[]⟩ (.int .i64 (En p l 0)):=by
 refine CS.of (Bg (A:=sS _ _ _) (x:=()) (E:=EPxx xi xk q l p) (eOk (Bif xi xk q h) rfl) Tryz.func98 rfl (by kernel_rfl) rfl (by simp[sS,EPxx,EC,E0]) ?_)
 refine Bi (T :=
  (∃(x:Nat),IdxG p l x/\(Z0=(↑x:Int)/\True)/\QaW xi xk q)/\∀(x:Nat),IdxG p l x->ifB (decide ((↑x:Int)<(LI l))) (Bc (Z0<=(↑x:Int)/\(↑x:Int)<(LI l)) (∃(x_1:Sm),(isS x_1 [D.agg (Sm.row1 (XM l x)),D.ref N1 xi N0] [D.ref N1 xi N0]/\x_1∈l/\SM (QOr xi xk q))/\∀(y:Unit),True->ifB (p x_1) (True/\∃(y:Unit),True/\(↑x:Int)=En p l Z0/\QaW xi xk q) ((SM (QOs l)/\SM (D.fn (Fn.func (82:Nat)) [] [D.ref N1 xi N0])/\SM D.unk/\SM (ZI (LI l))/\True)/\∃(y:Nat),IdxG p l y/\LN l-y<LN l-x/\(IntKind.wrap IntKind.i64 ((↑x:Int)+Z1)=(↑y:Int)/\True)/\QaW xi xk q))) (True/\∃(y:Unit),True/\(-1:Int)=En p l Z0/\QaW xi xk q)) (by kernel_rfl) ?_
 delta DA GI LI LN N0 N1 N4 SI SM Z0 Z1 ZI QpQ QaW Qhb QaX QaY XM QOr QOs
 try simp only[<- dn]
 simp only[Int.toNat_natCast,Bf,Bd,decide_eq_true_eq,decide_eq_false_iff_not,true_and,and_true,exists_const]
 simp only[maxLen] at hl
 refine⟨⟨0,⟨Nat.zero_le _,by simp⟩,rfl⟩,fun i hh=>⟨fun hlt=>?_,fun hge=>(hh.done hge).symm⟩⟩
 have hlt':i<l.length:=by omega
 obtain ⟨s1,s2⟩:=hh.step hlt'
 have hm:l.getD i default∈l:=by rw[List.getD_eq_getElem?_getD,List.getElem?_eq_getElem hlt'];exact List.getElem_mem hlt'
 refine⟨⟨by omega,hlt⟩,l.getD i default,?_,fun _ _=>⟨fun e=>(s1 e).symm,fun e=>⟨i+1,s2 e,by omega,Ba (by omega) (by omega)⟩⟩⟩
 first
  |exact⟨Be _,hm,rfl⟩
  |exact⟨Be _,hm⟩
def BjN(xi:Nat)(xk:Nat)(q:Int)(l:List Sm)(p:Sm->Bool):Con:=fun k ds S=>match k with
 |98=>some (pA ds S (.int .i64 (En p l 0)) (wkL ds [gsl 34 Sm.row1 l,.fn (.func 82) [] [.ref 1 xi 0]]/\S=⟨[(1,xi,.cells [.fn (.func 80) [] [.ref 0 xk 0,.ref 1 xi 0]]),(0,xk,.cells [.int .i64 q])],[]⟩))
 |_=>none
noncomputable def EPxc(xi:Nat)(xk:Nat)(q:Int)(l:List Sm)(p:Sm->Bool):Senv:=EC (BjN xi xk q l p) 9 2 [4] (fun _=>([],[]))
def QpX:Nd:=Nd.mk Z0 Z0 Z0 [] Z0 Z0 DA [] [] Z0 Z0 Z0
def QpY(a:List Sm)(b:Nat):List D:=[D.sl 34 (LN a) (fun i=>Sm.row1 (List.getD a i (Sm.mk Z0 Z0 [] Z0 QpX QpX))) Mode.any,D.fn (Fn.func (82:Nat)) [] [D.ref N1 b N0]]
def QpZ(a b:Nat):D:=D.fn (Fn.func (80:Nat)) [] [D.ref N0 a N0,D.ref N1 b N0]
def QOt(a b:Nat)(c:Int):St:=St.mk [(N1,a,AObj.cells [QpZ b a]),(N0,b,AObj.cells [ZI c])] []
theorem Pxc_ok(xi : Nat)(xk : Nat)(q : Int)(l : List Sm)(p : Sm -> Bool)(h : ∀b∈l, CS 82 (.agg b.row1::[.ref 1 xi 0]) ⟨[(1, xi, .cells [.fn (.func 80) [] [.ref 0 xk 0, .ref 1 xi 0]]), (0, xk, .cells [.int .i64 q])], []⟩ (.bool (p b)))(hl : l.length<=maxLen) :
  CS 81 [gsl 34 Sm.row1 l,.fn (.func 82) [] [.ref 1 xi 0]] ⟨[(1,xi,.cells [.fn (.func 80) [] [.ref 0 xk 0,.ref 1 xi 0]]),(0,xk,.cells [.int .i64 q])],[]⟩ (.bool (l.any p)):=by
 refine CS.of (Bg (A:=sS _ _ _) (x:=()) (E:=EPxc xi xk q l p) (eOk ?_ rfl) Tryz.func81 rfl (by kernel_rfl) rfl (by simp[sS,EPxc,EC,E0]) ?_)
 ·intro k ds S A hh
  try unfold BjN at hh
  try dsimp only at hh
  split at hh
  ·injection hh with hh;subst hh
   refine Bo fun ⟨e,hs⟩=>?_
   rw[hs]
   exact (Pxx_ok xi xk q l p h hl).wk e
  ·cases hh
 refine Bi (T :=
  ∃(x:Unit),(wkL (QpY l xi) (QpY l xi)/\SM (QOt xi xk q))/\∀(y:Unit),True->True/\∃(y:Unit),True/\decide (Z0<=En p l Z0)=List.any l p/\(SM xi/\(SM (QpZ xk xi)/\True)/\SM xk/\(SM q/\True)/\True)/\True) (by kernel_rfl) ?_
 delta DA LN N0 N1 SM Z0 ZI QpX QpY QpZ QOt
 simp only[true_and,and_true,exists_const,forall_const]
 first
  |exact⟨Be _,Ez _ l 0 (Int.le_refl _)⟩
  |exact⟨⟨Be _,rfl⟩,Ez _ l 0 (Int.le_refl _)⟩
theorem ED{n b:Nd}(h:b∈BK n):szN b<szN n:=by
 have:=UJ h
 rw[MN n]
 omega
theorem EW{n b:Nd}(h:n.sm)(hb:b∈BK n):b.sm:=by
 cases n with
 |mk kd at_ cl tx pr op va ki bo de sl ss =>
  simp only[Nd.sm] at h
  obtain ⟨_,_,h1,h2⟩:=h
  rcases List.mem_append.1 hb with hb | hb
  ·exact (TH _).1 h1 b hb
  ·obtain ⟨s,hs,hb⟩:=List.mem_flatMap.1 hb
   have h3:=(MJ _).1 h2 s hs
   cases s with
   |mk k2 a2 nm s2 te nd =>
    simp only[Sm.sm] at h3
    unfold Bq at hb
    split at hb
    ·rcases List.mem_cons.1 hb with rfl | hb
     ·exact h3.2.1
     ·rcases List.mem_cons.1 hb with rfl | hb
      ·exact h3.2.2
      ·cases hb
    ·rcases List.mem_cons.1 hb with rfl | hb
     ·exact h3.2.2
     ·cases hb
theorem Cb{n:Nd}(h:n.sm):n.tx.length<=BC/\n.ki.length<=BC/\n.bo.length<=BC:=by
 cases n with
 |mk kd at_ cl tx pr op va ki bo de sl ss =>
  simp only[Nd.sm] at h
  exact h.1
theorem Bce{n:Nd}(h:n.sm):(BK n).length<=maxLen:=by
 obtain ⟨_,h1,h2⟩:=Cb h
 have:=Bin n
 unfold BC at h1 h2
 unfold maxLen
 omega
def CI(n:Nd)(m:Int):Bool:=decide (m<(dpN n:Int))
theorem Wx(m:Int):∀l:List Nd,(l.any fun b=>CI b m)=true↔(l≠[]/\m<(dpL l:Int))
 | []=>by simp
 | [x]=>by
  simp only[List.any_cons,List.any_nil,Bool.or_false,CI,decide_eq_true_eq,dpL]
  have:=Bf8 x
  constructor
  ·intro h;exact⟨by simp,by omega⟩
  ·rintro ⟨_,h⟩;omega
 |x::y::r=>by
  have ih:=Wx m (y::r)
  have e:dpL (x::y::r)=max (dpN x) (dpL (y::r)):=by simp only[dpL]
  rw[List.any_cons,Bool.or_eq_true,ih,e]
  simp only[CI,decide_eq_true_eq,ne_eq,reduceCtorEq,not_false_eq_true,true_and]
  omega
theorem BmA(n:Nd)(m:Int):CI n m=(decide (m<1)||(BK n).any fun b=>CI b (m-1)):=by
 rw[Bool.eq_iff_iff,Bool.or_eq_true,Wx,decide_eq_true_eq]
 unfold CI
 rw[decide_eq_true_eq,TU n]
 cases hi:BK n with
 |nil =>
  simp only[dpL,ne_eq,not_true_eq_false,false_and,or_false]
  omega
 |cons x r =>
  simp only[ne_eq,reduceCtorEq,not_false_eq_true,true_and]
  have:=Bf8 x
  have:dpN x<=dpL (x::r):=Bbl (by simp)
  omega
def Bop(b:Nd)(m:Int):Con:=fun k ds S=>match k with
 |30=>some (pA ds S (.bool (CI b m)) (isN b ds [.int .i64 m]))
 |_=>none
noncomputable def Ed1(b:Nd)(m:Int):Senv:=EC (Bop b (m-1)) 8 4 [] (fun _=>([],[]))
theorem Bqn(b : Nd)(m : Int)(hm : Bt m)(h1 : 1<=m)(h : CD 30 [.agg b.row1, .int .i64 (m-1)] (.bool (CI b (m-1))))(xm : Nat) :
  CS 50 [.agg b.row1,.ref 1 xm 0] ⟨[(1,xm,.cells [.int .i64 m])],[]⟩ (.bool (CI b (m-1))):=by
 refine CS.of (Bg (A:=sS _ _ _) (x:=()) (E:=Ed1 b m) (eOk ?_ rfl) Tryz.func50 rfl (by kernel_rfl) rfl (by simp[sS,Ed1,EC,E0]) ?_)
 ·intro k ds S A hh
  try unfold Bop at hh
  try dsimp only at hh
  split at hh
  ·injection hh with hh;subst hh
   exact Bo fun e=>CD.at_ (h.wk e) _
  ·cases hh
 refine Bi (T :=
  ∀(x:Nat),xm≠x/\True->SM x/\SM xm/\∃(x:Unit),isN b [D.agg (Nd.rowE b),ZI (IntKind.wrap IntKind.i64 (m-Z1))] [ZI (m-Z1)]/\∀(y:Unit),True->True/\∃(y:Unit),True/\SM (CI b (m-Z1))/\(SM xm/\(SM m/\True)/\True)/\True) (by kernel_rfl) ?_
 delta DA GI LN N1 N4 SI SM Z0 Z1 ZI
 simp only[eq_self,ne_eq,implies_true,true_and,and_true,exists_const]
 have w:IntKind.i64.wrap (m-1)=m-1:=by unfold Bt at hm;exact Ba (by omega) (by omega)
 rw[w]
 exact fun _ _=>Bl _ _
def Bn2(n:Nd)(m:Int):Con:=fun k ds S=>match k with
 |49=>some (pA ds S (gsl 15 Nd.row1 (BK n)) (isN2 n ds []))
 |48=>match ds with
  | [_,.fn _ _ [.ref _ xm _]]=>some (pA ds S (.bool ((BK n).any fun b=>CI b (m-1))) (1<=m/\wkL ds [gsl 15 Nd.row1 (BK n),.fn (.func 50) [] [.ref 1 xm 0]]/\∃F,S=St.add ⟨[(1,xm,.cells [.int .i64 m])],[]⟩ F))
  |_=>none
 |_=>none
noncomputable def Ede(n:Nd)(m:Int):Senv:=EC (Bn2 n m) 13 5 [] (fun _=>([],[]))
def Qp3:Arr:=DA
def Qa3:Nd:=Nd.mk Z0 Z0 Z0 [] Z0 Z0 Qp3 [] [] Z0 Z0 Z0
def Qp4(a:Nd):List D:=(Nd.row2 a)
def Qhd(a:Nd):List Nd:=BK a
def Qp5(a:Nd):D:=D.sl 15 (LN (Qhd a)) (fun i=>Nd.row1 (List.getD (Qhd a) i Qa3)) Mode.any
theorem Bnl(n : Nd)(m : Int)(hn : n.sm)(hm : Bt m)(h : 1<=m -> ∀b∈BK n, CD 30 [.agg b.row1, .int .i64 (m-1)] (.bool (CI b (m-1)))) :
  CD 30 [.agg n.row2,.int .i64 m] (.bool (CI n m)):=by
 obtain ⟨_,k1,k2⟩:=Cb hn
 refine Bg (A:=sC _ _) (x:=()) (E:=Ede n m) (eOk ?_ rfl) Tryz.func30 rfl (by kernel_rfl) rfl (by simp[sC,Ede,EC,E0]) ?_
 ·intro k ds S A hh
  try unfold Bn2 at hh
  try dsimp only at hh
  split at hh
  ·injection hh with hh;subst hh
   exact Bo fun e=>CD.at_ (CD.wk (BlD n k1 k2) e) _
  ·split at hh
   ·injection hh with hh;subst hh
    refine Bo fun ⟨h1,e,F,hS⟩=>?_
    rw[hS]
    exact CS.frame F (CS.wk (Dxc_ok _ m (BK n) (fun b=>CI b (m-1)) (fun b hb=>Bqn b m hm h1 (h h1 b hb) _) (Bce hn)) e)
   ·cases hh
  ·cases hh
 refine Bi (T :=
  ∀(x:Nat),True->∀(x_1:Nat),x≠x_1/\True->SM x_1/\ifB (decide (m<Z1)) (RT (true=CI n m)) (SM x/\∃(x_2:Unit),isN2 n [D.agg (Qp4 n)] []/\∀(y:Unit),True->∃(x_3:Unit),(Z1<=m/\wkL [Qp5 n,D.fn (Fn.func (50:Nat)) [] [D.ref (max (N0+N1) N0) x_1 N0]] [Qp5 n,D.fn (Fn.func (50:Nat)) [] [D.ref N1 x_1 N0]]/\∃(F:St),St.mk [(max (N0+N1) N0,x_1,AObj.cells [ZI m]),(N0,x,AObj.cells (Qp4 n))] []=St.mk ((N1,x_1,AObj.cells [ZI m])::List.append [] (St.objs F)) ([]++St.toks F))/\∀(y:Unit),True->RT ((List.any (Qhd n) fun (b:Nd)=>CI b (m-Z1))=CI n m))) (by kernel_rfl) ?_
 delta DA GI LN N0 N1 N4 SI SM Z0 Z1 ZI Qp3 Qa3 Qp4 Qhd Qp5 RT
 simp only[eq_self,ne_eq,Bf,decide_eq_true_eq,decide_eq_false_iff_not,true_and,and_true,exists_const,forall_const]
 rw[BmA]
 exact fun x x1 _=>⟨fun h=>by simp[h],fun h=>⟨CJ n _,⟨by omega,Be _,⟨⟨[_],[]⟩,rfl⟩⟩,by simp[h]⟩⟩
theorem BiH(n:Nd)(m:Int)(hn:n.sm)(hm:Bt m):CD 30 [.agg n.row2,.int .i64 m] (.bool (CI n m)):=by
 refine Bnl n m hn hm fun h1 b hb=>CD.down (BiH b (m-1) (EW hn hb) ?_)
 unfold Bt at hm ⊢
 omega
termination_by szN n
decreasing_by exact ED hb
def BcF(xi xk:Nat)(q:Int):St:=⟨[(1,xi,.cells [.fn (.func 80) [] [.ref 0 xk 0,.ref 1 xi 0]]),(0,xk,.cells [.int .i64 q])],[]⟩
theorem BS{n b:Nd}(h:b∈n.ki):b∈BK n:=List.mem_append.2 (.inl h)
def BfE(l:List Nd)(xi xk:Nat)(q:Int):Con:=fun k ds S=>match k with
 |29=>some (pE (β:=Sm) ds S (fun s=>gsl 15 Nd.row1 (Bq s)) (fun s=>isS s ds []))
 |48=>some (pA ds S (.bool (l.any (Im q))) (wkL ds [gsl 15 Nd.row1 l,.fn (.func 80) [] [.ref 0 xk 0,.ref 1 xi 0]]/\∃o,S=⟨o::(BcF xi xk q).objs,[]⟩))
 |_=>none
theorem Bcy{l:List Nd}{xi xk:Nat}{q:Int}(hn:l.length<=maxLen)(h:∀b∈l,CS 80 [.agg b.row1,.ref 0 xk 0,.ref 1 xi 0] (BcF xi xk q) (.bool (Im q b))):ConOk Tryz.prog (BfE l xi xk q):=by
 intro k ds S A hh
 unfold BfE at hh
 split at hh
 ·injection hh with hh;subst hh
  exact Co fun s e=>CD.at_ (CD.wk (BkE s) e) _
 ·injection hh with hh;subst hh
  refine Bo fun ⟨e,o,hS⟩=>?_
  rw[hS]
  exact CS.front o (CS.wk (Oxc_ok xi xk q l (Im q) h hn) e)
 ·cases hh
noncomputable def Eo1(l:List Nd)(xi xk:Nat)(q:Int):Senv:=EC (BfE l xi xk q) 20 5 [] (fun _=>([],[]))
def Qhe(a:Nd):Int:=Nd.kd a
def Qp6(a b:Nat):D:=D.fn (Fn.func (80:Nat)) [] [D.ref N0 a N0,D.ref N1 b N0]
def Qhf(a b:Nat)(c:Int):Prop:=(SM a/\(SM (Qp6 b a)/\True)/\SM b/\(SM c/\True)/\True)/\True
def Qhg(a:Nd):List Nd:=Nd.ki a
def Qp7:Arr:=DA
def Qhh:Nd:=Nd.mk Z0 Z0 Z0 [] Z0 Z0 Qp7 [] [] Z0 Z0 Z0
def Qp8(a:Nd):D:=D.sl 15 (LN (Qhg a)) (fun i=>Nd.row1 (List.getD (Qhg a) i Qhh)) Mode.any
def Qp9(a b:Nat):List D:=[Qp6 a b]
def Qqa(a:Nd)(b c:Nat):List D:=Qp8 a::Qp9 b c
def Qqc(a b:Nat)(c:Int):List (Nat×Nat×AObj):=[(N1,a,AObj.cells (Qp9 b a)),(N0,b,AObj.cells [ZI c])]
theorem BnD(n : Nd)(xi xk : Nat)(q : Int)(hn : n.ki.length<=maxLen)(h : ∀b∈n.ki, CS 80 [.agg b.row1, .ref 0 xk 0, .ref 1 xi 0] (BcF xi xk q) (.bool (Im q b))) :
  CS 80 [.agg n.row2,.ref 0 xk 0,.ref 1 xi 0] (BcF xi xk q) (.bool (Im q n)):=by
 refine CS.of (Bg (A:=sS _ _ _) (x:=()) (E:=Eo1 n.ki xi xk q) (eOk (Bcy hn h) rfl) Tryz.func80 rfl (by kernel_rfl) rfl (by simp[sS,Eo1,EC,E0]) ?_)
 refine Bi (T :=
  ∀(x:Nat),xi≠x/\xk≠x/\True->SM x/\SM xk/\ifB (Qhe n==q) (True/\∃(y:Unit),True/\true=Im q n/\Qhf xi xk q) (SM x/\ifB (Qhe n != (10:Int)) (SM x/\SM xi/\∃(x_1:Unit),(wkL (Qqa n xk xi) (Qqa n xk xi)/\∃(o:Nat×Nat×AObj),St.mk ((N2,x,AObj.cells (Nd.row2 n))::Qqc xi xk q) []=St.mk (o::Qqc xi xk q) [])/\∀(y:Unit),True->True/\∃(y:Unit),True/\List.any (Qhg n) (Im q)=Im q n/\Qhf xi xk q) (True/\∃(y:Unit),True/\false=Im q n/\Qhf xi xk q))) (by kernel_rfl) ?_
 delta DA GI LN N0 N1 N2 N4 SI SM Z0 ZI Qhe Qp6 Qqc Qhf Qhg Qp7 Qhh Qp8 Qp9 Qqa
 try simp only[<- dm]
 try simp only[<- dn]
 simp only[ne_eq,Bf,true_and,and_true,beq_iff_eq,bne_iff_ne,bne_eq_false_iff_eq,beq_eq_false_iff_ne,exists_const,forall_const,Prod.exists]
 have e:=Bf9 q n
 refine fun x _=>⟨fun h=>?_,fun h=>⟨fun h2=>⟨⟨Be _,_,_,_,rfl⟩,?_⟩,fun h2=>?_⟩⟩
 ·rw[e,h];simp
 ·have h3:(n.kd==q)=false:=by simpa using h
  have h4:(n.kd != 10)=true:=by simpa using h2
  rw[e,h3,h4];simp
 ·have h3:(n.kd==q)=false:=by simpa using h
  rw[e,h3,h2];simp
theorem BnS(n:Nd)(xi xk:Nat)(q:Int)(hn:n.sm):CS 80 [.agg n.row2,.ref 0 xk 0,.ref 1 xi 0] (BcF xi xk q) (.bool (Im q n)) :=
 BnD n xi xk q (Ci (Cb hn).2.1) fun b hb=>CS.wk (BnS b xi xk q (EW hn (BS hb))) (by simp only[wkL,wkD];exact⟨Mq _,by simp[Bn,Bb],by simp[Bn,Bb],trivial⟩)
termination_by szN n
decreasing_by exact ED (BS hb)
theorem Boy(n:Nd)(xi xk:Nat)(q:Int)(hn:n.sm):CS 80 [.agg n.row1,.ref 0 xk 0,.ref 1 xi 0] (BcF xi xk q) (.bool (Im q n)) :=
 CS.wk (BnS n xi xk q hn) (by simp only[wkL,wkD];exact⟨Mq _,by simp[Bn,Bb],by simp[Bn,Bb],trivial⟩)
theorem Wg{s:Sm}(h:s.sm):∀b∈Bq s,b.sm:=by
 cases s with
 |mk kd at_ nm sl te nd =>
  simp only[Sm.sm] at h
  intro b hb
  unfold Bq at hb
  split at hb
  ·rcases List.mem_cons.1 hb with rfl | hb
   ·exact h.2.1
   ·rcases List.mem_cons.1 hb with rfl | hb
    ·exact h.2.2
    ·cases hb
  ·rcases List.mem_cons.1 hb with rfl | hb
   ·exact h.2.2
   ·cases hb
noncomputable def Eo2(s:Sm)(xi xk:Nat)(q:Int):Senv:=EC (BfE (Bq s) xi xk q) 8 4 [] (fun id=>match id with | 1=>([0,2,1,3,4],[1,3]) | _=>([],[]))
def Qhi:Arr:=DA
def Zt:Nd:=Nd.mk Z0 Z0 Z0 [] Z0 Z0 Qhi [] [] Z0 Z0 Z0
def Qqk(a:Sm):List D:=(Sm.row1 a)
def Qql(a b:Nat):D:=D.fn (Fn.func (80:Nat)) [] [D.ref N0 a N0,D.ref N1 b N0]
def Qqm(a b:Nat):Prop:=SM (Qql a b)
def Qhj(a:Sm):List Nd:=Bq a
def Qqn(a b:Nat):List D:=[Qql a b]
def Qqo(a:Sm)(b c:Nat):List D:=D.sl 15 (LN (Qhj a)) (fun i=>Nd.row1 (List.getD (Qhj a) i Zt)) Mode.any::Qqn b c
def Qqp(a b:Nat)(c:Int):List (Nat×Nat×AObj):=[(N1,a,AObj.cells (Qqn b a)),(N0,b,AObj.cells [ZI c])]
def QOE(a:Sm)(b:Int):Bool:=List.any (Qhj a) (Im b)
theorem BqO(s:Sm)(xi xk:Nat)(q:Int)(hs:s.sm):CS 82 [.agg s.row1,.ref 1 xi 0] (BcF xi xk q) (.bool ((Bq s).any (Im q))):=by
 have h2:=G2 s
 refine CS.of (Bg (A:=sS _ _ _) (x:=()) (E:=Eo2 s xi xk q) (eOk (Bcy (by unfold maxLen;omega) fun b hb=>Boy b xi xk q (Wg hs b hb)) rfl) Tryz.func82 rfl (by kernel_rfl) rfl (by simp[sS,Eo2,EC,E0]) ?_)
 refine Bi (T :=
  ∀(x:Nat),xi≠x/\xk≠x/\True->SM x/\SM xi/\∃(x_1:Sm),isS x_1 [D.agg (Qqk s)] []/\∀(y:Unit),True->(SM xi/\Qqm xk xi)/\∃(x_2:Unit),(wkL (Qqo x_1 xk xi) (Qqo s xk xi)/\∃(o:Nat×Nat×AObj),St.mk ((N2,x,AObj.cells (Qqk s))::Qqp xi xk q) []=St.mk (o::Qqp xi xk q) [])/\∀(y:Unit),True->True/\∃(y:Unit),True/\SM (QOE s q)/\(SM xi/\(Qqm xk xi/\True)/\SM xk/\(SM q/\True)/\True)/\True) (by kernel_rfl) ?_
 delta DA GI LN N0 N1 N2 N4 SI SM Z0 ZI Qhi Zt Qqk Qql Qqm Qhj Qqn Qqo Qqp QOE
 try simp only[<- dm]
 try simp only[<- dn]
 simp only[ne_eq,implies_true,true_and,and_true,exists_const,forall_const,Prod.exists]
 refine fun x _=>?_
 first
  |exact⟨s,Ir _ _,⟨Be _,_,_,_,rfl⟩⟩
  |exact⟨⟨s,Ir _ _,⟨Be _,_,_,_,rfl⟩⟩,s,Ir _ _,⟨Be _,_,_,_,rfl⟩⟩
def BnW(l:List Sm)(q:Int):Con:=fun k ds S=>match k with
 |81=>match ds with
  | [_,.fn _ _ [.ref _ xi _]]=>some (pE (β:=Nat) ds S (fun _=>.bool (ER l q)) (fun xk=>wkL ds [gsl 34 Sm.row1 l,.fn (.func 82) [] [.ref 1 xi 0]]/\S=BcF xi xk q))
  |_=>none
 |_=>none
noncomputable def Eoc(l:List Sm)(q:Int):Senv:=EC (BnW l q) 10 2 [3,4,5] (fun _=>([],[]))
def Qqq:Nd:=Nd.mk Z0 Z0 Z0 [] Z0 Z0 DA [] [] Z0 Z0 Z0
def Qqr(a:List Sm)(b:Nat):List D:=[D.sl 34 (LN a) (fun i=>Sm.row1 (List.getD a i (Sm.mk Z0 Z0 [] Z0 Qqq Qqq))) Mode.any,D.fn (Fn.func (82:Nat)) [] [D.ref N1 b N0]]
def Qqs(a b:Nat)(c:Int):St:=St.mk [(N1,a,AObj.cells [D.fn (Fn.func (80:Nat)) [] [D.ref N0 b N0,D.ref N1 a N0]]),(N0,b,AObj.cells [ZI c])] []
theorem Boq(l:List Sm)(q:Int)(hl:l.length<=maxLen)(h:∀s∈l,s.sm):CD 57 [gsl 34 Sm.row1 l,.int .i64 q] (.bool (ER l q)):=by
 refine Bg (A:=sC _ _) (x:=()) (E:=Eoc l q) (eOk ?_ rfl) Tryz.func57 rfl (by kernel_rfl) rfl (by simp[sC,Eoc,EC,E0]) ?_
 ·intro k ds S A hh
  try unfold BnW at hh
  try dsimp only at hh
  split at hh
  ·split at hh
   ·injection hh with hh;subst hh
    refine Co fun xk ⟨e,hS⟩=>?_
    rw[hS]
    exact CS.wk (Pxc_ok _ xk q l (fun s=>(Bq s).any (Im q)) (fun s hs=>BqO s _ xk q (h s hs)) hl) e
   ·cases hh
  ·cases hh
 refine Bi (T :=
  ∀(x:Nat),True->∀(x_1:Nat),x≠x_1/\True->SM x_1/\∃(x_2:Nat),(wkL (Qqr l x_1) (Qqr l x_1)/\Qqs x_1 x q=Qqs x_1 x_2 q)/\∀(y:Unit),True->RT (SM (ER l q))) (by kernel_rfl) ?_
 delta DA LN N0 N1 SM Z0 ZI Qqq Qqr Qqs RT
 try simp only[<- dm]
 try simp only[<- dn]
 simp only[ne_eq,implies_true,true_and,and_true,exists_const,forall_const]
 refine fun x x1 _=>⟨x,Be _,?_⟩
 first
  |rfl
  |exact⟨rfl,rfl⟩
def Bha(xl:Nat)(l:List Sm):St:=⟨[(0,xl,.cells [gsl 34 Sm.row1 l])],[]⟩
def Boc(l:List Sm)(q:Int):Con:=fun k ds S=>match k with
 |57=>some (pA ds S (.bool (ER l q)) (wkL ds [gsl 34 Sm.row1 l,.int .i64 q]))
 |_=>none
noncomputable def Eu1(l:List Sm)(q:Int):Senv:=EC (Boc l q) 7 2 [3] (fun _=>([],[]))
def Qqt:Nd:=Nd.mk Z0 Z0 Z0 [] Z0 Z0 DA [] [] Z0 Z0 Z0
def Qqu(a:List Sm)(b:Nat):List D:=Sm.row1 (List.getD a b (Sm.mk Z0 Z0 [] Z0 Qqt Qqt))
def Qqv(a:List Sm)(b:Int):List D:=[D.sl 34 (LN a) (fun i=>Qqu a i) Mode.any,ZI b]
theorem Bqh(l:List Sm)(q:Int)(hl:l.length<=maxLen)(h:∀s∈l,s.sm)(xl:Nat):CS 56 [.int .i64 q,.ref 0 xl 0] (Bha xl l) (.bool (ER l q)):=by
 refine CS.of (Bg (A:=sS _ _ _) (x:=()) (E:=Eu1 l q) (eOk ?_ rfl) Tryz.func56 rfl (by kernel_rfl) rfl (by simp[sS,Eu1,EC,E0]) ?_)
 ·intro k ds S A hh
  try unfold Boc at hh
  try dsimp only at hh
  split at hh
  ·injection hh with hh;subst hh
   exact Bo fun e=>CD.at_ (CD.wk (Boq l q hl h) e) _
  ·cases hh
 refine Bi (T :=
  SM xl/\∃(x:Unit),wkL (Qqv l q) (Qqv l q)/\∀(y:Unit),True->True/\∃(y:Unit),True/\SM (ER l q)/\(SM xl/\((SM (LN l)/\(∀(i:Nat),i<LN l->SM (Qqu l i))/\True)/\True)/\True)/\True) (by kernel_rfl) ?_
 delta DA LN SM Z0 ZI Qqt Qqu Qqv
 try simp only[<- dm]
 try simp only[<- dn]
 simp only[implies_true,true_and,and_true,exists_const]
 first
  |exact Be _
  |exact fun _=>Be _
def Bod(l:List Sm)(xl:Nat):Con:=fun k ds S=>match k with
 |56=>match ds with
  | [.int .i64 q,_]=>some (pA ds S (.bool (ER l q)) (wkL ds [.int .i64 q,.ref 0 xl 0]/\S=Bha xl l))
  |_=>none
 |_=>none
noncomputable def Eux(l:List Sm)(xl:Nat)(m:List Int):Senv:={ EC (Bod l xl) 19 2 [4,5,7,8,9,16] (fun _=>([],[])) with
 ann:=fun b _ S=>match b with
  |0=>some { slots:=[8],keep:=[0,1,6,7],α:=Nat,st:=fun i=>([.int .i64 i],S),inv:=fun i=>IdxG (fun q=>ER l q) m i,mu:=fun i=>m.length-i }
  |_=>none }
def Qhk(a:List Sm)(b:List Int)(c:Nat):Prop:=IdxG (fun (q:Int)=>ER a q) b c
def Qqw:Nd:=Nd.mk Z0 Z0 Z0 [] Z0 Z0 DA [] [] Z0 Z0 Z0
def Qqx(a:List Sm)(b:Nat):List D:=Sm.row1 (List.getD a b (Sm.mk Z0 Z0 [] Z0 Qqw Qqw))
def Qa7(a:Nat)(b:List Sm):Prop:=(SM a/\((SM (LN b)/\(∀(i:Nat),i<LN b->SM (Qqx b i))/\True)/\True)/\True)/\True
def QOF(a:Nat)(b:List Sm):St:=St.mk [(N0,a,AObj.cells [D.sl 34 (LN b) (fun i=>Qqx b i) Mode.any])] []
def Qqy(a:List Sm)(b:List Int):Int:=En (fun (q:Int)=>ER a q) b Z0
def QOG(a:List Int):D:=SI a
theorem Bqq(l : List Sm)(xl : Nat)(m : List Int)(hl : l.length<=maxLen)(h : ∀s∈l, s.sm)(hm : m.length<=maxLen) :
  CS 79 [isl m .any,.fn (.func 56) [] [.ref 0 xl 0]] (Bha xl l) (.int .i64 (En (fun q=>ER l q) m 0)):=by
 refine CS.of (Bg (A:=sS _ _ _) (x:=()) (E:=Eux l xl m) (eOk ?_ rfl) Tryz.func79 rfl (by kernel_rfl) rfl (by simp[sS,Eux,EC,E0]) ?_)
 ·intro k ds S A hh
  try unfold Bod at hh
  try dsimp only at hh
  split at hh
  ·split at hh
   ·injection hh with hh;subst hh
    refine Bo fun ⟨e,hS⟩=>?_
    rw[hS]
    exact CS.wk (Bqh l _ hl h xl) e
   ·cases hh
  ·cases hh
 refine Bi (T :=
  (∃(x:Nat),Qhk l m x/\(Z0=(↑x:Int)/\True)/\Qa7 xl l)/\∀(x:Nat),Qhk l m x->ifB (decide ((↑x:Int)<(LI m))) (Bc (Z0<=(↑x:Int)/\(↑x:Int)<(LI m)) (∃(x_1:Unit),(wkL [ZI (GI m (Int.toNat (↑x:Int))),D.ref N0 xl N0] [ZI (GI m (Int.toNat (↑x:Int))),D.ref N0 xl N0]/\SM (QOF xl l))/\∀(y:Unit),True->ifB (ER l (GI m (Int.toNat (↑x:Int)))) (True/\∃(y:Unit),True/\(↑x:Int)=Qqy l m/\Qa7 xl l) ((SM (QOG m)/\SM (D.fn (Fn.func (56:Nat)) [] [D.ref N0 xl N0])/\SM D.unk/\SM (ZI (LI m))/\True)/\∃(y:Nat),Qhk l m y/\LN m-y<LN m-x/\(IntKind.wrap IntKind.i64 ((↑x:Int)+Z1)=(↑y:Int)/\True)/\Qa7 xl l))) (True/\∃(y:Unit),True/\(-1:Int)=Qqy l m/\Qa7 xl l)) (by kernel_rfl) ?_
 delta DA GI LI LN N0 N1 SI SM Z0 Z1 ZI Qhk Qqw Qqx Qa7 QOF Qqy QOG
 try simp only[<- dm]
 try simp only[<- dn]
 simp only[implies_true,Int.toNat_natCast,Bf,Bd,decide_eq_true_eq,decide_eq_false_iff_not,true_and,and_true,exists_const,forall_const]
 simp only[maxLen] at hm
 refine⟨⟨0,⟨Nat.zero_le _,by simp⟩,rfl⟩,fun i hh=>⟨fun hlt=>?_,fun hge=>(hh.done hge).symm⟩⟩
 have hlt':i<m.length:=by omega
 obtain ⟨s1,s2⟩:=hh.step hlt'
 have e0:m.getD i default=m.getD i 0:=rfl
 rw[e0] at s1 s2
 refine⟨⟨by omega,hlt⟩,?_⟩
 exact⟨Be _,fun e=>(s1 e).symm,fun e=>⟨i+1,s2 e,by omega,Ba (by omega) (by omega)⟩⟩
def Bok(l:List Sm)(xl:Nat)(m:List Int):Con:=fun k ds S=>match k with
 |79=>some (pA ds S (.int .i64 (En (fun q=>ER l q) m 0)) (wkL ds [isl m .any,.fn (.func 56) [] [.ref 0 xl 0]]/\S=Bha xl l))
 |_=>none
noncomputable def Euc(l:List Sm)(xl:Nat)(m:List Int):Senv:=EC (Bok l xl m) 9 2 [4] (fun _=>([],[]))
def Qqz(a:List Int)(b:Nat):List D:=[SI a,D.fn (Fn.func (56:Nat)) [] [D.ref N0 b N0]]
def QqA:Nd:=Nd.mk Z0 Z0 Z0 [] Z0 Z0 DA [] [] Z0 Z0 Z0
def QqB(a:List Sm)(b:Nat):List D:=Sm.row1 (List.getD a b (Sm.mk Z0 Z0 [] Z0 QqA QqA))
def QOH(a:Nat)(b:List Sm):St:=St.mk [(N0,a,AObj.cells [D.sl 34 (LN b) (fun i=>QqB b i) Mode.any])] []
theorem BpY(l : List Sm)(xl : Nat)(m : List Int)(hl : l.length<=maxLen)(h : ∀s∈l, s.sm)(hm : m.length<=maxLen) :
  CS 55 [isl m .any,.fn (.func 56) [] [.ref 0 xl 0]] (Bha xl l) (.bool (m.any fun q=>ER l q)):=by
 refine CS.of (Bg (A:=sS _ _ _) (x:=()) (E:=Euc l xl m) (eOk ?_ rfl) Tryz.func55 rfl (by kernel_rfl) rfl (by simp[sS,Euc,EC,E0]) ?_)
 ·intro k ds S A hh
  try unfold Bok at hh
  try dsimp only at hh
  split at hh
  ·injection hh with hh;subst hh
   refine Bo fun ⟨e,hS⟩=>?_
   rw[hS]
   exact CS.wk (Bqq l xl m hl h hm) e
  ·cases hh
 refine Bi (T :=
  ∃(x:Unit),(wkL (Qqz m xl) (Qqz m xl)/\SM (QOH xl l))/\∀(y:Unit),True->True/\∃(y:Unit),True/\(decide (Z0<=En (fun (q:Int)=>ER l q) m Z0)=List.any m fun (q:Int)=>ER l q)/\(SM xl/\((SM (LN l)/\(∀(i:Nat),i<LN l->SM (QqB l i))/\True)/\True)/\True)/\True) (by kernel_rfl) ?_
 delta DA GI LN N0 N1 SI SM Z0 ZI Qqz QqA QqB QOH
 simp only[true_and,and_true,exists_const,forall_const]
 have e:=Ez (fun q=>ER l q) m 0 (Int.le_refl _)
 first
  |exact⟨Be _,e⟩
  |exact⟨⟨Be _,rfl⟩,e⟩
  |exact⟨Be _,e,fun _ _=>trivial⟩
def BnX(l:List Sm):Con:=fun k ds S=>match k with
 |55=>match ds with
  | [_,.fn _ _ [.ref _ xl _]]=>some (pA ds S (.bool (RK l)) (wkL ds [isl [6,7,11,12,13] .any,.fn (.func 56) [] [.ref 0 xl 0]]/\S=Bha xl l))
  |_=>none
 |_=>none
noncomputable def Eou(l:List Sm):Senv:=EC (BnX l) 6 3 [] (fun _=>([],[]))
def QqC(a:Nat):List D:=[D.fn (Fn.func (56:Nat)) [] [D.ref N0 a N0]]
def QqD:Nd:=Nd.mk Z0 Z0 Z0 [] Z0 Z0 DA [] [] Z0 Z0 Z0
def QOI(a:Nat)(b:List Sm):St:=St.mk [(N0,a,AObj.cells [D.sl 34 (LN b) (fun i=>Sm.row1 (List.getD b i (Sm.mk Z0 Z0 [] Z0 QqD QqD))) Mode.any])] []
theorem Bqw(l:List Sm)(hl:l.length<=maxLen)(h:∀s∈l,s.sm):CD 33 [gsl 34 Sm.row1 l] (.bool (RK l)):=by
 refine Bg (A:=sC _ _) (x:=()) (E:=Eou l) (eOk ?_ rfl) Tryz.func33 rfl (by kernel_rfl) rfl (by simp[sC,Eou,EC,E0]) ?_
 ·intro k ds S A hh
  try unfold BnX at hh
  try dsimp only at hh
  split at hh
  ·split at hh
   ·injection hh with hh;subst hh
    refine Bo fun ⟨e,hS⟩=>?_
    rw[hS]
    exact CS.wk (BpY l _ [6,7,11,12,13] hl h (by decide)) e
   ·cases hh
  ·cases hh
 refine Bi (T :=
  ∀(x:Nat),True->∃(x_1:Unit),(wkL (D.sl N1 (5:Nat) (fun i=>List.getD [[ZI 6],[ZI 7],[ZI 11],[ZI 12],[ZI 13]] i []) Mode.full::QqC x) (D.sl N1 (5:Nat) (fun i=>[ZI (GI [(6:Int),(7:Int),(11:Int),(12:Int),(13:Int)] i)]) Mode.any::QqC x)/\SM (QOI x l))/\∀(y:Unit),True->RT (SM (RK l))) (by kernel_rfl) ?_
 delta DA GI LN N0 N1 SM Z0 ZI QqC QqD QOI RT
 try simp only[<- dm]
 try simp only[<- dn]
 simp only[implies_true,and_true,exists_const,forall_const]
 intro x
 simp only[wkL,wkD,Bb]
 refine⟨⟨by simp,by simp,fun i hi=>?_,by simp[BG]⟩,by simp[Bn],trivial⟩
 match i,hi with
 |0,_=>exact Be _
 |1,_=>exact Be _
 |2,_=>exact Be _
 |3,_=>exact Be _
 |4,_=>exact Be _
theorem Bde{L:List D}{M:List (List UInt8)}(h:L=M.map D.str){n:Nat}(hn:n<M.length):Bn (L.getD n D.unk) (.str (M.getD n [])):=by
 subst h
 have:(M.map D.str).getD n D.unk=.str (M.getD n []):=by simp[List.getD_eq_getElem?_getD,hn]
 rw[this]
 exact Bp _
theorem BiB:primL.length=56:=by decide +kernel
theorem BmX:opL.length=12:=by decide +kernel
theorem Tk{p:Int}(h:p<1\/56<=p):Cf p=[]:=if_pos h
theorem BbO{p:Int}(h:p<1\/12<=p):opT p=[]:=if_pos h
theorem BgV{p:Int}(h:¬(p<1\/56<=p)):Cf p=primL.getD p.toNat []:=if_neg h
theorem Bor{p:Int}(h:¬(p<1\/12<=p)):opT p=opL.getD p.toNat []:=if_neg h
noncomputable def Epn:Senv:={ EC EB 14 1 [2,3,10] (fun _=>([],[])) with mg:=fun _=>2 }
def QqE(a:Int):Prop:=True/\∃(_y:Unit),True/\Cw (List UInt8) [] (Cf a)/\True/\True
theorem BkQ(p:Int):ACalls Tryz.prog 77 [.int .i64 p] ⟨[],[]⟩ (SpecR (sC [.int .i64 p] (.str (Cf p))) ()):=by
 refine Bg (A:=sC _ _) (x:=()) (E:=Epn) (eOk BM rfl) Tryz.func77 rfl (by kernel_rfl) rfl (by simp[sC,Epn,EC,E0]) ?_
 refine Bi (T :=
  ∀(x:Nat),True->SM x/\ifB (decide (p<Z1)) (QqE p) (ifB (decide ((56:Int)<=p)) (QqE p) (Bc (Z0<=p/\p<56) (SM x/\Bc (N0+Int.toNat p*N1+N1<=56) (True/\∃(y:Unit),True/\Bn (List.getD [D.str [],D.str [43],D.str [45],D.str [42],D.str [37],D.str [124],D.str [94],D.str [109,105,110],D.str [109,97,120],D.str [60],D.str [60,61],D.str [61],D.str [126,61],D.str [62,61],D.str [62],D.str [97,110,100],D.str [111,114],D.str [110,111,116],D.str [115,104,97,112,101],D.str [114,101,115,104,97,112,101],D.str [116,97,108,108,121],D.str [100,101,112,116,104],D.str [44],D.str [115,116,97,99,107],D.str [105,111,116,97],D.str [116,97,107,101],D.str [100,114,111,112],D.str [102,105,114,115,116],D.str [114,101,118,101,114,115,101],D.str [114,111,116,97,116,101],D.str [116,114,97,110,115,112,111,115,101],D.str [102,114,111,109],D.str [112,105,99,107],D.str [115,101,108,101,99,116],D.str [97,109,101,110,100],D.str [117,112],D.str [100,111,119,110],D.str [115,111,114,116],D.str [102,105,110,100],D.str [105,110],D.str [117,110,105,113,117,101],D.str [119,104,101,114,101],D.str [99,111,112,121],D.str [101,120,112,97,110,100],D.str [99,117,116],D.str [101,110,99,111,100,101],D.str [100,101,99,111,100,101],D.str [98,111,120],D.str [111,112,101,110],D.str [115,97,109,101],D.str [107,105,110,100],D.str [111,114,100],D.str [99,104,114],D.str [102,111,114,109,97,116],D.str [108,101,102,116],D.str [114,105,103,104,116]] (N0+Int.toNat p*N1) D.unk) (D.str (Cf p))/\True/\True))))) (by kernel_rfl) ?_
 delta N0 N1 SM Z0 Z1 QqE
 simp only[Bf,Bd,decide_eq_true_eq,decide_eq_false_iff_not,Nat.mul_one,true_and,and_true,exists_const]
 refine fun x _=>⟨fun h=>(Tk (.inl h)).symm,fun h1=>⟨fun h=>(Tk (.inr h)).symm,fun h2=>⟨⟨by omega,by omega⟩,by omega,?_⟩⟩⟩
 rw[BgV (by omega),Nat.zero_add]
 exact Bde (M:=primL) (by kernel_rfl) (by rw[BiB];omega)
noncomputable def Eon:Senv:={ EC EB 14 1 [2,3,10] (fun _=>([],[])) with mg:=fun _=>2 }
def QqF(a:Int):Prop:=True/\∃(_y:Unit),True/\Cw (List UInt8) [] (opT a)/\True/\True
theorem Bmh(p:Int):ACalls Tryz.prog 78 [.int .i64 p] ⟨[],[]⟩ (SpecR (sC [.int .i64 p] (.str (opT p))) ()):=by
 refine Bg (A:=sC _ _) (x:=()) (E:=Eon) (eOk BM rfl) Tryz.func78 rfl (by kernel_rfl) rfl (by simp[sC,Eon,EC,E0]) ?_
 refine Bi (T :=
  ∀(x:Nat),True->SM x/\ifB (decide (p<Z1)) (QqF p) (ifB (decide ((12:Int)<=p)) (QqF p) (Bc (Z0<=p/\p<12) (SM x/\Bc (N0+Int.toNat p*N1+N1<=12) (True/\∃(y:Unit),True/\Bn (List.getD [D.str [],D.str [47],D.str [92],D.str [101,97,99,104],D.str [115,119,97,112],D.str [111,117,116,101,114],D.str [105,110,110,101,114],D.str [114,97,110,107],D.str [112,111,119,101,114],D.str [115,116,101,110,99,105,108],D.str [97,116,111,112],D.str [111,118,101,114]] (N0+Int.toNat p*N1) D.unk) (D.str (opT p))/\True/\True))))) (by kernel_rfl) ?_
 delta N0 N1 SM Z0 Z1 QqF
 simp only[Bf,Bd,decide_eq_true_eq,decide_eq_false_iff_not,Nat.mul_one,true_and,and_true,exists_const]
 refine fun x _=>⟨fun h=>(BbO (.inl h)).symm,fun h1=>⟨fun h=>(BbO (.inr h)).symm,fun h2=>⟨⟨by omega,by omega⟩,by omega,?_⟩⟩⟩
 rw[Bor (by omega),Nat.zero_add]
 exact Bde (M:=opL) (by kernel_rfl) (by rw[BmX];omega)
noncomputable def Erpn:Senv:={ EC EB 18 1 [2,3,12] (fun _=>([],[])) with mg:=fun _=>2 }
def QqG(a:Int):Prop:=True/\∃(_y:Unit),True/\Cw (List UInt8) [] (Cf a)/\True/\True
theorem Bpo(p:Int)(h:Bt p):ACalls Tryz.prog 150 [.int .i64 p] ⟨[],[]⟩ (SpecR (sC [.int .i64 p] (.str (Cf p))) ()):=by
 refine Bg (A:=sC _ _) (x:=()) (E:=Erpn) (eOk BM rfl) Tryz.func150 rfl (by kernel_rfl) rfl (by simp[sC,Erpn,EC,E0]) ?_
 refine Bi (T :=
  ifB (decide (p<Z1)) (QqG p) (ifB (decide ((55:Int)<p)) (QqG p) (Bc (Z0<=IntKind.wrap IntKind.i64 (p-Z1)/\IntKind.wrap IntKind.i64 (p-Z1)<55) (True/\∃(y:Unit),True/\List.getD [[(43:UInt8)],[(45:UInt8)],[(42:UInt8)],[(37:UInt8)],[(124:UInt8)],[(94:UInt8)],[(109:UInt8),(105:UInt8),(110:UInt8)],[(109:UInt8),(97:UInt8),(120:UInt8)],[(60:UInt8)],[(60:UInt8),(61:UInt8)],[(61:UInt8)],[(126:UInt8),(61:UInt8)],[(62:UInt8),(61:UInt8)],[(62:UInt8)],[(97:UInt8),(110:UInt8),(100:UInt8)],[(111:UInt8),(114:UInt8)],[(110:UInt8),(111:UInt8),(116:UInt8)],[(115:UInt8),(104:UInt8),(97:UInt8),(112:UInt8),(101:UInt8)],[(114:UInt8),(101:UInt8),(115:UInt8),(104:UInt8),(97:UInt8),(112:UInt8),(101:UInt8)],[(116:UInt8),(97:UInt8),(108:UInt8),(108:UInt8),(121:UInt8)],[(100:UInt8),(101:UInt8),(112:UInt8),(116:UInt8),(104:UInt8)],[(44:UInt8)],[(115:UInt8),(116:UInt8),(97:UInt8),(99:UInt8),(107:UInt8)],[(105:UInt8),(111:UInt8),(116:UInt8),(97:UInt8)],[(116:UInt8),(97:UInt8),(107:UInt8),(101:UInt8)],[(100:UInt8),(114:UInt8),(111:UInt8),(112:UInt8)],[(102:UInt8),(105:UInt8),(114:UInt8),(115:UInt8),(116:UInt8)],[(114:UInt8),(101:UInt8),(118:UInt8),(101:UInt8),(114:UInt8),(115:UInt8),(101:UInt8)],[(114:UInt8),(111:UInt8),(116:UInt8),(97:UInt8),(116:UInt8),(101:UInt8)],[(116:UInt8),(114:UInt8),(97:UInt8),(110:UInt8),(115:UInt8),(112:UInt8),(111:UInt8),(115:UInt8),(101:UInt8)],[(102:UInt8),(114:UInt8),(111:UInt8),(109:UInt8)],[(112:UInt8),(105:UInt8),(99:UInt8),(107:UInt8)],[(115:UInt8),(101:UInt8),(108:UInt8),(101:UInt8),(99:UInt8),(116:UInt8)],[(97:UInt8),(109:UInt8),(101:UInt8),(110:UInt8),(100:UInt8)],[(117:UInt8),(112:UInt8)],[(100:UInt8),(111:UInt8),(119:UInt8),(110:UInt8)],[(115:UInt8),(111:UInt8),(114:UInt8),(116:UInt8)],[(102:UInt8),(105:UInt8),(110:UInt8),(100:UInt8)],[(105:UInt8),(110:UInt8)],[(117:UInt8),(110:UInt8),(105:UInt8),(113:UInt8),(117:UInt8),(101:UInt8)],[(119:UInt8),(104:UInt8),(101:UInt8),(114:UInt8),(101:UInt8)],[(99:UInt8),(111:UInt8),(112:UInt8),(121:UInt8)],[(101:UInt8),(120:UInt8),(112:UInt8),(97:UInt8),(110:UInt8),(100:UInt8)],[(99:UInt8),(117:UInt8),(116:UInt8)],[(101:UInt8),(110:UInt8),(99:UInt8),(111:UInt8),(100:UInt8),(101:UInt8)],[(100:UInt8),(101:UInt8),(99:UInt8),(111:UInt8),(100:UInt8),(101:UInt8)],[(98:UInt8),(111:UInt8),(120:UInt8)],[(111:UInt8),(112:UInt8),(101:UInt8),(110:UInt8)],[(115:UInt8),(97:UInt8),(109:UInt8),(101:UInt8)],[(107:UInt8),(105:UInt8),(110:UInt8),(100:UInt8)],[(111:UInt8),(114:UInt8),(100:UInt8)],[(99:UInt8),(104:UInt8),(114:UInt8)],[(102:UInt8),(111:UInt8),(114:UInt8),(109:UInt8),(97:UInt8),(116:UInt8)],[(108:UInt8),(101:UInt8),(102:UInt8),(116:UInt8)],[(114:UInt8),(105:UInt8),(103:UInt8),(104:UInt8),(116:UInt8)]] (Int.toNat (IntKind.wrap IntKind.i64 (p-Z1))) []=Cf p/\True/\True)))) (by kernel_rfl) ?_
 delta Z0 Z1 QqG
 simp only[Bf,Bd,decide_eq_true_eq,decide_eq_false_iff_not,true_and,and_true,exists_const]
 unfold Bt at h
 refine⟨fun h=>(Tk (.inl h)).symm,fun h1=>⟨fun h=>(Tk (.inr (by omega))).symm,fun h2=>?_⟩⟩
 have w:IntKind.i64.wrap (p-1)=p-1:=Ba (by omega) (by omega)
 rw[w,BgV (by omega)]
 refine⟨⟨by omega,by omega⟩,?_⟩
 have e:primL.getD p.toNat []=(primL.drop 1).getD (p-1).toNat []:=by
  rw[List.getD_eq_getElem?_getD,List.getD_eq_getElem?_getD,List.getElem?_drop]
  congr 2;omega
 rw[e]
 have hL:∀A:List (List UInt8),A=primL.drop 1->A.getD (p-1).toNat []=(primL.drop 1).getD (p-1).toNat []:=fun A e=>by rw[e]
 first
  |exact hL _ (by decide +kernel)
  |exact⟨trivial,hL _ (by decide +kernel)⟩
noncomputable def Eron:Senv:={ EC EB 18 1 [2,3,12] (fun _=>([],[])) with mg:=fun _=>2 }
def QqH(a:Int):Prop:=True/\∃(_y:Unit),True/\Cw (List UInt8) [] (opT a)/\True/\True
theorem BpM(p:Int)(h:Bt p):ACalls Tryz.prog 151 [.int .i64 p] ⟨[],[]⟩ (SpecR (sC [.int .i64 p] (.str (opT p))) ()):=by
 refine Bg (A:=sC _ _) (x:=()) (E:=Eron) (eOk BM rfl) Tryz.func151 rfl (by kernel_rfl) rfl (by simp[sC,Eron,EC,E0]) ?_
 refine Bi (T :=
  ifB (decide (p<Z1)) (QqH p) (ifB (decide ((11:Int)<p)) (QqH p) (Bc (Z0<=IntKind.wrap IntKind.i64 (p-Z1)/\IntKind.wrap IntKind.i64 (p-Z1)<11) (True/\∃(y:Unit),True/\List.getD [[(47:UInt8)],[(92:UInt8)],[(101:UInt8),(97:UInt8),(99:UInt8),(104:UInt8)],[(115:UInt8),(119:UInt8),(97:UInt8),(112:UInt8)],[(111:UInt8),(117:UInt8),(116:UInt8),(101:UInt8),(114:UInt8)],[(105:UInt8),(110:UInt8),(110:UInt8),(101:UInt8),(114:UInt8)],[(114:UInt8),(97:UInt8),(110:UInt8),(107:UInt8)],[(112:UInt8),(111:UInt8),(119:UInt8),(101:UInt8),(114:UInt8)],[(115:UInt8),(116:UInt8),(101:UInt8),(110:UInt8),(99:UInt8),(105:UInt8),(108:UInt8)],[(97:UInt8),(116:UInt8),(111:UInt8),(112:UInt8)],[(111:UInt8),(118:UInt8),(101:UInt8),(114:UInt8)]] (Int.toNat (IntKind.wrap IntKind.i64 (p-Z1))) []=opT p/\True/\True)))) (by kernel_rfl) ?_
 delta Z0 Z1 QqH
 simp only[Bf,Bd,decide_eq_true_eq,decide_eq_false_iff_not,true_and,and_true,exists_const]
 unfold Bt at h
 refine⟨fun h=>(BbO (.inl h)).symm,fun h1=>⟨fun h=>(BbO (.inr (by omega))).symm,fun h2=>?_⟩⟩
 have w:IntKind.i64.wrap (p-1)=p-1:=Ba (by omega) (by omega)
 rw[w,Bor (by omega)]
 refine⟨⟨by omega,by omega⟩,?_⟩
 have e:opL.getD p.toNat []=(opL.drop 1).getD (p-1).toNat []:=by
  rw[List.getD_eq_getElem?_getD,List.getD_eq_getElem?_getD,List.getElem?_drop]
  congr 2;omega
 rw[e]
 have hL:∀A:List (List UInt8),A=opL.drop 1->A.getD (p-1).toNat []=(opL.drop 1).getD (p-1).toNat []:=fun A e=>by rw[e]
 first
  |exact hL _ (by decide +kernel)
  |exact⟨trivial,hL _ (by decide +kernel)⟩
def Mt(c:Int):List UInt8:=(Utf8.encode c).data.toList
def Ge(c q:Int):List UInt8 :=
 if c=10 then [92,110] else if c=9 then [92,116] else if c=13 then [92,114] else if c=92\/c=q then 92::Mt c
 else if c<32\/c=127 then [92,117,123]++Gw c.toNat++[125] else Mt c
theorem Mw(c:Int):(Mt c).length<=4:=by
 have : ∀c : Nat, ((if c<0x80 then ⟨#[UInt8.ofNat c]⟩
   else if c<0x800 then ⟨#[UInt8.ofNat (0xC0+c / 64),UInt8.ofNat (0x80+c % 64)]⟩
   else if c<0x10000 then ⟨#[UInt8.ofNat (0xE0+c / 4096),UInt8.ofNat (0x80+c / 64 % 64),UInt8.ofNat (0x80+c % 64)]⟩
   else ⟨#[UInt8.ofNat (0xF0+c / 262144),UInt8.ofNat (0x80+c / 4096 % 64),UInt8.ofNat (0x80+c / 64 % 64),UInt8.ofNat (0x80+c % 64)]⟩:ByteArray).data.toList).length<=4:=fun c=>by
  (repeat' split)<;>simp
 exact this _
theorem WA(n:Nat):(Gw n).length<=2:=by unfold Gw;split<;>simp
def WJ:Con:=fun k ds S=>match k with
 |162=>match ds with
  | [.int .i64 n,.int .i64 16]=>some (pC [.int .i64 n,.int .i64 16] (.str (Gw n.toNat)) (0<=n/\n<128))
  |_=>none
 |k=>BfM k ds S
theorem TQ:ConOk Tryz.prog WJ:=by
 intro k ds S A h
 unfold WJ at h
 split at h
 ·split at h
  ·injection h with h;subst h
   exact BW fun h1=>⟨Bk _,Bpd _ h1⟩
  ·cases h
 ·exact BdW _ _ _ _ h
noncomputable def Ees:Senv:=EC WJ 32 2 [4,5,6,8,10,12,24] (fun _=>([],[]))
def XN(a b:Int):List UInt8:=Ge a b
def Qhl(a:Int):List UInt8:=Array.toList (ByteArray.data (Utf8.encode a))
def QqI(a b:Int):Prop:=Bc (N1+LN (Qhl a)<=9223372036854775807) (True/\∃(_y:Unit),True/\(92:UInt8)::List.append [] (Qhl a)=XN a b/\True/\True)
def Qhm(a:Int):Bool:=bif decide (a<32) then true else a==127
def QqJ(a:Int):List UInt8:=Gw (Int.toNat (IntKind.wrap IntKind.i64 a))
def QqK(a:Int):List UInt8:=List.append [] (QqJ a)
def QqL(a b:Int):Prop:=ifB (decide (a<32)) (true=Qhm a/\True) ((a==127)=Qhm a/\True)/\ifB (Qhm a) ((Z0<=IntKind.wrap IntKind.i64 a/\IntKind.wrap IntKind.i64 a<128)/\∀(_y:Unit),True->Bc ((3:Nat)+LN (QqJ a)<=9223372036854775807) (Bc (LN ((92:UInt8)::(117:UInt8)::(123:UInt8)::QqK a)+N1<=9223372036854775807) (True/\∃(_y:Unit),True/\(92:UInt8)::(117:UInt8)::(123:UInt8)::List.append (QqK a) [(125:UInt8)]=XN a b/\True/\True))) (True/\∃(_y:Unit),True/\Qhl a=XN a b/\True/\True)
theorem BpT(c q:Int)(h:0<=c/\c<=1114111):ACalls Tryz.prog 155 [.int .i32 c,.int .i32 q] ⟨[],[]⟩ (SpecR (sC [.int .i32 c,.int .i32 q] (.str (Ge c q))) ()):=by
 refine Bg (A:=sC _ _) (x:=()) (E:=Ees) (eOk TQ rfl) Tryz.func155 rfl (by kernel_rfl) rfl (by simp[sC,Ees,EC,E0]) ?_
 refine Bi (T :=
  ifB (c==10) (RT ([(92:UInt8),(110:UInt8)]=XN c q)) (ifB (c==9) (RT ([(92:UInt8),(116:UInt8)]=XN c q)) (ifB (c==13) (RT ([(92:UInt8),(114:UInt8)]=XN c q)) (ifB (c==92) (ifB (c==92) (QqI c q) (QqL c q)) (ifB (c==q) (QqI c q) (QqL c q)))))) (by kernel_rfl) ?_
 delta LN N1 Z0 XN Qhl QqI Qhm QqJ QqK QqL RT
 have e:IntKind.i64.wrap c=c:=Ba (by omega) (by omega)
 have l1:=Mw c
 have l2:=WA c.toNat
 unfold Mt at l1
 have a1:∀l:List UInt8,[].append l=l:=fun _=>rfl
 have a2:∀l r:List UInt8,l.append r=l++r:=fun _ _=>rfl
 simp only[a1,a2,Bf,Bd,e,beq_iff_eq,beq_eq_false_iff_ne,decide_eq_true_eq,decide_eq_false_iff_not,Bool.cond_true_left,Bool.or_eq_true,Bool.or_eq_false_iff,true_and,and_true,exists_const,forall_const,List.length_cons]
 refine⟨fun h=>by subst h;rfl,fun h1=>⟨fun h=>by subst h;rfl,fun h2=>⟨fun h=>by subst h;rfl,fun h3=>⟨fun h4=>⟨fun _=>⟨by omega,?_⟩,fun hh=>(hh h4).elim⟩,fun h4=>⟨fun h5=>⟨by omega,?_⟩,fun h5=>⟨⟨fun h=>by simp[h],fun h=>by simp[h]⟩,fun h6=>⟨by omega,by omega,by omega,?_⟩,fun h6=>?_⟩⟩⟩⟩⟩⟩
 ·unfold Ge;rw[if_neg h1,if_neg h2,if_neg h3,if_pos (.inl h4)];rfl
 ·unfold Ge;rw[if_neg h1,if_neg h2,if_neg h3,if_pos (.inr h5)];rfl
 ·unfold Ge;rw[if_neg h1,if_neg h2,if_neg h3,if_neg (by omega),if_pos h6];rfl
 ·unfold Ge;rw[if_neg h1,if_neg h2,if_neg h3,if_neg (by omega),if_neg (by omega)];rfl
theorem Blj:∀k,k<16->List.drop k (List.take (k+1) ([48,49,50,51,52,53,54,55,56,57,97,98,99,100,101,102]:List UInt8))=[Ba0 k]:=by decide
noncomputable def Erh1:Senv:=EC EB 22 1 [2,3,5] (fun id=>match id with | 4=>([0,1,3,4,5,6,7,8,9,2,10,11],[2]) | _=>([],[]))
theorem Bqc(n:Int)(h:0<=n/\n<16):ACalls Tryz.prog 179 [.int .i64 n] ⟨[],[]⟩ (SpecR (sC [.int .i64 n] (.str [Ba0 n.toNat])) ()):=by
 refine Bg (A:=sC _ _) (x:=()) (E:={ Erh1 with inl:=fun _ _ _ _=>False }) ⟨Bec,BM,mix,fun _ _ _ _ h=>h.elim,BeZ⟩ Tryz.func179 rfl (by kernel_rfl) rfl (by simp[sC,Erh1,EC,E0]) ?_
 refine Bi (T :=
  ifB (decide (n<16)) (Bc (Z0<=n/\n<=IntKind.wrap IntKind.i64 (n+Z1)/\IntKind.wrap IntKind.i64 (n+Z1)<=16) (RT (List.drop (Int.toNat n) (List.take (Int.toNat (IntKind.wrap IntKind.i64 (n+Z1))) [(48:UInt8),(49:UInt8),(50:UInt8),(51:UInt8),(52:UInt8),(53:UInt8),(54:UInt8),(55:UInt8),(56:UInt8),(57:UInt8),(97:UInt8),(98:UInt8),(99:UInt8),(100:UInt8),(101:UInt8),(102:UInt8)])=[Ba0 (Int.toNat n)]))) (Bc (Z0<=Int.tmod n (16:Int)/\Int.tmod n (16:Int)<=IntKind.wrap IntKind.i64 (Int.tmod n (16:Int)+Z1)/\IntKind.wrap IntKind.i64 (Int.tmod n (16:Int)+Z1)<=16) False)) (by kernel_rfl) ?_
 delta Z0 Z1 RT
 rw[Bf]
 refine⟨fun _=>?_,fun h1=>absurd h.2 (by simpa using h1)⟩
 rw[Bd,Ba (by omega) (by omega)]
 refine⟨by omega,trivial,(),trivial,?_,trivial,trivial⟩
 rw[show (n+1).toNat=n.toNat+1 by omega]
 exact Blj _ (by omega)
def BjW:Con:=fun k ds S=>match k with
 |179=>match ds with
  | [.int .i64 n]=>some (pC [.int .i64 n] (.str [Ba0 n.toNat]) (0<=n/\n<16))
  |_=>none
 |k=>WJ k ds S
theorem Bj9:ConOk Tryz.prog BjW:=by
 intro k ds S A h
 unfold BjW at h
 split at h
 ·split at h
  ·injection h with h;subst h
   exact BW fun h1=>⟨Bk _,Bqc _ h1⟩
  ·cases h
 ·exact TQ _ _ _ _ h
noncomputable def Erh2:Senv:=EC BjW 22 1 [2,3,5] (fun id=>match id with | 4=>([0,1,3,4,5,6,7,8,9,2,10,11],[2]) | _=>([],[]))
def QqM:List UInt8:=[(48:UInt8),(49:UInt8),(50:UInt8),(51:UInt8),(52:UInt8),(53:UInt8),(54:UInt8),(55:UInt8),(56:UInt8),(57:UInt8),(97:UInt8),(98:UInt8),(99:UInt8),(100:UInt8),(101:UInt8),(102:UInt8)]
def Qhn(a:Int):Int:=IntKind.wrap IntKind.i64 (Int.tmod a (16:Int)+Z1)
def QqN(a:Int):List UInt8:=List.drop (Int.toNat (Int.tmod a (16:Int))) (List.take (Int.toNat (Qhn a)) QqM)
theorem BmR(n:Int)(h:0<=n/\n<128):ACalls Tryz.prog 179 [.int .i64 n] ⟨[],[]⟩ (SpecR (sC [.int .i64 n] (.str (Gw n.toNat))) ()):=by
 refine Bg (A:=sC _ _) (x:=()) (E:=Erh2) (eOk Bj9 rfl) Tryz.func179 rfl (by kernel_rfl) rfl (by simp[sC,Erh2,EC,E0]) ?_
 refine Bi (T :=
  ifB (decide (n<16)) (Bc (Z0<=n/\n<=IntKind.wrap IntKind.i64 (n+Z1)/\IntKind.wrap IntKind.i64 (n+Z1)<=16) (RT (List.drop (Int.toNat n) (List.take (Int.toNat (IntKind.wrap IntKind.i64 (n+Z1))) QqM)=Gw (Int.toNat n)))) (Bc (Z0<=Int.tmod n (16:Int)/\Int.tmod n (16:Int)<=Qhn n/\Qhn n<=16) ((Z0<=IntKind.wrap IntKind.i64 (Int.tdiv n (16:Int))/\IntKind.wrap IntKind.i64 (Int.tdiv n (16:Int))<16)/\∀(y:Unit),True->Bc (N1+LN (QqN n)<=9223372036854775807) (RT (Ba0 (Int.toNat (IntKind.wrap IntKind.i64 (Int.tdiv n (16:Int))))::List.append [] (QqN n)=Gw (Int.toNat n)))))) (by kernel_rfl) ?_
 delta LN N1 Z0 Z1 QqM Qhn QqN RT
 rw[Bf]
 have ho:n.tmod 16=((n.toNat % 16:Nat):Int):=by
  obtain ⟨m,rfl⟩:∃m:Nat,n=m:=⟨n.toNat,by omega⟩
  rfl
 have hd:n.tdiv 16=((n.toNat / 16:Nat):Int):=by
  obtain ⟨m,rfl⟩:∃m:Nat,n=m:=⟨n.toNat,by omega⟩
  rfl
 refine⟨fun h1=>?_,fun h1=>?_⟩
 ·have h1:n<16:=by simpa using h1
  rw[Bd,Ba (by omega) (by omega)]
  refine⟨by omega,trivial,(),trivial,?_,trivial,trivial⟩
  rw[show (n+1).toNat=n.toNat+1 by omega,Blj _ (by omega)]
  unfold Gw;rw[if_pos (by omega)]
 ·have h1:¬n<16:=by simpa using h1
  have e1:IntKind.i64.wrap (((n.toNat % 16:Nat):Int)+1)=((n.toNat % 16+1:Nat):Int):=by rw[Ba (by omega) (by omega)];omega
  have e2:IntKind.i64.wrap ((n.toNat / 16:Nat):Int)=((n.toNat / 16:Nat):Int):=Ba (by omega) (by omega)
  rw[ho,hd,e1,e2,Bd]
  refine⟨by omega,by omega,fun _ _=>?_⟩
  rw[Int.toNat_natCast,Int.toNat_natCast,Int.toNat_natCast,Blj _ (by omega),Bd]
  refine⟨by simp,trivial,(),trivial,?_,trivial,trivial⟩
  unfold Gw;rw[if_neg (by omega)];rfl
def Bcz:Con:=fun k ds S=>match k with
 |179=>match ds with
  | [.int .i64 n]=>some (pC [.int .i64 n] (.str (Gw n.toNat)) (0<=n/\n<128))
  |_=>none
 |155=>match ds with
  | [.int .i32 c,.int .i32 q]=>some (pC [.int .i32 c,.int .i32 q] (.str (Ge c q)) (0<=c/\c<=1114111))
  |_=>none
 |k=>WJ k ds S
theorem W4:ConOk Tryz.prog Bcz:=by
 intro k ds S A h
 unfold Bcz at h
 split at h
 ·split at h
  ·injection h with h;subst h
   exact BW fun h1=>⟨Bk _,BmR _ h1⟩
  ·cases h
 ·split at h
  ·injection h with h;subst h
   exact BW fun h1=>⟨Bk _,BpT _ _ h1⟩
  ·cases h
 ·exact TQ _ _ _ _ h
noncomputable def Erx:Senv:=EC Bcz 33 2 [4,5,6,8,10,12,25] (fun _=>([],[]))
def XO(a b:Int):List UInt8:=Ge a b
def Qho(a:Int):List UInt8:=Array.toList (ByteArray.data (Utf8.encode (IntKind.wrap IntKind.i32 a)))
def QqO(a b:Int):Prop:=Bc (N1+LN (Qho a)<=9223372036854775807) (True/\∃(_y:Unit),True/\(92:UInt8)::List.append [] (Qho a)=XO a b/\True/\True)
def Qhp(a:Int):Bool:=bif decide (a<32) then true else a==127
def QqP(a:Int):List UInt8:=List.append [] (Gw (Int.toNat a))
def QqQ(a b:Int):Prop:=ifB (decide (a<32)) (true=Qhp a/\True) ((a==127)=Qhp a/\True)/\ifB (Qhp a) ((Z0<=a/\a<128)/\∀(_y:Unit),True->Bc ((3:Nat)+LN (Gw (Int.toNat a))<=9223372036854775807) (Bc (LN ((92:UInt8)::(117:UInt8)::(123:UInt8)::QqP a)+N1<=9223372036854775807) (True/\∃(_y:Unit),True/\(92:UInt8)::(117:UInt8)::(123:UInt8)::List.append (QqP a) [(125:UInt8)]=XO a b/\True/\True))) (True/\∃(_y:Unit),True/\Qho a=XO a b/\True/\True)
theorem Bmj(c q:Int)(h:0<=c/\c<=1114111):ACalls Tryz.prog 172 [.int .i64 c,.int .i64 q] ⟨[],[]⟩ (SpecR (sC [.int .i64 c,.int .i64 q] (.str (Ge c q))) ()):=by
 refine Bg (A:=sC _ _) (x:=()) (E:=Erx) (eOk W4 rfl) Tryz.func172 rfl (by kernel_rfl) rfl (by simp[sC,Erx,EC,E0]) ?_
 refine Bi (T :=
  ifB (c==10) (RT ([(92:UInt8),(110:UInt8)]=XO c q)) (ifB (c==9) (RT ([(92:UInt8),(116:UInt8)]=XO c q)) (ifB (c==13) (RT ([(92:UInt8),(114:UInt8)]=XO c q)) (ifB (c==92) (ifB (c==92) (QqO c q) (QqQ c q)) (ifB (c==q) (QqO c q) (QqQ c q)))))) (by kernel_rfl) ?_
 delta LN N1 Z0 XO Qho QqO Qhp QqP QqQ RT
 have e:IntKind.i32.wrap c=c:=by rw[IntKind.wrap_i32];omega
 have l1:=Mw c
 have l2:=WA c.toNat
 unfold Mt at l1
 have a1:∀l:List UInt8,[].append l=l:=fun _=>rfl
 have a2:∀l r:List UInt8,l.append r=l++r:=fun _ _=>rfl
 simp only[a1,a2,Bf,Bd,e,beq_iff_eq,beq_eq_false_iff_ne,decide_eq_true_eq,decide_eq_false_iff_not,Bool.cond_true_left,Bool.or_eq_true,Bool.or_eq_false_iff,true_and,and_true,exists_const,forall_const,List.length_cons]
 refine⟨fun h=>by subst h;rfl,fun h1=>⟨fun h=>by subst h;rfl,fun h2=>⟨fun h=>by subst h;rfl,fun h3=>⟨fun h4=>⟨fun _=>⟨by omega,?_⟩,fun hh=>(hh h4).elim⟩,fun h4=>⟨fun h5=>⟨by omega,?_⟩,fun h5=>⟨⟨fun h=>by simp[h],fun h=>by simp[h]⟩,fun h6=>⟨by omega,by omega,by omega,?_⟩,fun h6=>?_⟩⟩⟩⟩⟩⟩
 ·unfold Ge;rw[if_neg h1,if_neg h2,if_neg h3,if_pos (.inl h4)];rfl
 ·unfold Ge;rw[if_neg h1,if_neg h2,if_neg h3,if_pos (.inr h5)];rfl
 ·unfold Ge;rw[if_neg h1,if_neg h2,if_neg h3,if_neg (by omega),if_pos h6];rfl
 ·unfold Ge;rw[if_neg h1,if_neg h2,if_neg h3,if_neg (by omega),if_neg (by omega)];rfl
theorem CL(l:List UInt8):bytesOf l.length (fun i=>[.int .u8 ((l.getD i 0).toNat:Int)])=l:=by
 apply List.ext_getElem
 ·simp[bytesOf]
 ·intro i h1 h2
  simp only[bytesOf,List.getElem_map,List.getElem_range,MK,Ab.byteOf,List.getD_eq_getElem?_getD,List.getElem?_eq_getElem h2,Option.getD_some,Int.toNat_natCast,UInt8.ofNat_toNat]
theorem IU(l:List UInt8):Iy l.length (fun i=>[.int .u8 ((l.getD i 0).toNat:Int)])=true:=by
 simp only[Iy,List.all_eq_true,List.mem_range]
 intro i _
 have:=(l.getD i 0).toNat_lt
 simp only[BkP,Ab.byteB,Bool.and_eq_true,decide_eq_true_eq];omega
theorem Bdz{n:Nat}{g:Nat->List D}{m:Ab.Mode}(h:Iy n g=true):Bn (.sl 1 n g m) (bsl (bytesOf n g) m):=by
 simp only[bsl,Bn,Bb]
 refine⟨by simp,by simp[bytesOf],fun i hi=>?_,Ot m⟩
 have hb:BkP (g i)=true:=List.all_eq_true.1 h i (List.mem_range.2 hi)
 have hg:(bytesOf n g).getD i 0=MK (g i):=by simp[bytesOf,List.getD_eq_getElem?_getD,hi]
 rw[hg]
 unfold BkP at hb
 split at hb
 ·rename_i d hd
  rw[hd]
  have:=Rd hb
  simp only[MK]
  rw[<- this]
 ·cases hb
theorem Bmt(l r:List UInt8){i:Nat}(_hi:i<l.length+r.length):BN l.length (fun i=>[D.int .u8 ((l.getD i 0).toNat:Int)]) (fun i=>[D.int .u8 ((r.getD i 0).toNat:Int)]) i=[D.int .u8 (((l++r).getD i 0).toNat:Int)]:=by
 simp only[BN]
 split
 ·rename_i hlt
  simp[List.getD_eq_getElem?_getD,List.getElem?_append_left hlt]
 ·rename_i hge
  simp[List.getD_eq_getElem?_getD,List.getElem?_append_right (Nat.le_of_not_lt hge)]
theorem I8{n : Nat}{l r : List UInt8}{F G : Nat -> List D}(hn : n=l.length)(hF : ∀i, i<n -> F i=[D.int .u8 ((l.getD i 0).toNat : Int)])(hG : ∀i, i<r.length -> G i=[D.int .u8 ((r.getD i 0).toNat : Int)]) :
  ∀i,i<n+r.length->BN n F G i=[D.int .u8 (((l++r).getD i 0).toNat:Int)]:=by
 intro i hi
 subst hn
 rw[<- Bmt l r hi]
 simp only[BN]
 split
 ·exact hF i (by assumption)
 ·exact hG _ (by omega)
theorem Bew{n:Nat}{l:List UInt8}{F:Nat->List D}(hn:n=l.length)(hF:∀i,i<n->F i=[D.int .u8 ((l.getD i 0).toNat:Int)]):bytesOf n F=l:=by
 subst hn
 conv=>rhs;rw[<- CL l]
 unfold bytesOf
 exact List.map_congr_left fun i hi=>by rw[hF i (List.mem_range.1 hi)]
theorem Bkc{n:Nat}{l:List UInt8}{F:Nat->List D}(hn:n=l.length)(hF:∀i,i<n->F i=[D.int .u8 ((l.getD i 0).toNat:Int)]):Iy n F=true:=by
 subst hn
 have h:=IU l
 simp only[Iy,List.all_eq_true,List.mem_range] at h ⊢
 intro i hi
 rw[hF i hi];exact h i hi
theorem MD{n : Nat}{l : List UInt8}{F : Nat -> List D}{z : Int}{b : UInt8}(hn : n=l.length)(hF : ∀i, i<n -> F i=[D.int .u8 ((l.getD i 0).toNat : Int)])(h : z=(b.toNat : Int)) :
  ∀i,i<n+1->BN n F (fun i=>[[D.int .u8 z]].getD i []) i=[D.int .u8 (((l++[b]).getD i 0).toNat:Int)]:=by
 intro i hi
 subst hn
 simp only[BN]
 split
 ·rename_i hlt
  rw[hF i hlt]
  simp[List.getD_eq_getElem?_getD,List.getElem?_append_left hlt]
 ·have:i=l.length:=by omega
  subst this
  simp[List.getD_eq_getElem?_getD,h]
def M6(q:Int)(l:List Int):List UInt8:=l.flatMap fun c=>Ge c q
def IB(q:Int)(l:List Int):List UInt8:=Mt q++M6 q l++Mt q
theorem Tn(c q:Int):(Ge c q).length<=6:=by
 have h1:=Mw c
 have h2:=WA c.toNat
 unfold Ge
 (repeat' split)<;>(try simp only[List.length_cons,List.length_nil,List.length_append])<;>omega
theorem Tb(q:Int):∀l:List Int,(M6 q l).length<=6*l.length
 | []=>by simp[M6]
 |c::l=>by
  have h1:=Tn c q
  have h2:=Tb q l
  simp only[M6,List.flatMap_cons,List.length_append,List.length_cons] at h2 ⊢
  omega
theorem RW(q c:Int)(l:List Int):M6 q (c::l)=Ge c q++M6 q l:=by simp[M6]
theorem Bma(q:Int):M6 q []=[]:=rfl
theorem Bck{l:List Int}{i:Nat}(h:i<l.length):l.getD i 0∈l:=by
 rw[List.getD_eq_getElem?_getD,List.getElem?_eq_getElem h];simp
structure QHd (q:Int) (l:List Int) (i:Nat) (pre out:List UInt8):Prop where
 hi:i<=l.length
 ho:out++M6 q (l.drop i)=pre++M6 q l
theorem QHd.init(q:Int)(l:List Int)(pre:List UInt8):QHd q l 0 pre pre:=⟨Nat.zero_le _,by simp⟩
theorem QHd.step{q:Int}{l:List Int}{i:Nat}{pre out:List UInt8}(h:QHd q l i pre out)(hlt:i<l.length):QHd q l (i+1) pre (out++Ge (l.getD i 0) q):=by
 refine⟨by omega,?_⟩
 rw[<- h.ho,Og hlt,RW,List.append_assoc]
theorem QHd.len{q:Int}{l:List Int}{i:Nat}{pre out:List UInt8}(h:QHd q l i pre out):out.length<=pre.length+6*l.length:=by
 have:=congrArg List.length h.ho
 have:=Tb q l
 simp only[List.length_append] at *; omega
theorem QHd.done{q:Int}{l:List Int}{i:Nat}{pre out:List UInt8}(h:QHd q l i pre out)(hge:¬i<l.length):out=pre++M6 q l:=by
 have:=h.ho
 rw[List.drop_of_length_le (by omega),Bma,List.append_nil] at this
 exact this
noncomputable def Equ(q:Int)(l:List Int):Senv:={ EC Bcz 27 2 [4,5,7,10,11,12,13] (fun _=>([],[])) with
 ann:=fun b _ _=>match b with
  |0=>some { slots:=[12,5],keep:=[0,1,10,11],α:=Nat×List UInt8,st:=fun y=>([.int .i64 y.1,.str y.2],⟨[],[]⟩),inv:=fun y=>QHd q l y.1 (Mt q) y.2,mu:=fun y=>l.length-y.1 }
  |_=>none }
def Qhq(a:Int)(b:List Int)(c:Nat)(d:List UInt8):Prop:=QHd a b c (Mt a) d
def Qhr(a:Int):List UInt8:=Array.toList (ByteArray.data (Utf8.encode a))
def Qhs(a:List Int)(b:Nat):Int:=IntKind.wrap IntKind.i32 (GI a (Int.toNat (↑b:Int)))
def QqR(a:List Int)(b:Nat)(c:Int):List UInt8:=Ge (Qhs a b) c
def QOJ(a:List Int):D:=SI a
def QqS(a:List Int):Prop:=SM (QOJ a)
theorem Bo6(q:Int)(l:List Int)(hl:l.length<=1099511627776)(hc:∀c∈l,0<=c/\c<=1114111):ACalls Tryz.prog 136 [.int .i32 q,isl l .any] ⟨[],[]⟩ (SpecR (sC [.int .i32 q,isl l .any] (.str (IB q l))) ()):=by
 refine Bg (A:=sC _ _) (x:=()) (E:=Equ q l) (eOk W4 rfl) Tryz.func136 rfl (by kernel_rfl) rfl (by simp[sC,Equ,EC,E0]) ?_
 refine Bi (T :=
  (∃(x:Nat×List UInt8),Qhq q l x.1 x.2/\(Z0=(NI x.1)/\Qhr q=x.2/\True)/\True/\True)/\∀(x:Nat×List UInt8),Qhq q l x.1 x.2->ifB (decide ((NI x.1)<(LI l))) (Bc (Z0<=(NI x.1)/\(NI x.1)<(LI l)) ((Z0<=Qhs l x.1/\Qhs l x.1<=1114111)/\∀(y:Unit),True->Bc (LN x.2+LN (QqR l x.1 q)<=9223372036854775807) ((SM (D.int IntKind.i32 q)/\QqS l/\QqS l/\SM (ZI (LI l))/\True)/\∃(y:Nat×List UInt8),Qhq q l y.1 y.2/\LN l-y.1<LN l-x.1/\(IntKind.wrap IntKind.i64 ((NI x.1)+Z1)=(NI y.1)/\x.2++QqR l x.1 q=y.2/\True)/\True/\True))) (Bc (LN x.2+LN (Qhr q)<=9223372036854775807) (RT (x.2++Qhr q=IB q l)))) (by kernel_rfl) ?_
 delta GI LI LN N1 NI SI SM Z0 Z1 ZI Qhq Qhr Qhs QqR QOJ QqS RT
 have hu:∀c,(Utf8.encode c).data.toList=Mt c:=fun _=>rfl
 simp only[hu,Bf,Bd,decide_eq_true_eq,true_and,and_true,exists_const,forall_const,Int.toNat_natCast,eq_self]
 refine⟨⟨(0,Mt q),QHd.init _ _ _,rfl,rfl⟩,?_⟩
 rintro ⟨i,out⟩ hh
 simp only at hh ⊢
 have h1:=hh.len
 have h2:=Mw q
 refine⟨fun hlt=>?_,fun hge=>?_⟩
 ·have hlt':i<l.length:=by omega
  have hci:=hc (l.getD i 0) (Bck hlt')
  have e:IntKind.i32.wrap (l.getD i 0)=l.getD i 0:=by rw[IntKind.wrap_i32];omega
  have h3:=Tn (l.getD i 0) q
  rw[e]
  exact⟨by omega,hci,by omega,(i+1,out++Ge (l.getD i 0) q),hh.step hlt',by simp only;omega,Ba (by omega) (by omega),rfl⟩
 ·have hge':¬i<l.length:=by simpa using hge
  have h3:=Tb q l
  rw[hh.done hge']
  exact⟨by simp only[List.length_append];omega,rfl⟩
def BfY:Con:=fun k ds S=>match k with
 |172=>match ds with
  | [.int .i64 c,.int .i64 q]=>some (pC [.int .i64 c,.int .i64 q] (.str (Ge c q)) (0<=c/\c<=1114111))
  |_=>none
 |k=>Bcz k ds S
theorem Bcb:ConOk Tryz.prog BfY:=by
 intro k ds S A h
 unfold BfY at h
 split at h
 ·split at h
  ·injection h with h;subst h
   exact BW fun h1=>⟨Bk _,Bmj _ _ h1⟩
  ·cases h
 ·exact W4 _ _ _ _ h
noncomputable def Erq(l:List Int):Senv:={ EC BfY 25 5 [10] (fun _=>([],[])) with
 gh:=fun b=>match b with
  |0=>[.slot 3]
  |_=>[]
 ann:=fun b _ S=>match b with
  |0=>some { slots:=[4,3],keep:=[0,1],α:=Nat×Nat×List UInt8,st:=fun y=>([.int .i64 y.1,bsl y.2.2 (.tok 0 y.2.1)],⟨S.objs,[(0,y.2.1)]⟩),inv:=fun y=>QHd 34 l y.1 [34] y.2.2,mu:=fun y=>l.length-y.1 }
  |_=>none }
def Qht(a:List Int)(b:Nat)(c:List UInt8):Prop:=QHd (34:Int) a b [(34:UInt8)] c
def Zu(a:List UInt8)(b:Nat):List D:=[ZB (BI a b)]
def QqT(a:Nat)(b:Int)(c:Nat)(d:Nat->List D)(e:List Int)(f:Nat)(g:Nat->List D)(h k:Nat):Prop:=(SM a/\(SM b/\(SM c/\(∀(i:Nat),i<c->SM (d i))/\True)/\(SM (LN e)/\(∀(i:Nat),i<LN e->SM [ZI (GI e i)])/\True)/\(SM f/\(∀(i:Nat),i<f->SM (g i))/\True)/\True)/\True)/\h=k/\True
def Qa8(a:List UInt8)(b:List Int)(c:Nat):Nat:=LN a+LN (Ge (GI b (Int.toNat (↑c:Int))) (34:Int))
theorem BnM(k:Int)(n1 n2:Nat)(f1 f2:Nat->List D)(l:List Int)(hl:l.length<=1099511627776)(hc:∀c∈l,0<=c/\c<=1114111):ACalls Tryz.prog 164 [.agg [.int .i64 k,.sl 1 n1 f1 .any,isl l .any,.sl 4 n2 f2 .any]] ⟨[],[]⟩ (SpecR (sC [.agg [.int .i64 k,.sl 1 n1 f1 .any,isl l .any,.sl 4 n2 f2 .any]] (.str (IB 34 l))) ()):=by
 refine Bg (A:=sC _ _) (x:=()) (E:=Erq l) (eOk Bcb rfl) Tryz.func164 rfl (by kernel_rfl) rfl (by simp[sC,Erq,EC,E0]) ?_
 refine Bi (T :=
  ∀(x:Nat),True->∀(t:Nat),(∃(x_1:Nat×Nat×List UInt8),Qht l x_1.1 x_1.2.2/\(Z0=(NI x_1.1)/\(N1=LN x_1.2.2/\(∀(i:Nat),i<N1->List.getD [[ZB (34:Int)]] i []=Zu x_1.2.2 i)/\t=x_1.2.1)/\True)/\QqT x k n1 f1 l n2 f2 t x_1.2.1)/\∀(x_1:Nat×Nat×List UInt8),Qht l x_1.1 x_1.2.2->SM x/\ifB (decide ((NI x_1.1)<(LI l))) (SM x/\Bc (Z0<=(NI x_1.1)/\(NI x_1.1)<(LI l)) ((Z0<=GI l (TN x_1.1)/\GI l (TN x_1.1)<=1114111)/\∀(y:Unit),True->SM x_1.2.1/\Bc (Qa8 x_1.2.2 l x_1.1*N1<=140737488355328/\Qa8 x_1.2.2 l x_1.1<=9223372036854775807) (∀(t:Nat),(SM (D.agg [ZI k,D.sl N1 n1 f1 Mode.any,SI l,D.sl N4 n2 f2 Mode.any])/\SM (D.ref N0 x N0)/\True)/\∃(y:Nat×Nat×List UInt8),Qht l y.1 y.2.2/\LN l-y.1<LN l-x_1.1/\(IntKind.wrap IntKind.i64 ((NI x_1.1)+Z1)=(NI y.1)/\(Qa8 x_1.2.2 l x_1.1=LN y.2.2/\(∀(i:Nat),i<Qa8 x_1.2.2 l x_1.1->BN (LN x_1.2.2) (fun i=>Zu x_1.2.2 i) (fun i=>[ZB (BI (Ge (GI l (TN x_1.1)) (34:Int)) i)]) i=Zu y.2.2 i)/\t=y.2.1)/\True)/\QqT x k n1 f1 l n2 f2 t y.2.1))) (SM x_1.2.1/\Bc ((LN x_1.2.2+N1)*N1<=140737488355328/\LN x_1.2.2+N1<=9223372036854775807) (∀(t:Nat),True/\chk (true&&Iy (LN x_1.2.2+N1) (BN (LN x_1.2.2) (fun i=>Zu x_1.2.2 i) fun i=>List.getD [[ZB (34:Int)]] i [])) (RT (bytesOf (LN x_1.2.2+N1) (BN (LN x_1.2.2) (fun i=>Zu x_1.2.2 i) fun i=>List.getD [[ZB (34:Int)]] i [])=IB (34:Int) l))))) (by kernel_rfl) ?_
 delta BI GI LI LN N0 N1 N4 NI SI SM TN U0 Z0 Z1 ZB ZI Qht Zu QqT Qa8 RT
 simp only[Bf,Bd,decide_eq_true_eq,true_and,and_true,exists_const,forall_const,Int.toNat_natCast,eq_self,implies_true]
 have hr:∀i,i<1->([[D.int .u8 34]]:List (List D)).getD i []=[D.int .u8 (([34]:List UInt8).getD i 0).toNat]:=fun i hi=>by
  have:i=0:=by omega
  subst this;rfl
 intro t
 refine⟨⟨(0,t,[34]),QHd.init _ _ _,⟨rfl,rfl,hr,rfl⟩,rfl⟩,?_⟩
 rintro ⟨i,t1,out⟩ hh
 simp only at hh ⊢
 have h1:=hh.len
 have h0:([34]:List UInt8).length=1:=rfl
 refine⟨fun hlt=>?_,fun hge=>?_⟩
 ·have hlt':i<l.length:=by omega
  have h3:=Tn (l.getD i 0) 34
  refine⟨by omega,hc _ (Bck hlt'),by omega,fun t2=>⟨(i+1,t2,_),hh.step hlt',by omega,⟨Ba (by omega) (by omega),by rw[List.length_append],?_,rfl⟩,rfl⟩⟩
  exact I8 rfl (fun _ _=>rfl) (fun _ _=>rfl)
 ·have hge':¬i<l.length:=by simpa using hge
  have hd:=hh.done hge'
  have ha:=MD (l:=out) (b:=34) (z:=34) rfl (fun _ _=>rfl) rfl
  refine⟨by omega,?_⟩
  rw[Bb,Bool.true_and]
  refine⟨Bkc (l:=out++[34]) (by simp) ha,?_⟩
  rw[Bew (l:=out++[34]) (by simp) ha,hd];rfl
def ssl(l:List (List UInt8))(m:Ab.Mode):D:=.sl 1 l.length (fun i=>[.str (l.getD i [])]) m
theorem BmI(l : List (List UInt8))(sep : List UInt8)(hl : l.length<=140737488355328)(hj : (Lib.join l sep).length<=140737488355328) :
  ACalls Tryz.prog 104 [ssl l .any,.str sep] ⟨[],[]⟩ (SpecR (sC [ssl l .any,.str sep] (.str (Lib.join l sep))) ()):=by
 refine⟨⟨_,Tryz.func104,by kernel_rfl,by kernel_rfl⟩,fun C F args w ha hs=>?_⟩
 obtain ⟨u,v,e,hu,hv⟩:=GW ha
 have e2:args=[u,v].toArray:=by rw[<- e]
 subst e2
 simp only[Rep] at hv;subst hv
 simp only[ssl,Rep] at hu
 obtain ⟨a,len,cap,rfl,hh,hr⟩:=hu
 have hlen:len=l.length:=hh.1
 subst hlen
 have hF:Sat C F w:=by simpa[St.add] using hs
 have fin:∀w' e,e=Ending.returned (.string ⟨(Lib.join l sep).toArray⟩)->Go.RowKit.Below w.heap.size w w'->∃C' r S',C.le C'/\Sat C' (S'.add F) w'/\RepEnd C' r e/\SpecR (sC [ssl l .any,.str sep] (.str (Lib.join l sep))) () r S':=fun w' e he h =>
  ⟨C,.ret (.str (Lib.join l sep)),⟨[],[]⟩,.refl C,by simpa[St.add] using hF.kept h,by subst he;simp[RepEnd,Rep],(),trivial,rfl,rfl⟩
 by_cases h0:l=[]
 ·subst h0
  refine (Tryz.strings_Join_none a cap _ w).mono fun e w' ⟨he,hw⟩=>fin w' e he ?_
  subst hw;exact Go.RowKit.Below.refl _ _
 ·have hpos:0<l.length:=List.length_pos_iff.2 h0
  have ha:∃x,a=some x:=by
   cases a with
   |none=>have:=hh.2.2.2.1 rfl;omega
   |some x=>exact⟨x,rfl⟩
  obtain ⟨⟨bk,o,sp⟩,rfl⟩:=ha
  have hsp:sp=none:=hh.2.2.2.2.1 _ rfl (by have:=hh.2.1;omega)
  subst hsp
  have hcell:∀i x,l[i]? =some x->w.cell? ⟨bk,o+i,none⟩=some (.string ⟨x.toArray⟩):=by
   intro i x hx
   have hi:i<l.length:=(List.getElem?_eq_some_iff.1 hx).1
   have hrow:=(hr _ rfl i hi).2
   simp only[RepCells] at hrow
   obtain ⟨⟨v,i1,i2⟩,_⟩:=hrow
   simp only[Rep] at i2
   subst i2
   have:=hs.imm _ _ _ i1
   have e:l.getD i []=x:=by rw[List.getD_eq_getElem?_getD,hx];rfl
   rw[e] at this
   simpa using this
  have hsz:bk<w.heap.size:=by
   have:=hcell 0 (l.getD 0 []) (by rw[List.getD_eq_getElem?_getD,List.getElem?_eq_getElem hpos];rfl)
   unfold World.cell? at this
   by_cases hb:bk<w.heap.size
   ·exact hb
   ·rw[Array.getElem?_eq_none (Nat.le_of_not_lt hb)] at this
    cases this
  have hm:(l.map fun s=>(⟨s.toArray⟩:ByteArray)).map (·.data.toList)=l:=by simp[Function.comp_def]
  have key:=Tryz.strings_Join bk o cap (l.map fun s=>(⟨s.toArray⟩:ByteArray)) ⟨sep.toArray⟩ w (fun i x hx=>by
   rw[List.getElem?_map,Option.map_eq_some_iff] at hx
   obtain ⟨y,h1,h2⟩:=hx
   subst h2
   exact hcell i y h1) hsz (by simpa using hl) (by simpa using hh.2.1) (by rw[hm];exact hj)
  rw[hm,List.length_map] at key
  exact key.mono fun e w' ⟨he,hb⟩=>fin w' e he hb
def BeR:List D->List UInt8
 | [.str s]=>s
 |_=>[]
def Bjj:List D->Bool
 | [.str _]=>true
 |_=>false
def B5(n:Nat)(f:Nat->List D):List (List UInt8):=(List.range n).map fun i=>BeR (f i)
def Gx(n:Nat)(f:Nat->List D):Bool:=(List.range n).all fun i=>Bjj (f i)
theorem Rc{n:Nat}{f:Nat->List D}{m:Ab.Mode}(h:Gx n f=true):Bn (.sl 1 n f m) (ssl (B5 n f) .any):=by
 simp only[ssl,Bn,Bb]
 refine⟨by simp,by simp[B5],fun i hi=>?_,by cases m<;>simp[BG]⟩
 have hb:Bjj (f i)=true:=List.all_eq_true.1 h i (List.mem_range.2 hi)
 have hg:(B5 n f).getD i []=BeR (f i):=by simp[B5,List.getD_eq_getElem?_getD,hi]
 rw[hg]
 unfold Bjj at hb
 split at hb
 ·rename_i s hd;rw[hd];rfl
 ·cases hb
theorem MP{n:Nat}{l:List (List UInt8)}{F:Nat->List D}(hn:n=l.length)(hF:∀i,i<n->F i=[D.str (l.getD i [])]):B5 n F=l:=by
 subst hn
 apply List.ext_getElem
 ·simp[B5]
 ·intro i h1 h2
  simp only[B5,List.getElem_map,List.getElem_range,hF i h2,BeR,List.getD_eq_getElem?_getD,List.getElem?_eq_getElem h2,Option.getD_some]
theorem Oz{n:Nat}{l:List (List UInt8)}{F:Nat->List D}(hn:n=l.length)(hF:∀i,i<n->F i=[D.str (l.getD i [])]):Gx n F=true:=by
 subst hn
 simp only[Gx,List.all_eq_true,List.mem_range]
 intro i hi
 rw[hF i hi];rfl
def GG(l:List (List UInt8))(sep:List UInt8):Prop:=l.length<=140737488355328/\(Lib.join l sep).length<=140737488355328
def OM:Con:=fun k ds S=>match k with
 |104=>match ds with
  | [.sl 1 n f m,.str sep]=>some (pC [.sl 1 n f m,.str sep] (.str (Lib.join (B5 n f) sep)) (Gx n f=true/\GG (B5 n f) sep))
  |_=>none
 |136=>match ds with
  | [.int .i32 q,.sl 1 n f m]=>some (pC [.int .i32 q,.sl 1 n f m] (.str (IB q (Bj n f))) (n<=1099511627776/\IntsP n f/\∀c∈Bj n f,0<=c/\c<=1114111))
  |_=>none
 |k=>BfY k ds S
theorem Ib:ConOk Tryz.prog OM:=by
 intro k ds S A h
 unfold OM at h
 split at h
 ·split at h
  ·injection h with h;subst h
   exact BW fun ⟨h1,h2⟩=>⟨Bk _,B9 (us:=[ssl (B5 _ _) .any,_]) ⟨Rc h1,Bp _,trivial⟩ (BmI _ _ h2.1 h2.2)⟩
  ·cases h
 ·split at h
  ·injection h with h;subst h
   exact BW fun ⟨h1,h2,h3⟩=>⟨Bk _,B9 (us:=[_,isl (Bj _ _) .any]) ⟨Bp _,(CA h2).1,trivial⟩ (Bo6 _ _ (by rw[BL];exact h1) h3)⟩
  ·cases h
 ·exact Bcb _ _ _ _ h
theorem Bcc{t s:List UInt8}{x:Nat}(h:x<t.length):CW (t.drop x) s=((t.getD x 0==32&&decide (s.length<(t.drop (x+1)).length)&&(t.drop (x+1)).take s.length==s&&(t.drop (x+1)).getD s.length 0==32)||CW (t.drop (x+1)) s):=by
 rw[List.drop_eq_getElem_cons h,CW]
 simp only[List.getD_eq_getElem?_getD,List.getElem?_eq_getElem h,Option.getD_some]
theorem Tj{s:List UInt8}:∀ {r:List UInt8},r.length<s.length+2->CW r s=false
 | [],_=>rfl
 |b::r,h=>by
  have h1:¬s.length<r.length:=by simp only[List.length_cons] at h;omega
  rw[CW,decide_eq_false h1,Tj (r:=r) (by simp only[List.length_cons] at h;omega)]
  simp
noncomputable def Eam(t s:List UInt8):Senv:={ EC EB 57 2 [4,5,6,9,13,19,27,56] (fun _=>([],[])) with
 ann:=fun b _ S=>match b with
  |0=>some { slots:=[5],keep:=[0,1],α:=Nat,st:=fun y=>([.int .i64 y],S),inv:=fun y=>y<=s.length/\(s.take y).all (fun b=>b != 32)=true,mu:=fun y=>s.length-y }
  |2=>some { slots:=[6],keep:=[0,1],α:=Nat,st:=fun y=>([.int .i64 y],S),inv:=fun y=>y<=t.length/\CW (t.drop y) s=CW t s,mu:=fun y=>t.length-y }
  |_=>none }
def Qhu(a b:List UInt8):Prop:=True/\∃(_y:Unit),True/\false=EH a b/\True/\True
def Qhv(a:Nat)(c:List UInt8):Prop:=a<=LN c/\(List.all (List.take a c) fun (b:UInt8)=>b != (32:UInt8))=true
def Qhw(a:List UInt8)(b:Nat):Bool:=(BI a (Int.toNat (↑b:Int)))==32
def Zv(a:Nat):Int:=IntKind.wrap IntKind.i64 ((↑a:Int)+Z1)
def QqU(a:List UInt8)(b c:Nat):Prop:=LN a-b<LN a-c/\(Zv c=(↑b:Int)/\True)/\True/\True
def Qhx(a:Nat)(b c:List UInt8):Prop:=a<=LN b/\CW (List.drop a b) c=CW b c
def Zw(a:Nat)(b:List UInt8):Int:=IntKind.wrap IntKind.i64 (Zv a+(LI b))
def QqV(a:Nat)(b:List UInt8):Nat:=Int.toNat (Zw a b)
def QqW(a:Nat)(b c:List UInt8):Bool:=List.drop (Int.toNat (Zv a)) (List.take (QqV a b) c)==b
def QqX(a:List UInt8)(b:Nat)(c:List UInt8):Bool:=(BI a (QqV b c))==32
def Qhy(a:List UInt8)(b:Nat)(c:List UInt8):Bool:=bif bif Qhw a b then QqW b c a else false then QqX a b c else false
def QqY(a:List UInt8)(b:Nat)(c:List UInt8):Prop:=false=Qhy a b c/\True
theorem BqD(t s:List UInt8)(ht:t.length<=BC)(hs:s.length<=BC):ACalls Tryz.prog 113 [.str t,.str s] ⟨[],[]⟩ (SpecR (sC [.str t,.str s] (.bool (EH t s))) ()):=by
 refine Bg (A:=sC _ _) (x:=()) (E:=Eam t s) (eOk BM rfl) Tryz.func113 rfl (by kernel_rfl) rfl (by simp[sC,Eam,EC,E0]) ?_
 refine Bi (T :=
  ifB ((LI s)==Z0) (Qhu t s) ((∃(x:Nat),Qhv x s/\(Z0=(↑x:Int)/\True)/\True/\True)/\∀(x:Nat),Qhv x s->ifB (decide ((↑x:Int)<(LI s))) (Bc (Z0<=(↑x:Int)/\(↑x:Int)<(LI s)) (ifB (Qhw s x) (Qhu t s) ((SM (D.str t)/\SM (D.str s)/\True)/\∃(y:Nat),Qhv y s/\QqU s y x))) ((∃(x:Nat),Qhx x t s/\(Z0=(↑x:Int)/\True)/\True/\True)/\∀(x:Nat),Qhx x t s->ifB (decide (IntKind.wrap IntKind.i64 (IntKind.wrap IntKind.i64 ((↑x:Int)+(LI s))+2)<=(LI t))) (Bc (Z0<=(↑x:Int)/\(↑x:Int)<(LI t)) (ifB (Qhw t x) (Bc (Z0<=Zv x/\Zv x<=Zw x s/\Zw x s<=(LI t)) (ifB (QqW x s t) (Bc (Z0<=Zw x s/\Zw x s<(LI t)) (QqX t x s=Qhy t x s/\True)) (QqY t x s))) (QqY t x s))/\ifB (Qhy t x s) (RT (true=EH t s)) ((SM (D.str t)/\SM (D.str s)/\True)/\∃(y:Nat),Qhx y t s/\QqU t y x)) (Qhu t s)))) (by kernel_rfl) ?_
 delta BI LI LN SM U0 Z0 Z1 Qhu Qhv Qhy QqY Qhw Zv QqU Qhx Zw QqV QqW QqX RT
 simp only[eq_self,ne_eq,Int.toNat_natCast,Bf,Bd,decide_eq_true_eq,decide_eq_false_iff_not,true_and,and_true,beq_iff_eq,Bool.cond_false_right,Bool.and_eq_true,Bool.and_eq_false_iff,beq_eq_false_iff_ne,exists_const]
 unfold BC at ht hs
 have b32:∀b:UInt8,((b.toNat:Int)=32)↔b=32:=fun b=>⟨fun h=>by
  apply UInt8.toNat_inj.1
  show b.toNat=32
  omega,fun h=>by subst h;rfl⟩
 have tk:∀x:Nat,x<s.length->s.take (x+1)=s.take x++[s.getD x 0]:=fun x hx=>by
  rw[List.take_add_one,List.getElem?_eq_getElem hx,List.getD_eq_getElem?_getD,List.getElem?_eq_getElem hx];rfl
 refine⟨fun h=>?_,fun h0=>⟨⟨0,⟨Nat.zero_le _,rfl⟩,rfl⟩,fun x ⟨h1,h2⟩=>⟨fun h=>⟨⟨by omega,h⟩,fun e=>?_,fun e=>⟨x+1,⟨by omega,?_⟩,by omega,by rw[Ba (by omega) (by omega)];rfl⟩⟩,fun h=>?_⟩⟩⟩
 ·have:s=[]:=List.length_eq_zero_iff.1 (by omega)
  subst this;rfl
 ·have hx:x<s.length:=by omega
  have hm:s.getD x 0∈s:=by rw[List.getD_eq_getElem?_getD,List.getElem?_eq_getElem hx];exact List.getElem_mem hx
  have:(s.all fun b=>b != 32)=false:=by
   rw[List.all_eq_false]
   exact⟨_,hm,by rw[(b32 _).1 e];simp⟩
  unfold EH
  rw[this];simp
 ·rw[tk x (by omega),List.all_append,h2]
  have:s.getD x 0≠32:=fun he=>e ((b32 _).2 he)
  simpa using this
 ·have hall:(s.all fun b=>b != 32)=true:=by
   have:x=s.length:=by omega
   rw[this,List.take_length] at h2
   exact h2
  have hne:s.isEmpty=false:=by
   cases s with
   |nil=>exact (h0 rfl).elim
   |cons=>rfl
  have hA:EH t s=CW t s:=by unfold EH;rw[hall,hne];rfl
  rw[hA]
  refine⟨⟨0,⟨Nat.zero_le _,by rw[List.drop_zero]⟩,rfl⟩,fun y ⟨y1,y2⟩=>?_⟩
  have w1:IntKind.i64.wrap ((y:Int)+1)=((y+1:Nat):Int):=by rw[Ba (by omega) (by omega)];rfl
  have w2:IntKind.i64.wrap (((y+1:Nat):Int)+(s.length:Int))=((y+1+s.length:Nat):Int):=by rw[Ba (by omega) (by omega)];omega
  have w3:IntKind.i64.wrap (IntKind.i64.wrap ((y:Int)+(s.length:Int))+2)=((y+s.length+2:Nat):Int):=by rw[Ba (n:=(y:Int)+s.length) (by omega) (by omega),Ba (by omega) (by omega)];omega
  rw[w1,w2,w3]
  simp only[Int.toNat_natCast,b32]
  have hdt:List.drop (y+1) (List.take (y+1+s.length) t)=(t.drop (y+1)).take s.length:=by
   rw[List.drop_take];congr 1;omega
  have hgd:t.getD (y+1+s.length) 0=(t.drop (y+1)).getD s.length 0:=by simp[List.getD_eq_getElem?_getD]
  rw[hdt,hgd]
  have bi:∀b:UInt8,(((b.toNat:Int))==32)=(b==32):=fun b=>by
   by_cases hb:b=32
   ·rw[hb];rfl
   ·have h1:(b==32)=false:=by simpa using hb
    have h2:(((b.toNat:Int))==32)=false:=by
     have:=fun h=>hb ((b32 b).1 h)
     simpa using this
    rw[h1,h2]
  simp only[bi]
  refine⟨fun hle=>?_,fun hgt=>?_⟩
  ·have hy:y<t.length:=by omega
   have hstep:=Bcc (s:=s) hy
   rw[y2] at hstep
   have hlt:decide (s.length<(t.drop (y+1)).length)=true:=by rw[List.length_drop];simp;omega
   rw[hlt,Bool.and_true] at hstep
   refine⟨⟨⟨by omega,by omega⟩,fun e1=>⟨⟨by omega,by omega,by omega⟩,fun e2=>⟨⟨by omega,by omega⟩,?_⟩,fun e2=>?_⟩,fun e1=>?_⟩,fun ⟨⟨e1,e2⟩,e3⟩=>?_,fun hno=>⟨y+1,⟨by omega,?_⟩,by omega,rfl⟩⟩
   ·rw[e1,e2];simp
   ·have:((t.drop (y+1)).take s.length==s)=false:=by simpa using e2
    rw[this];simp
   ·have:(t.getD y 0==32)=false:=by simpa using e1
    rw[this];simp
   ·rw[hstep,e1,e2,e3];simp
   ·have:(t.getD y 0==32&&(t.drop (y+1)).take s.length==s&&(t.drop (y+1)).getD s.length 0==32)=false:=by
     rw[Bool.and_eq_false_iff,Bool.and_eq_false_iff]
     rcases hno with (h | h) | h
     ·exact .inl (.inl (by simpa using h))
     ·exact .inl (.inr (by simpa using h))
     ·exact .inr (by simpa using h)
    rw[this,Bool.false_or] at hstep
    exact hstep.symm
  ·rw[<- y2]
   exact (Tj (by rw[List.length_drop];omega)).symm
def Bmd:Con:=fun k ds _=>match k with
 |113=>match ds with
  | [.str t,.str s]=>some (pC [.str t,.str s] (.bool (EH t s)) (t.length<=BC/\s.length<=BC))
  |_=>none
 |_=>none
theorem Bkz:ConOk Tryz.prog Bmd:=by
 intro k ds S A h
 unfold Bmd at h
 split at h
 ·split at h
  ·injection h with h;subst h
   exact BW fun ⟨h1,h2⟩=>⟨Bk _,BqD _ _ h1 h2⟩
  ·cases h
 ·cases h
noncomputable def Erres:Senv:={ EC Bmd 9 1 [2] (fun _=>([],[])) with mg:=fun _=>2 }
theorem BmT(s:List UInt8)(hs:s.length<=BC):ACalls Tryz.prog 91 [.str s] ⟨[],[]⟩ (SpecR (sC [.str s] (.bool (RP s))) ()):=by
 refine Bg (A:=sC _ _) (x:=()) (E:=Erres) (eOk Bkz rfl) Tryz.func91 rfl (by kernel_rfl) rfl (by simp[sC,Erres,EC,E0]) ?_
 refine Bi (T :=
  ((298:Nat)<=8589934592/\LN s<=8589934592)/\∀(y:Unit),True->ifB (EH [(32:UInt8),(88:UInt8),(32:UInt8),(89:UInt8),(32:UInt8),(70:UInt8),(32:UInt8),(71:UInt8),(32:UInt8),(115:UInt8),(101:UInt8),(108:UInt8),(102:UInt8),(32:UInt8),(97:UInt8),(114:UInt8),(103:UInt8),(32:UInt8),(109:UInt8),(105:UInt8),(110:UInt8),(32:UInt8),(109:UInt8),(97:UInt8),(120:UInt8),(32:UInt8),(97:UInt8),(110:UInt8),(100:UInt8),(32:UInt8),(111:UInt8),(114:UInt8),(32:UInt8),(110:UInt8),(111:UInt8),(116:UInt8),(32:UInt8),(115:UInt8),(104:UInt8),(97:UInt8),(112:UInt8),(101:UInt8),(32:UInt8),(114:UInt8),(101:UInt8),(115:UInt8),(104:UInt8),(97:UInt8),(112:UInt8),(101:UInt8),(32:UInt8),(116:UInt8),(97:UInt8),(108:UInt8),(108:UInt8),(121:UInt8),(32:UInt8),(100:UInt8),(101:UInt8),(112:UInt8),(116:UInt8),(104:UInt8),(32:UInt8),(115:UInt8),(116:UInt8),(97:UInt8),(99:UInt8),(107:UInt8),(32:UInt8),(105:UInt8),(111:UInt8),(116:UInt8),(97:UInt8),(32:UInt8),(116:UInt8),(97:UInt8),(107:UInt8),(101:UInt8),(32:UInt8),(100:UInt8),(114:UInt8),(111:UInt8),(112:UInt8),(32:UInt8),(102:UInt8),(105:UInt8),(114:UInt8),(115:UInt8),(116:UInt8),(32:UInt8),(114:UInt8),(101:UInt8),(118:UInt8),(101:UInt8),(114:UInt8),(115:UInt8),(101:UInt8),(32:UInt8),(114:UInt8),(111:UInt8),(116:UInt8),(97:UInt8),(116:UInt8),(101:UInt8),(32:UInt8),(116:UInt8),(114:UInt8),(97:UInt8),(110:UInt8),(115:UInt8),(112:UInt8),(111:UInt8),(115:UInt8),(101:UInt8),(32:UInt8),(102:UInt8),(114:UInt8),(111:UInt8),(109:UInt8),(32:UInt8),(112:UInt8),(105:UInt8),(99:UInt8),(107:UInt8),(32:UInt8),(115:UInt8),(101:UInt8),(108:UInt8),(101:UInt8),(99:UInt8),(116:UInt8),(32:UInt8),(97:UInt8),(109:UInt8),(101:UInt8),(110:UInt8),(100:UInt8),(32:UInt8),(117:UInt8),(112:UInt8),(32:UInt8),(100:UInt8),(111:UInt8),(119:UInt8),(110:UInt8),(32:UInt8),(115:UInt8),(111:UInt8),(114:UInt8),(116:UInt8),(32:UInt8),(102:UInt8),(105:UInt8),(110:UInt8),(100:UInt8),(32:UInt8),(105:UInt8),(110:UInt8),(32:UInt8),(117:UInt8),(110:UInt8),(105:UInt8),(113:UInt8),(117:UInt8),(101:UInt8),(32:UInt8),(119:UInt8),(104:UInt8),(101:UInt8),(114:UInt8),(101:UInt8),(32:UInt8),(99:UInt8),(111:UInt8),(112:UInt8),(121:UInt8),(32:UInt8),(101:UInt8),(120:UInt8),(112:UInt8),(97:UInt8),(110:UInt8),(100:UInt8),(32:UInt8),(99:UInt8),(117:UInt8),(116:UInt8),(32:UInt8),(101:UInt8),(110:UInt8),(99:UInt8),(111:UInt8),(100:UInt8),(101:UInt8),(32:UInt8),(100:UInt8),(101:UInt8),(99:UInt8),(111:UInt8),(100:UInt8),(101:UInt8),(32:UInt8),(98:UInt8),(111:UInt8),(120:UInt8),(32:UInt8),(111:UInt8),(112:UInt8),(101:UInt8),(110:UInt8),(32:UInt8),(115:UInt8),(97:UInt8),(109:UInt8),(101:UInt8),(32:UInt8),(107:UInt8),(105:UInt8),(110:UInt8),(100:UInt8),(32:UInt8),(111:UInt8),(114:UInt8),(100:UInt8),(32:UInt8),(99:UInt8),(104:UInt8),(114:UInt8),(32:UInt8),(102:UInt8),(111:UInt8),(114:UInt8),(109:UInt8),(97:UInt8),(116:UInt8),(32:UInt8),(108:UInt8),(101:UInt8),(102:UInt8),(116:UInt8),(32:UInt8),(114:UInt8),(105:UInt8),(103:UInt8),(104:UInt8),(116:UInt8),(32:UInt8),(101:UInt8),(97:UInt8),(99:UInt8),(104:UInt8),(32:UInt8),(115:UInt8),(119:UInt8),(97:UInt8),(112:UInt8),(32:UInt8),(111:UInt8),(117:UInt8),(116:UInt8),(101:UInt8),(114:UInt8),(32:UInt8),(105:UInt8),(110:UInt8),(110:UInt8),(101:UInt8),(114:UInt8),(32:UInt8),(114:UInt8),(97:UInt8),(110:UInt8),(107:UInt8),(32:UInt8),(112:UInt8),(111:UInt8),(119:UInt8),(101:UInt8),(114:UInt8),(32:UInt8),(115:UInt8),(116:UInt8),(101:UInt8),(110:UInt8),(99:UInt8),(105:UInt8),(108:UInt8),(32:UInt8),(97:UInt8),(116:UInt8),(111:UInt8),(112:UInt8),(32:UInt8),(111:UInt8),(118:UInt8),(101:UInt8),(114:UInt8),(32:UInt8)] s) (RT (true=RP s)) (((34:Nat)<=8589934592/\LN s<=8589934592)/\∀(y:Unit),True->RT (EH [(32:UInt8),(43:UInt8),(32:UInt8),(45:UInt8),(32:UInt8),(42:UInt8),(32:UInt8),(37:UInt8),(32:UInt8),(124:UInt8),(32:UInt8),(94:UInt8),(32:UInt8),(60:UInt8),(32:UInt8),(60:UInt8),(61:UInt8),(32:UInt8),(61:UInt8),(32:UInt8),(126:UInt8),(61:UInt8),(32:UInt8),(62:UInt8),(61:UInt8),(32:UInt8),(62:UInt8),(32:UInt8),(44:UInt8),(32:UInt8),(47:UInt8),(32:UInt8),(92:UInt8),(32:UInt8)] s=RP s))) (by kernel_rfl) ?_
 delta LN RT
 simp only[Bf,true_and,and_true,exists_const,forall_const]
 generalize hA:EH _ s=a
 generalize hB:EH _ s=b
 have ea:a=resL.contains s:=by
  rw[<- hA,<- Bc6 s]
  congr 1
 have eb:b=sgnL.contains s:=by
  rw[<- hB,<- BcU s]
  congr 1
 subst ea eb
 unfold BC at hs
 refine⟨⟨by decide,hs⟩,fun h=>?_,fun h=>⟨⟨by decide,hs⟩,?_⟩⟩
 ·unfold RP;rw[h];rfl
 ·unfold RP;rw[h];rfl
def ownL : List (List UInt8) := ["X", "Y", "F", "G", "self", "arg"].map asc ++ (primL.drop 1 ++ opL.drop 1)
theorem BnJ(s:List UInt8):RP s=ownL.contains s:=by
 have h1:∀x∈resL++sgnL,ownL.contains x=true:=by decide +kernel
 have h2:∀x∈ownL,(resL++sgnL).contains x=true:=by decide +kernel
 unfold RP
 rw[<- List.contains_append]
 cases h:(resL++sgnL).contains s with
 |true=>exact (h1 s (by simpa using h)).symm
 |false =>
  cases h':ownL.contains s with
  |true=>rw[h2 s (by simpa using h')] at h;cases h
  |false=>rfl
theorem BhO(s:List UInt8):s∈primL.drop 1↔∃q:Nat,1<=q/\q<56/\Cf q=s:=by
 have e:∀q,1<=q->q<56->Cf ((q:Nat):Int)=(primL.drop 1).getD (q-1) []:=fun q h1 h2=>by
  unfold Cf
  rw[if_neg (by omega),Int.toNat_natCast]
  simp[List.getD_eq_getElem?_getD,show q-1+1=q by omega]
 have hl:(primL.drop 1).length=55:=by decide +kernel
 constructor
 ·intro h
  obtain ⟨i,hi,rfl⟩:=List.getElem_of_mem h
  exact⟨i+1,by omega,by omega,by rw[e _ (by omega) (by omega)];simp only[Nat.add_sub_cancel];simp only[List.getD_eq_getElem?_getD,List.getElem?_eq_getElem hi,Option.getD_some]⟩
 ·rintro ⟨q,h1,h2,rfl⟩
  rw[e q h1 h2]
  have:q-1<(primL.drop 1).length:=by omega
  rw[List.getD_eq_getElem?_getD,List.getElem?_eq_getElem this]
  exact List.getElem_mem this
theorem Bms(s:List UInt8):s∈opL.drop 1↔∃q:Nat,1<=q/\q<12/\opT q=s:=by
 have e:∀q,1<=q->q<12->opT ((q:Nat):Int)=(opL.drop 1).getD (q-1) []:=fun q h1 h2=>by
  unfold opT
  rw[if_neg (by omega),Int.toNat_natCast]
  simp[List.getD_eq_getElem?_getD,show q-1+1=q by omega]
 have hl:(opL.drop 1).length=11:=by decide +kernel
 constructor
 ·intro h
  obtain ⟨i,hi,rfl⟩:=List.getElem_of_mem h
  exact⟨i+1,by omega,by omega,by rw[e _ (by omega) (by omega)];simp only[Nat.add_sub_cancel];simp only[List.getD_eq_getElem?_getD,List.getElem?_eq_getElem hi,Option.getD_some]⟩
 ·rintro ⟨q,h1,h2,rfl⟩
  rw[e q h1 h2]
  have:q-1<(opL.drop 1).length:=by omega
  rw[List.getD_eq_getElem?_getD,List.getElem?_eq_getElem this]
  exact List.getElem_mem this
theorem Bdr(s : List UInt8)(h32 : s.length ≤ 32)(hp : TT s = true) : Cd s = true ↔ (s ≠ asc "self" ∧ s ≠ asc "arg" ∧ (∀ q : Nat, 1 ≤ q → q < 56 → Cf q ≠ s) ∧ ∀ q : Nat, 1 ≤ q → q < 12 → opT q ≠ s) := by
 have hx : ∀ x ∈ ["X", "Y", "F", "G"].map asc, TT x = false := by decide +kernel
 unfold Cd
 rw[hp,decide_eq_true h32,BnJ]
 have hs : s ∈ ownL ↔ (s = asc "self" ∨ s = asc "arg" ∨ s ∈ primL.drop 1 ∨ s ∈ opL.drop 1) := by
  unfold ownL
  rw[List.mem_append,List.mem_append]
  constructor
  ·rintro (h | h)
   ·simp only[List.map_cons,List.map_nil,List.mem_cons,List.not_mem_nil,or_false] at h
    rcases h with h | h | h | h | h | h
    ·rw[hx s (by rw[h];simp)] at hp;cases hp
    ·rw[hx s (by rw[h];simp)] at hp;cases hp
    ·rw[hx s (by rw[h];simp)] at hp;cases hp
    ·rw[hx s (by rw[h];simp)] at hp;cases hp
    ·exact .inl h
    ·exact .inr (.inl h)
   ·exact .inr (.inr h)
  ·rintro (h | h | h)
   ·rw[h];exact .inl (by simp)
   ·rw[h];exact .inl (by simp)
   ·exact .inr h
 rw[BhO,Bms] at hs
 simp only[Bool.true_and,Bool.not_eq_true',List.contains_eq_mem,decide_eq_false_iff_not]
 rw[hs]
 constructor
 ·intro h
  exact⟨fun e=>h (.inl e),fun e=>h (.inr (.inl e)),fun q h1 h2 e=>h (.inr (.inr (.inl ⟨q,h1,h2,e⟩))),fun q h1 h2 e=>h (.inr (.inr (.inr ⟨q,h1,h2,e⟩)))⟩
 ·rintro ⟨h1,h2,h3,h4⟩ (h | h | ⟨q,q1,q2,q3⟩ | ⟨q,q1,q2,q3⟩)
  ·exact h1 h
  ·exact h2 h
  ·exact h3 q q1 q2 q3
  ·exact h4 q q1 q2 q3
def BgH:Con:=fun k ds _=>match k with
 |77=>match ds with
  | [.int .i64 p]=>some (pC [.int .i64 p] (.str (Cf p)) True)
  |_=>none
 |78=>match ds with
  | [.int .i64 p]=>some (pC [.int .i64 p] (.str (opT p)) True)
  |_=>none
 |91=>match ds with
  | [.str s]=>some (pC [.str s] (.bool (RP s)) (s.length<=BC))
  |_=>none
 |_=>none
theorem Bb3:ConOk Tryz.prog BgH:=by
 intro k ds S A h
 unfold BgH at h
 split at h
 ·split at h
  ·injection h with h;subst h
   exact BW fun _=>⟨Bk _,BkQ _⟩
  ·cases h
 ·split at h
  ·injection h with h;subst h
   exact BW fun _=>⟨Bk _,Bmh _⟩
  ·cases h
 ·split at h
  ·injection h with h;subst h
   exact BW fun h1=>⟨Bk _,BmT _ h1⟩
  ·cases h
 ·cases h
def M7(b:UInt8):Bool:=low b||dig b
theorem Wz(b:UInt8):M7 b=true↔((97<=b.toNat/\b.toNat<=122)\/(48<=b.toNat/\b.toNat<=57)):=by
 unfold M7 low dig
 simp only[Bool.or_eq_true,Bool.and_eq_true,decide_eq_true_eq]
theorem Ov(s:List UInt8):TT s=true↔s≠[]/\low (s.getD 0 0)=true/\s.all M7=true:=by
 unfold TT
 simp only[Bool.and_eq_true,Bool.not_eq_true',List.isEmpty_eq_false_iff,and_assoc]
 exact Iff.rfl
theorem Bm3{s:List UInt8}(h:s.all M7=true){i:Nat}(hi:i<s.length):M7 (s.getD i 0)=true:=by
 rw[List.getD_eq_getElem?_getD,List.getElem?_eq_getElem hi]
 exact List.all_eq_true.1 h _ (List.getElem_mem hi)
theorem Bdc{s:List UInt8}{x:Nat}(hx:x<s.length)(h1:(s.take x).all M7=true)(h2:M7 (s.getD x 0)=true):(s.take (x+1)).all M7=true:=by
 have e:s.take (x+1)=s.take x++[s.getD x 0]:=by
  rw[List.take_add_one,List.getElem?_eq_getElem hx,List.getD_eq_getElem?_getD,List.getElem?_eq_getElem hx];rfl
 rw[e,List.all_append,h1,List.all_cons,h2];rfl
theorem BO{s:List UInt8}(h:Cd s=true):s≠[]/\s.length<=32/\s≠[115,101,108,102]/\s≠[97,114,103]/\(97<=(s.getD 0 0).toNat/\(s.getD 0 0).toNat<=122)/\(∀i,i<s.length->((97<=(s.getD i 0).toNat/\(s.getD i 0).toNat<=122)\/(48<=(s.getD i 0).toNat/\(s.getD i 0).toNat<=57)))/\(∀q:Nat,1<=q->q<56->Cf q≠s)/\∀q:Nat,1<=q->q<12->opT q≠s:=by
 have h0:=h
 unfold Cd at h
 simp only[Bool.and_eq_true,decide_eq_true_eq] at h
 obtain ⟨⟨hp,h32⟩,_⟩:=h
 obtain ⟨h1,h2,h3,h4⟩:=(Bdr s h32 hp).1 h0
 obtain ⟨p1,p2,p3⟩:=(Ov s).1 hp
 have e1 : asc "self" = [115, 101, 108, 102] := by decide +kernel
 have e2 : asc "arg" = [97, 114, 103] := by decide +kernel
 rw[e1] at h1
 rw[e2] at h2
 unfold low at p2
 simp only[Bool.and_eq_true,decide_eq_true_eq] at p2
 exact⟨p1,h32,h1,h2,p2,fun i hi=>(Wz _).1 (Bm3 p3 hi),h3,h4⟩
theorem BlL{s:List UInt8}(h1:s≠[])(h2:s.length<=32)(h3:s≠[115,101,108,102])(h4:s≠[97,114,103])(h5:97<=(s.getD 0 0).toNat/\(s.getD 0 0).toNat<=122)(h6:s.all M7=true)(h7:∀q:Nat,1<=q->q<56->Cf q≠s)(h8:∀q:Nat,1<=q->q<12->opT q≠s):Cd s=true:=by
 have e1 : asc "self" = [115, 101, 108, 102] := by decide +kernel
 have e2 : asc "arg" = [97, 114, 103] := by decide +kernel
 refine (Bdr s h2 ((Ov s).2 ⟨h1,?_,h6⟩)).2 ⟨by rw[e1];exact h3,by rw[e2];exact h4,h7,h8⟩
 unfold low
 simp only[Bool.and_eq_true,decide_eq_true_eq]
 exact h5
theorem Cz{s:List UInt8}(h:Cd s=true->False):false=Cd s:=by
 cases e:Cd s with
 |false=>rfl
 |true=>exact (h e).elim
noncomputable def Ein(s:List UInt8):Senv:={ EC BgH 75 1 [2,3,4,5,30,32,33,34,57,60,66,68,74] (fun _=>([],[])) with
 mg:=fun _=>2
 ann:=fun b _ S=>match b with
  |0=>some { slots:=[33],keep:=[0,32],α:=Nat,st:=fun y=>([.int .i64 y],S),inv:=fun y=>y<=s.length/\(s.take y).all M7=true,mu:=fun y=>s.length-y }
  |2=>some { slots:=[4],keep:=[0],α:=Nat,st:=fun y=>([.int .i64 y],S),inv:=fun y=>1<=y/\y<=56/\∀q:Nat,1<=q->q<y->Cf q≠s,mu:=fun y=>56-y }
  |4=>some { slots:=[5],keep:=[0],α:=Nat,st:=fun y=>([.int .i64 y],S),inv:=fun y=>1<=y/\y<=12/\∀q:Nat,1<=q->q<y->opT q≠s,mu:=fun y=>12-y }
  |_=>none }
def JO(a:List UInt8):Prop:=True/\∃(_y:Unit),True/\false=Cd a/\True/\True
def Qhz(a:Nat)(b:List UInt8):Prop:=a<=LN b/\List.all (List.take a b) M7=true
def Qa9(a:List UInt8)(b:Nat):Int:=(BI a (Int.toNat (↑b:Int)))
def QhA(a b:Nat):Prop:=(IntKind.wrap IntKind.i64 ((↑a:Int)+Z1)=(↑b:Int)/\True)/\True/\True
def QqZ(a:List UInt8)(b:Nat):Prop:=(SM (D.str a)/\SM (ZI (LI a))/\True)/\∃(y:Nat),Qhz y a/\LN a-y<LN a-b/\QhA b y
def Qq0(a:Nat)(b:List UInt8):Prop:=Bc (Z0<=(↑a:Int)/\(↑a:Int)<(LI b)) (ifB (decide (Qa9 b a<48)) (JO b) (Bc (Z0<=(↑a:Int)/\(↑a:Int)<(LI b)) (ifB (decide ((57:Int)<Qa9 b a)) (JO b) (QqZ b a))))
def QhB(a:Nat)(b:List UInt8):Prop:=N1<=a/\a<=56/\∀(q:Nat),N1<=q->q<a->Cf (↑q:Int)≠b
def QhC(a:Nat)(b:List UInt8):Prop:=N1<=a/\a<=12/\∀(q:Nat),N1<=q->q<a->opT (↑q:Int)≠b
theorem BnQ(s:List UInt8):ACalls Tryz.prog 54 [.str s] ⟨[],[]⟩ (SpecR (sC [.str s] (.bool (Cd s))) ()):=by
 refine Bg (A:=sC _ _) (x:=()) (E:=Ein s) (eOk Bb3 rfl) Tryz.func54 rfl (by kernel_rfl) rfl (by simp[sC,Ein,EC,E0]) ?_
 refine Bi (T :=
  ifB (s==[]) (JO s) (ifB (decide ((32:Int)<(LI s))) (JO s) (ifB (s==[(115:UInt8),(101:UInt8),(108:UInt8),(102:UInt8)]) (JO s) (ifB (s==[(97:UInt8),(114:UInt8),(103:UInt8)]) (JO s) (Bc (Z0<=Z0/\Z0<(LI s)) (ifB (decide ((BI s N0)<97)) (JO s) (Bc (Z0<=Z0/\Z0<(LI s)) (ifB (decide ((122:Int)<(BI s N0))) (JO s) ((∃(x:Nat),Qhz x s/\(Z0=(↑x:Int)/\True)/\True/\True)/\∀(x:Nat),Qhz x s->ifB (decide ((↑x:Int)<(LI s))) (Bc (Z0<=(↑x:Int)/\(↑x:Int)<(LI s)) (ifB (decide (Qa9 s x<97)) (Qq0 x s) (Bc (Z0<=(↑x:Int)/\(↑x:Int)<(LI s)) (ifB (decide ((122:Int)<Qa9 s x)) (Qq0 x s) (QqZ s x))))) ((∃(x:Nat),QhB x s/\(Z1=(↑x:Int)/\True)/\True/\True)/\∀(x:Nat),QhB x s->ifB (decide ((↑x:Int)<=55)) (True/\∀(y:Unit),True->ifB (Cf (↑x:Int)==s) (JO s) ((SM (D.str s)/\True)/\∃(y:Nat),QhB y s/\(56:Nat)-y<56-x/\QhA x y)) ((∃(x:Nat),QhC x s/\(Z1=(↑x:Int)/\True)/\True/\True)/\∀(x:Nat),QhC x s->ifB (decide ((↑x:Int)<=11)) (True/\∀(y:Unit),True->ifB (opT (↑x:Int)==s) (JO s) ((SM (D.str s)/\True)/\∃(y:Nat),QhC y s/\(12:Nat)-y<12-x/\QhA x y)) (RT (true=Cd s))))))))))))) (by kernel_rfl) ?_
 delta BI LI LN N0 N1 SM U0 Z0 Z1 ZI JO Qhz Qa9 QhA QqZ Qq0 QhB QhC RT
 simp only[eq_self,ne_eq,Int.toNat_natCast,Bf,Bd,decide_eq_true_eq,decide_eq_false_iff_not,true_and,and_true,beq_iff_eq,beq_eq_false_iff_ne,exists_const,forall_const]
 refine⟨fun h=>Cz fun e=>(BO e).1 h,fun k1=>⟨fun h=>Cz fun e=>by have:=(BO e).2.1;omega,fun k2=>⟨fun h=>Cz fun e=>(BO e).2.2.1 h,fun k3=>⟨fun h=>Cz fun e=>(BO e).2.2.2.1 h,fun k4=>?_⟩⟩⟩⟩
 have hl:0<s.length:=List.length_pos_iff.2 k1
 refine⟨⟨by omega,by omega⟩,fun h=>Cz fun e=>by have:=(BO e).2.2.2.2.1;omega,fun k5=>⟨⟨by omega,by omega⟩,fun h=>Cz fun e=>by have:=(BO e).2.2.2.2.1;omega,fun k6=>⟨⟨0,⟨Nat.zero_le _,rfl⟩,rfl⟩,fun x ⟨hx,ht⟩=>⟨fun hlt=>?_,fun hge=>?_⟩⟩⟩⟩
 ·have hx':x<s.length:=by omega
  have w:IntKind.i64.wrap ((x:Int)+1)=((x+1:Nat):Int):=by rw[Ba (by omega) (by omega)];rfl
  have go:((97<=(s.getD x 0).toNat/\(s.getD x 0).toNat<=122)\/(48<=(s.getD x 0).toNat/\(s.getD x 0).toNat<=57))->∃y,(y<=s.length/\(List.take y s).all M7=true)/\s.length-y<s.length-x/\IntKind.i64.wrap ((x:Int)+1)=(y:Int):=fun hc =>
   ⟨x+1,⟨hx',Bdc hx' ht ((Wz _).2 hc)⟩,by omega,w⟩
  have no:¬((97<=(s.getD x 0).toNat/\(s.getD x 0).toNat<=122)\/(48<=(s.getD x 0).toNat/\(s.getD x 0).toNat<=57))->false=Cd s:=fun hc=>Cz fun e=>hc ((BO e).2.2.2.2.2.1 x hx')
  exact⟨⟨by omega,by omega⟩,fun a1=>⟨⟨by omega,by omega⟩,fun a2=>no (by omega),fun a2=>⟨⟨by omega,by omega⟩,fun a3=>no (by omega),fun a3=>go (by omega)⟩⟩,
   fun a1=>⟨⟨by omega,by omega⟩,fun a2=>⟨⟨by omega,by omega⟩,fun a3=>no (by omega),fun a3=>⟨⟨by omega,by omega⟩,fun a4=>no (by omega),fun a4=>go (by omega)⟩⟩,fun a2=>go (by omega)⟩⟩
 ·have hall:s.all M7=true:=by
   have:x=s.length:=by omega
   rwa [this,List.take_length] at ht
  refine⟨⟨1,⟨Nat.le_refl _,by omega,fun q h1 h2=>by omega⟩,rfl⟩,fun y ⟨y1,y2,y3⟩=>⟨fun hy=>⟨fun e=>Cz fun e'=>(BO e').2.2.2.2.2.2.1 y y1 (by omega) e,fun e=>⟨y+1,⟨by omega,by omega,fun q h1 h2=>?_⟩,by omega,by rw[Ba (by omega) (by omega)];rfl⟩⟩,
   fun hy=>⟨⟨1,⟨Nat.le_refl _,by omega,fun q h1 h2=>by omega⟩,rfl⟩,fun z ⟨z1,z2,z3⟩=>⟨fun hz=>⟨fun e=>Cz fun e'=>(BO e').2.2.2.2.2.2.2 z z1 (by omega) e,fun e=>⟨z+1,⟨by omega,by omega,fun q h1 h2=>?_⟩,by omega,by rw[Ba (by omega) (by omega)];rfl⟩⟩,fun hz=>?_⟩⟩⟩⟩
  ·by_cases e':q=y
   ·rw[e'];exact e
   ·exact y3 q h1 (by omega)
  ·by_cases e':q=z
   ·rw[e'];exact e
   ·exact z3 q h1 (by omega)
  ·exact (BlL k1 (by omega) k3 k4 ⟨by omega,by omega⟩ hall (fun q h1 h2=>y3 q h1 (by omega)) fun q h1 h2=>z3 q h1 (by omega)).symm
noncomputable def Ern(s:List UInt8):Senv:={ EC BgH 47 1 [2,3,14,18,46] (fun _=>([],[])) with
 mg:=fun _=>2
 ann:=fun b _ S=>match b with
  |0=>some { slots:=[3],keep:=[0],α:=Nat,st:=fun y=>([.int .i64 y],S),inv:=fun y=>y<=s.length/\(s.take y).all M7=true/\(0<y->low (s.getD 0 0)=true),mu:=fun y=>s.length-y }
  |_=>none }
def XP(a:List UInt8):Prop:=True/\∃(_y:Unit),True/\false=Cd a/\True/\True
def QhD(a:Nat)(b:List UInt8):Prop:=a<=LN b/\List.all (List.take a b) M7=true/\(N0<a->low (List.getD b N0 U0)=true)
def Qba(a:List UInt8)(b:Nat):Int:=(BI a (Int.toNat (↑b:Int)))
def Qq1(a:List UInt8)(b:Nat):Prop:=(SM (D.str a)/\True)/\∃(y:Nat),QhD y a/\LN a-y<LN a-b/\(IntKind.wrap IntKind.i64 ((↑b:Int)+Z1)=(↑y:Int)/\True)/\True/\True
def Qq2(a:Nat)(b:List UInt8):Prop:=ifB ((↑a:Int)==Z0) (XP b) (Bc (Z0<=(↑a:Int)/\(↑a:Int)<(LI b)) (ifB (decide (Qba b a<48)) (XP b) (Bc (Z0<=(↑a:Int)/\(↑a:Int)<(LI b)) (ifB (decide ((57:Int)<Qba b a)) (XP b) (Qq1 b a)))))
theorem Bn5(s:List UInt8):ACalls Tryz.prog 68 [.str s] ⟨[],[]⟩ (SpecR (sC [.str s] (.bool (Cd s))) ()):=by
 refine Bg (A:=sC _ _) (x:=()) (E:=Ern s) (eOk Bb3 rfl) Tryz.func68 rfl (by kernel_rfl) rfl (by simp[sC,Ern,EC,E0]) ?_
 refine Bi (T :=
  ifB (s==[]) (XP s) (ifB (decide ((32:Int)<(LI s))) (XP s) (LN s<=8589934592/\∀(y:Unit),True->ifB (RP s) (XP s) ((∃(x:Nat),QhD x s/\(Z0=(↑x:Int)/\True)/\True/\True)/\∀(x:Nat),QhD x s->ifB (decide ((↑x:Int)<(LI s))) (Bc (Z0<=(↑x:Int)/\(↑x:Int)<(LI s)) (ifB (decide (Qba s x<97)) (Qq2 x s) (Bc (Z0<=(↑x:Int)/\(↑x:Int)<(LI s)) (ifB (decide ((122:Int)<Qba s x)) (Qq2 x s) (Qq1 s x))))) (RT (true=Cd s)))))) (by kernel_rfl) ?_
 delta BI LI LN N0 SM U0 Z0 Z1 Qba Qq1 Qq2 XP QhD RT
 simp only[eq_self,ne_eq,Int.toNat_natCast,Bf,Bd,decide_eq_true_eq,decide_eq_false_iff_not,true_and,and_true,beq_iff_eq,beq_eq_false_iff_ne,exists_const,forall_const]
 refine⟨fun h=>Cz fun e=>(BO e).1 h,fun k1=>⟨fun h=>Cz fun e=>by have:=(BO e).2.1;omega,fun k2=>⟨by omega,fun h=>Cz fun e=>?_,fun k3=>?_⟩⟩⟩
 ·unfold Cd at e
  rw[h] at e
  simp at e
 have hl:0<s.length:=List.length_pos_iff.2 k1
 have lo:∀b:UInt8,low b=true↔(97<=b.toNat/\b.toNat<=122):=fun b=>by
  unfold low
  simp only[Bool.and_eq_true,decide_eq_true_eq]
 refine⟨⟨0,⟨Nat.zero_le _,rfl,fun h=>absurd h (by omega)⟩,rfl⟩,fun x ⟨hx,ht,h0⟩=>⟨fun hlt=>?_,fun hge=>?_⟩⟩
 ·have hx':x<s.length:=by omega
  have w:IntKind.i64.wrap ((x:Int)+1)=((x+1:Nat):Int):=by rw[Ba (by omega) (by omega)];rfl
  have go:((97<=(s.getD x 0).toNat/\(s.getD x 0).toNat<=122)\/(48<=(s.getD x 0).toNat/\(s.getD x 0).toNat<=57))->(x=0->(97<=(s.getD x 0).toNat/\(s.getD x 0).toNat<=122))->∃y,(y<=s.length/\(List.take y s).all M7=true/\(0<y->low (s.getD 0 0)=true))/\s.length-y<s.length-x/\IntKind.i64.wrap ((x:Int)+1)=(y:Int):=fun hc h1 =>
   ⟨x+1,⟨hx',Bdc hx' ht ((Wz _).2 hc),fun _=>by
    by_cases e:x=0
    ·subst e;exact (lo _).2 (h1 rfl)
    ·exact h0 (by omega)⟩,by omega,w⟩
  have no:¬((97<=(s.getD x 0).toNat/\(s.getD x 0).toNat<=122)\/(48<=(s.getD x 0).toNat/\(s.getD x 0).toNat<=57))->false=Cd s:=fun hc=>Cz fun e=>hc ((BO e).2.2.2.2.2.1 x hx')
  have n0:(x:Int)=0->¬(97<=(s.getD x 0).toNat/\(s.getD x 0).toNat<=122)->false=Cd s:=fun hx0 hc=>Cz fun e=>hc (by
   have:x=0:=by omega
   rw[this];exact (BO e).2.2.2.2.1)
  exact⟨⟨by omega,by omega⟩,fun a1=>⟨fun a2=>n0 a2 (by omega),fun a2=>⟨⟨by omega,by omega⟩,fun a3=>no (by omega),fun a3=>⟨⟨by omega,by omega⟩,fun a4=>no (by omega),fun a4=>go (by omega) (by omega)⟩⟩⟩,
   fun a1=>⟨⟨by omega,by omega⟩,fun b=>⟨fun a2=>n0 a2 (by omega),fun a2=>⟨⟨by omega,by omega⟩,fun a3=>no (by omega),fun a3=>⟨⟨by omega,by omega⟩,fun a4=>no (by omega),fun a4=>go (by omega) (by omega)⟩⟩⟩,fun b=>go (by omega) (by omega)⟩⟩
 ·have:x=s.length:=by omega
  rw[this,List.take_length] at ht
  have hp:TT s=true:=(Ov s).2 ⟨k1,h0 (by omega),ht⟩
  unfold Cd
  rw[hp,k3,decide_eq_true (by omega)]
  rfl
def If(vk:Int)(sh nu it:Nat):Bool:=vk==0&&(sh==0)&&(nu==0)&&(it==0)
def BF(kd at_:Int)(tx:List UInt8)(pr op vk:Int)(sh nu it bo:Nat)(de sl ss k:Int):Bool :=
 kd==k&&decide (0<=at_)&&decide (0<=de)&&decide (0<=sl)&&decide (0<=ss)&&(tx.isEmpty||k==2)&&(pr==0||k==9)&&(op==0||k==17)&&(If vk sh nu it||k==1)&&((bo==0)||k==10)
def GL(kd at_ cl:Int)(tx:List UInt8)(pr op vk:Int)(sh nu it ki bo:Nat)(de sl ss:Int):Bool:=kd==0&&at_==0&&cl==0&&de==0&&sl==0&&ss==0&&BF kd at_ tx pr op vk sh nu it bo de sl ss 0&&(ki==0)
theorem BdT{α:Type}(l:List α):(l.length==0)=l.isEmpty:=by cases l<;>rfl
theorem Bdk(n:Nd)(k:Int):BF n.kd n.at_ n.tx n.pr n.op n.va.k n.va.sh.length n.va.nu.length n.va.it.length n.bo.length n.de n.sl n.ss k=IP n k:=by
 unfold BF IP If Tu
 simp[BdT]
theorem Bh3(n:Nd):GL n.kd n.at_ n.cl n.tx n.pr n.op n.va.k n.va.sh.length n.va.nu.length n.va.it.length n.ki.length n.bo.length n.de n.sl n.ss=Cx n:=by
 unfold GL Cx
 rw[Bdk]
 simp[BdT]
def ndC(kd at_ cl:Int)(tx:List UInt8)(pr op vk:Int)(sh nu it ki bo:Nat)(f1 f2 f3 f4 f5:Nat->List D)(de sl ss:Int):List D :=
 [.int .i64 kd,.int .i64 at_,.int .i64 cl,.str tx,.int .i64 pr,.int .i64 op,.int .i64 vk,.sl 1 sh f1 .any,.sl 1 nu f2 .any,.sl 4 it f3 .any,.sl 15 ki f4 .any,.sl 34 bo f5 .any,.int .i64 de,.int .i64 sl,.int .i64 ss]
noncomputable def Eiz:Senv:=EC EB 24 3 [] (fun _=>([],[]))
def XQ(a:Nat):Bool:=(↑a:Int)==Z0
def QhE(a:Int)(b c d:Nat):Bool:=bif bif bif a==Z0 then XQ b else false then XQ c else false then XQ d else false
def QhF(a:Int)(b c d:Nat):Prop:=false=QhE a b c d/\True
theorem BqK(vk:Int)(sh nu it:Nat)(f1 f2 f3:Nat->List D):CD 94 [.agg [.int .i64 vk,.sl 1 sh f1 .any,.sl 1 nu f2 .any,.sl 4 it f3 .any]] (.bool (If vk sh nu it)):=by
 refine Bg (A:=sC _ _) (x:=()) (E:=Eiz) (eOk BM rfl) Tryz.func94 rfl (by kernel_rfl) rfl (by simp[sC,Eiz,EC,E0]) ?_
 refine Bi (T :=
  ∀(x:Nat),True->(SM x/\ifB (vk==Z0) (SM x/\ifB (XQ sh) (SM x/\ifB (XQ nu) (SM x/\XQ it=QhE vk sh nu it/\True) (QhF vk sh nu it)) (QhF vk sh nu it)) (QhF vk sh nu it))/\RT (QhE vk sh nu it=If vk sh nu it)) (by kernel_rfl) ?_
 delta SM Z0 XQ QhE QhF RT
 have z:∀n:Nat,((n:Int)==0)=(n==0):=fun n=>by
  rw[Bool.eq_iff_iff,beq_iff_eq,beq_iff_eq];omega
 simp only[z]
 unfold If
 generalize (vk==0)=a
 generalize (sh==0)=b
 generalize (nu==0)=c
 generalize (it==0)=d
 intro x _
 cases a<;>cases b<;>cases c<;>cases d<;>simp[Bf]
def BgL:Con:=fun k ds _=>match k with
 |94=>match ds with
  | [.agg [.int .i64 vk,.sl 1 sh _ _,.sl 1 nu _ _,.sl 4 it _ _]]=>some (pC ds (.bool (If vk sh nu it)) True)
  |_=>none
 |_=>none
theorem Bcl:ConOk Tryz.prog BgL:=by
 intro k ds S A h
 unfold BgL at h
 split at h
 ·split at h
  ·injection h with h;subst h
   rename_i vk sh f1 _ nu f2 _ it f3 _
   exact BW fun _=>⟨Bk _,B9 (us:=[.agg [.int .i64 vk,.sl 1 sh f1 .any,.sl 1 nu f2 .any,.sl 4 it f3 .any]]) (by simp[BD,Bn,Bb,BG,kEq]) (BqK _ _ _ _ _ _ _)⟩
  ·cases h
 ·cases h
noncomputable def Eol:Senv:=EC BgL 75 3 [4] (fun _=>([],[]))
theorem Bn7(kd at_ cl : Int)(tx : List UInt8)(pr op vk : Int)(sh nu it ki bo : Nat)(f1 f2 f3 f4 f5 : Nat -> List D)(de sl ss k : Int) :
  ACalls Tryz.prog 72 [.agg (ndC kd at_ cl tx pr op vk sh nu it ki bo f1 f2 f3 f4 f5 de sl ss),.int .i64 k] ⟨[],[]⟩ (SpecR (sC [.agg (ndC kd at_ cl tx pr op vk sh nu it ki bo f1 f2 f3 f4 f5 de sl ss),.int .i64 k] (.bool (BF kd at_ tx pr op vk sh nu it bo de sl ss k))) ()):=by
 refine Bg (A:=sC _ _) (x:=()) (E:=Eol) (eOk Bcl rfl) Tryz.func72 rfl (by kernel_rfl) rfl (by simp[sC,Eol,EC,E0]) ?_
 refine Bi (T :=
  ∀(x:Nat),True->SM x/\ifB (kd==k) (SM x/\ifB (decide (Z0<=at_)) (SM x/\ifB (decide (Z0<=de)) (SM x/\ifB (decide (Z0<=sl)) (SM x/\ifB (decide (Z0<=ss)) (SM x/\ifB (tx==[]) (SM x/\ifB (pr==Z0) (SM x/\ifB (op==Z0) (SM x/\True/\∀(y:Unit),True->ifB (If vk sh nu it) (SM x/\ifB ((↑bo:Int)==Z0) (RT (true=BF kd at_ tx pr op vk sh nu it bo de sl ss k)) (RT ((k==10)=BF kd at_ tx pr op vk sh nu it bo de sl ss k))) (ifB (k==Z1) (SM x/\ifB ((↑bo:Int)==Z0) (RT (true=BF kd at_ tx pr op vk sh nu it bo de sl ss k)) (RT ((k==10)=BF kd at_ tx pr op vk sh nu it bo de sl ss k))) (RT (false=BF kd at_ tx pr op vk sh nu it bo de sl ss k)))) (ifB (k==17) (SM x/\True/\∀(y:Unit),True->ifB (If vk sh nu it) (SM x/\ifB ((↑bo:Int)==Z0) (RT (true=BF kd at_ tx pr op vk sh nu it bo de sl ss k)) (RT ((k==10)=BF kd at_ tx pr op vk sh nu it bo de sl ss k))) (ifB (k==Z1) (SM x/\ifB ((↑bo:Int)==Z0) (RT (true=BF kd at_ tx pr op vk sh nu it bo de sl ss k)) (RT ((k==10)=BF kd at_ tx pr op vk sh nu it bo de sl ss k))) (RT (false=BF kd at_ tx pr op vk sh nu it bo de sl ss k)))) (RT (false=BF kd at_ tx pr op vk sh nu it bo de sl ss k)))) (ifB (k==9) (SM x/\ifB (op==Z0) (SM x/\True/\∀(y:Unit),True->ifB (If vk sh nu it) (SM x/\ifB ((↑bo:Int)==Z0) (RT (true=BF kd at_ tx pr op vk sh nu it bo de sl ss k)) (RT ((k==10)=BF kd at_ tx pr op vk sh nu it bo de sl ss k))) (ifB (k==Z1) (SM x/\ifB ((↑bo:Int)==Z0) (RT (true=BF kd at_ tx pr op vk sh nu it bo de sl ss k)) (RT ((k==10)=BF kd at_ tx pr op vk sh nu it bo de sl ss k))) (RT (false=BF kd at_ tx pr op vk sh nu it bo de sl ss k)))) (ifB (k==17) (SM x/\True/\∀(y:Unit),True->ifB (If vk sh nu it) (SM x/\ifB ((↑bo:Int)==Z0) (RT (true=BF kd at_ tx pr op vk sh nu it bo de sl ss k)) (RT ((k==10)=BF kd at_ tx pr op vk sh nu it bo de sl ss k))) (ifB (k==Z1) (SM x/\ifB ((↑bo:Int)==Z0) (RT (true=BF kd at_ tx pr op vk sh nu it bo de sl ss k)) (RT ((k==10)=BF kd at_ tx pr op vk sh nu it bo de sl ss k))) (RT (false=BF kd at_ tx pr op vk sh nu it bo de sl ss k)))) (RT (false=BF kd at_ tx pr op vk sh nu it bo de sl ss k)))) (RT (false=BF kd at_ tx pr op vk sh nu it bo de sl ss k)))) (ifB (k==2) (SM x/\ifB (pr==Z0) (SM x/\ifB (op==Z0) (SM x/\True/\∀(y:Unit),True->ifB (If vk sh nu it) (SM x/\ifB ((↑bo:Int)==Z0) (RT (true=BF kd at_ tx pr op vk sh nu it bo de sl ss k)) (RT ((k==10)=BF kd at_ tx pr op vk sh nu it bo de sl ss k))) (ifB (k==Z1) (SM x/\ifB ((↑bo:Int)==Z0) (RT (true=BF kd at_ tx pr op vk sh nu it bo de sl ss k)) (RT ((k==10)=BF kd at_ tx pr op vk sh nu it bo de sl ss k))) (RT (false=BF kd at_ tx pr op vk sh nu it bo de sl ss k)))) (ifB (k==17) (SM x/\True/\∀(y:Unit),True->ifB (If vk sh nu it) (SM x/\ifB ((↑bo:Int)==Z0) (RT (true=BF kd at_ tx pr op vk sh nu it bo de sl ss k)) (RT ((k==10)=BF kd at_ tx pr op vk sh nu it bo de sl ss k))) (ifB (k==Z1) (SM x/\ifB ((↑bo:Int)==Z0) (RT (true=BF kd at_ tx pr op vk sh nu it bo de sl ss k)) (RT ((k==10)=BF kd at_ tx pr op vk sh nu it bo de sl ss k))) (RT (false=BF kd at_ tx pr op vk sh nu it bo de sl ss k)))) (RT (false=BF kd at_ tx pr op vk sh nu it bo de sl ss k)))) (ifB (k==9) (SM x/\ifB (op==Z0) (SM x/\True/\∀(y:Unit),True->ifB (If vk sh nu it) (SM x/\ifB ((↑bo:Int)==Z0) (RT (true=BF kd at_ tx pr op vk sh nu it bo de sl ss k)) (RT ((k==10)=BF kd at_ tx pr op vk sh nu it bo de sl ss k))) (ifB (k==Z1) (SM x/\ifB ((↑bo:Int)==Z0) (RT (true=BF kd at_ tx pr op vk sh nu it bo de sl ss k)) (RT ((k==10)=BF kd at_ tx pr op vk sh nu it bo de sl ss k))) (RT (false=BF kd at_ tx pr op vk sh nu it bo de sl ss k)))) (ifB (k==17) (SM x/\True/\∀(y:Unit),True->ifB (If vk sh nu it) (SM x/\ifB ((↑bo:Int)==Z0) (RT (true=BF kd at_ tx pr op vk sh nu it bo de sl ss k)) (RT ((k==10)=BF kd at_ tx pr op vk sh nu it bo de sl ss k))) (ifB (k==Z1) (SM x/\ifB ((↑bo:Int)==Z0) (RT (true=BF kd at_ tx pr op vk sh nu it bo de sl ss k)) (RT ((k==10)=BF kd at_ tx pr op vk sh nu it bo de sl ss k))) (RT (false=BF kd at_ tx pr op vk sh nu it bo de sl ss k)))) (RT (false=BF kd at_ tx pr op vk sh nu it bo de sl ss k)))) (RT (false=BF kd at_ tx pr op vk sh nu it bo de sl ss k)))) (RT (false=BF kd at_ tx pr op vk sh nu it bo de sl ss k)))) (RT (false=BF kd at_ tx pr op vk sh nu it bo de sl ss k))) (RT (false=BF kd at_ tx pr op vk sh nu it bo de sl ss k))) (RT (false=BF kd at_ tx pr op vk sh nu it bo de sl ss k))) (RT (false=BF kd at_ tx pr op vk sh nu it bo de sl ss k))) (RT (false=BF kd at_ tx pr op vk sh nu it bo de sl ss k))) (by kernel_rfl) ?_
 delta SM Z0 Z1 RT
 have z:∀n:Nat,((n:Int)==0)=(n==0):=fun n=>by
  rw[Bool.eq_iff_iff,beq_iff_eq,beq_iff_eq];omega
 have e:(tx==[])=tx.isEmpty:=by cases tx<;>rfl
 unfold BF
 simp only[z,e]
 generalize (kd==k)=a1
 generalize decide (0<=at_)=a2
 generalize decide (0<=de)=a3
 generalize decide (0<=sl)=a4
 generalize decide (0<=ss)=a5
 generalize tx.isEmpty=a6
 generalize (k==2)=a7
 generalize (pr==0)=a8
 generalize (k==9)=a9
 generalize (op==0)=b1
 generalize (k==17)=b2
 generalize If vk sh nu it=b3
 generalize (k==1)=b4
 generalize (bo==0)=b5
 generalize (k==10)=b6
 simp only[Bf,true_and,and_true,exists_const,forall_const]
 repeat' (first | refine And.intro ?_ ?_ | intro _)
 all_goals subst_vars
 all_goals simp only[Bool.true_and,Bool.and_true,Bool.false_and,Bool.and_false,Bool.true_or,Bool.false_or,Bool.or_true,Bool.or_false]
def Bkn:Con:=fun k ds S=>match k with
 |72=>match ds with
  | [.agg [.int .i64 kd,.int .i64 at_,.int .i64 _,.str tx,.int .i64 pr,.int .i64 op,.int .i64 vk,.sl 1 sh _ _,.sl 1 nu _ _,.sl 4 it _ _,.sl 15 _ _ _,.sl 34 bo _ _,.int .i64 de,.int .i64 sl,.int .i64 ss],.int .i64 k]=>some (pC ds (.bool (BF kd at_ tx pr op vk sh nu it bo de sl ss k)) True)
  |_=>none
 |k=>BgL k ds S
theorem Bpu(kd at_ cl : Int)(tx : List UInt8)(pr op vk : Int)(sh nu it ki bo : Nat)(f1 f2 f3 f4 f5 : Nat -> List D)(m1 m2 m3 m4 m5 : Ab.Mode)(de sl ss : Int)(ex : List D) :
  BD (.agg [.int .i64 kd,.int .i64 at_,.int .i64 cl,.str tx,.int .i64 pr,.int .i64 op,.int .i64 vk,.sl 1 sh f1 m1,.sl 1 nu f2 m2,.sl 4 it f3 m3,.sl 15 ki f4 m4,.sl 34 bo f5 m5,.int .i64 de,.int .i64 sl,.int .i64 ss]::ex) (.agg (ndC kd at_ cl tx pr op vk sh nu it ki bo f1 f2 f3 f4 f5 de sl ss)::ex):=by
 refine⟨?_,Bk _⟩
 simp[ndC,BD,Bn,Bb,BG,kEq]
theorem BjT:ConOk Tryz.prog Bkn:=by
 intro k ds S A h
 unfold Bkn at h
 split at h
 ·split at h
  ·injection h with h;subst h
   exact BW fun _=>⟨Bk _,B9 (Bpu _ _ _ _ _ _ _ _ _ _ _ _ _ _ _ _ _ _ _ _ _ _ _ _ _ _) (Bn7 _ _ _ _ _ _ _ _ _ _ _ _ _ _ _ _ _ _ _ _ _)⟩
  ·cases h
 ·exact Bcl _ _ _ _ h
noncomputable def Eem:Senv:=EC Bkn 41 3 [] (fun _=>([],[]))
theorem Bqp(kd at_ cl : Int)(tx : List UInt8)(pr op vk : Int)(sh nu it ki bo : Nat)(f1 f2 f3 f4 f5 : Nat -> List D)(de sl ss : Int) :
  ACalls Tryz.prog 53 [.agg (ndC kd at_ cl tx pr op vk sh nu it ki bo f1 f2 f3 f4 f5 de sl ss)] ⟨[],[]⟩ (SpecR (sC [.agg (ndC kd at_ cl tx pr op vk sh nu it ki bo f1 f2 f3 f4 f5 de sl ss)] (.bool (GL kd at_ cl tx pr op vk sh nu it ki bo de sl ss))) ()):=by
 refine Bg (A:=sC _ _) (x:=()) (E:=Eem) (eOk BjT rfl) Tryz.func53 rfl (by kernel_rfl) rfl (by simp[sC,Eem,EC,E0]) ?_
 refine Bi (T :=
  ∀(x:Nat),True->SM x/\ifB (kd==Z0) (SM x/\ifB (at_==Z0) (SM x/\ifB (cl==Z0) (SM x/\ifB (de==Z0) (SM x/\ifB (sl==Z0) (SM x/\ifB (ss==Z0) (SM x/\True/\∀(y:Unit),True->ifB (BF kd at_ tx pr op vk sh nu it bo de sl ss Z0) (SM x/\RT (((↑ki:Int)==Z0)=GL kd at_ cl tx pr op vk sh nu it ki bo de sl ss)) (RT (false=GL kd at_ cl tx pr op vk sh nu it ki bo de sl ss))) (RT (false=GL kd at_ cl tx pr op vk sh nu it ki bo de sl ss))) (RT (false=GL kd at_ cl tx pr op vk sh nu it ki bo de sl ss))) (RT (false=GL kd at_ cl tx pr op vk sh nu it ki bo de sl ss))) (RT (false=GL kd at_ cl tx pr op vk sh nu it ki bo de sl ss))) (RT (false=GL kd at_ cl tx pr op vk sh nu it ki bo de sl ss))) (RT (false=GL kd at_ cl tx pr op vk sh nu it ki bo de sl ss))) (by kernel_rfl) ?_
 delta SM Z0 RT
 have z:∀n:Nat,((n:Int)==0)=(n==0):=fun n=>by
  rw[Bool.eq_iff_iff,beq_iff_eq,beq_iff_eq];omega
 unfold GL
 simp only[z]
 generalize (kd==0)=a1
 generalize (at_==0)=a2
 generalize (cl==0)=a3
 generalize (de==0)=a4
 generalize (sl==0)=a5
 generalize (ss==0)=a6
 generalize (ki==0)=a8
 generalize BF _ _ _ _ _ _ _ _ _ _ _ _ _ _=a7
 simp only[Bf,true_and,and_true,exists_const,forall_const]
 repeat' (first | refine And.intro ?_ ?_ | intro _)
 all_goals subst_vars
 all_goals simp only[Bool.true_and,Bool.and_true,Bool.false_and,Bool.and_false]
noncomputable def C4{α:Type}(a b:α):Bool:=@decide (a=b) (Classical.propDecidable _)
theorem CV{α:Type}{a b:α}:C4 a b=true↔a=b:=by unfold C4;exact @decide_eq_true_iff _ (Classical.propDecidable _)
theorem Ey{α:Type}{a b:α}(h:a≠b):false=C4 a b:=by
 cases hs:C4 a b with
 |false=>rfl
 |true=>exact (h (CV.1 hs)).elim
theorem BhL{α:Type}{a b:α}(h:a=b):true=C4 a b:=(CV.2 h).symm
theorem UY{α:Type}{l m:List α}(d:α)(h:l.length=m.length)(h2:∀j,j<l.length->l.getD j d=m.getD j d):l=m:=by
 apply List.ext_getElem h
 intro i h3 h4
 have:=h2 i h3
 simpa[List.getD_eq_getElem?_getD,List.getElem?_eq_getElem h3,List.getElem?_eq_getElem h4] using this
theorem Bcr{α β:Type}{a b:α}{c d:β}(h:a=b↔c=d):C4 a b=C4 c d:=by
 rw[Bool.eq_iff_iff,CV,CV];exact h
theorem BnN{a b:Arr}(h1:a.k=b.k)(h2:a.sh=b.sh)(h3:a.nu=b.nu)(h4:a.it=b.it):a=b:=by
 cases a;cases b
 simp only[Arr.k,Arr.sh,Arr.nu,Arr.it] at h1 h2 h3 h4
 rw[h1,h2,h3,h4]
noncomputable def Eshp(l m:List Int):Senv:={ EC EB 26 2 [4,5,10,14,25] (fun id=>match id with | 6=>([0,1,2,3,4,5,6,7,8],[]) | _=>([],[])) with
 ann:=fun b _ S=>match b with
  |0=>some { slots:=[5],keep:=[0,1],α:=Nat,st:=fun i=>([.int .i64 i],S),inv:=fun i=>i<=l.length/\∀j,j<i->l.getD j 0=m.getD j 0,mu:=fun i=>l.length-i }
  |_=>none }
def Qq3(a b:List Int):Prop:=RT (false=decide (a=b))
def QhG(a:Nat)(b c:List Int):Prop:=a<=LN b/\∀(j:Nat),j<a->GI b j=GI c j
def QOK(a:List Int):D:=SI a
def Qq4(a:List Int):Prop:=SM (QOK a)
theorem BhG(l m:List Int)(hl:l.length<=maxLen)(hm:m.length<=maxLen):ACalls Tryz.prog 125 [isl l .any,isl m .any] ⟨[],[]⟩ (SpecR (sC [isl l .any,isl m .any] (.bool (decide (l=m)))) ()):=by
 refine Bg (A:=sC _ _) (x:=()) (E:=Eshp l m) (eOk BM rfl) Tryz.func125 rfl (by kernel_rfl) rfl (by simp[sC,Eshp,EC,E0]) ?_
 refine Bi (T :=
  ifB ((LI l) != (LI m)) (Qq3 l m) ((∃(x:Nat),QhG x l m/\(Z0=(↑x:Int)/\True)/\True/\True)/\∀(x:Nat),QhG x l m->ifB (decide ((↑x:Int)<(LI l))) (Bc (Z0<=(↑x:Int)/\(↑x:Int)<(LI l)) (Bc (Z0<=(↑x:Int)/\(↑x:Int)<(LI m)) (ifB (GI l (Int.toNat (↑x:Int)) != GI m (Int.toNat (↑x:Int))) (Qq3 l m) ((Qq4 l/\Qq4 m/\True)/\∃(y:Nat),QhG y l m/\LN l-y<LN l-x/\(IntKind.wrap IntKind.i64 ((↑x:Int)+Z1)=(↑y:Int)/\True)/\True/\True)))) (RT (true=decide (l=m))))) (by kernel_rfl) ?_
 delta GI LI LN N1 SI SM Z0 Z1 ZI Qq3 QhG QOK Qq4 RT
 simp only[Bf,Bd,decide_eq_true_eq,decide_eq_false_iff_not,true_and,and_true,beq_iff_eq,bne_iff_ne,ne_eq,exists_const,forall_const,implies_true,Int.toNat_natCast]
 simp only[maxLen] at hl hm
 refine⟨fun h=>?_,fun h=>⟨⟨0,⟨Nat.zero_le _,fun j hj=>absurd hj (by omega)⟩,rfl⟩,fun i hi=>⟨fun hlt=>?_,fun hge=>?_⟩⟩⟩
 ·exact (decide_eq_false fun e=>by rw[e] at h;exact h rfl).symm
 ·have h:l.length=m.length:=by
   have h:(l.length:Int)=m.length:=by simpa using h
   omega
  refine⟨⟨by omega,by omega⟩,⟨by omega,by omega⟩,fun hn=>?_,fun he=>⟨i+1,⟨by omega,fun j hj=>?_⟩,by omega,Ba (by omega) (by omega)⟩⟩
  ·exact (decide_eq_false fun e=>hn (by rw[e])).symm
  ·by_cases e:j=i
   ·subst e;simpa using he
   ·exact hi.2 j (by omega)
 ·have h:l.length=m.length:=by
   have h:(l.length:Int)=m.length:=by simpa using h
   omega
  exact (decide_eq_true (UY 0 h fun j hj=>hi.2 j (by omega))).symm
noncomputable def Mg(a b:Arr):Bool:=@decide (a=b) (Classical.propDecidable _)
theorem Gq{a b:Arr}:Mg a b=true↔a=b:=by unfold Mg;exact @decide_eq_true_iff _ (Classical.propDecidable _)
theorem ME{a b:Arr}(h:a≠b):false=Mg a b:=by
 cases hs:Mg a b with
 |false=>rfl
 |true=>exact (h (Gq.1 hs)).elim
noncomputable def sSm(row:Arr->List D)(q:Arr×Arr->Prop):FnSpec where
 β:=Arr×Arr
 α:=Unit
 args:=fun x=>[.agg (row x.1),.agg (row x.2)]
 st:=fun _=>⟨[],[]⟩
 pre:=q
 post:=fun _ _=>True
 res:=fun x _=>.ret (.bool (Mg x.1 x.2))
 out:=fun _ _=>⟨[],[]⟩
noncomputable def BkJ(l m:List Arr):Con:=fun k ds _=>match k with
 |111=>some (sSm Arr.row1 (fun x=>x.1∈l/\x.2∈m))
 |125=>match ds with
  | [.sl 1 n f _,.sl 1 p g _]=>some (pC ds (.bool (decide (Bj n f=Bj p g))) ((IntsP n f/\n<=maxLen)/\IntsP p g/\p<=maxLen))
  |_=>none
 |_=>none
noncomputable def Esm(a b:Arr):Senv:={ EC (BkJ a.it b.it) 55 6 [35,40,54] (fun id=>match id with | 6=>([0,1,2,3,4,5,6,7,8,9,10,11],[10]) | _=>([],[])) with
 ann:=fun q _ S=>match q with
  |0=>some { slots:=[5],keep:=[2,3],α:=Nat,st:=fun i=>([.int .i64 i],S),inv:=fun i=>i<=a.it.length/\∀j,j<i->a.it.getD j default=b.it.getD j default,mu:=fun i=>a.it.length-i }
  |_=>none }
def Qbb(a:Arr):Int:=Arr.k a
def Zx(a b:Arr):Prop:=RT (false=Mg a b)
def XR(a:Arr):Nat:=LN (Arr.sh a)
def Qbc(a:Arr)(b:Nat):List D:=[ZI (GI (Arr.sh a) b)]
def Qq5(a:Arr):Prop:=(IntsP (XR a) fun i=>Qbc a i)/\XR a<=9223372036854775807
def Qq6(a:Arr):List Int:=Bj (XR a) fun i=>Qbc a i
def XS(a:Arr):Nat:=LN (Arr.nu a)
def Qbd(a:Arr)(b:Nat):List D:=[ZI (GI (Arr.nu a) b)]
def Qq7(a:Arr):Prop:=(IntsP (XS a) fun i=>Qbd a i)/\XS a<=9223372036854775807
def Qq8(a:Arr):List Int:=Bj (XS a) fun i=>Qbd a i
def Zy(a:Arr):List Arr:=Arr.it a
def VW(a:Arr):Nat:=LN (Zy a)
def Zz(a:Arr):Int:=(NI (VW a))
def Qbe:Arr:=DA
def VX(a:Arr)(b:Nat):Arr:=List.getD (Zy a) b Qbe
def QhH(a:Nat)(b c:Arr):Prop:=a<=VW b/\∀(j:Nat),j<a->VX b j=VX c j
def QOL(a:Arr)(b:Nat):List Int:=Arr.sh (VX a b)
def QOM(a:Arr)(b:Nat):List Int:=Arr.nu (VX a b)
def Qq9(a:Arr)(b:Nat):List Arr:=Arr.it (VX a b)
def QON(a:Arr)(b:Nat):List D:=[ZI (Arr.k (VX a b)),SI (QOL a b),SI (QOM a b),D.sl N4 (LN (Qq9 a b)) (fun i=>Arr.row (List.getD (Qq9 a b) i Qbe)) Mode.any]
def Qra(a:Arr):Prop:=SM (Qbb a)/\(SM (XR a)/\(∀(i:Nat),i<XR a->SM (Qbc a i))/\True)/\(SM (XS a)/\(∀(i:Nat),i<XS a->SM (Qbd a i))/\True)/\(SM (VW a)/\(∀(i:Nat),i<VW a->SM (QON a i))/\True)/\True
def Qrb(a:Nat)(b:Arr)(c:Nat)(d:Arr):Prop:=(SM a/\Qra b/\SM c/\Qra d/\True)/\True
def Qbf(a:Arr)(b:Nat):Arr:=List.getD (Zy a) (Int.toNat (↑b:Int)) Qbe
def Qrc(a:Arr)(b:Nat):List Int:=Arr.sh (Qbf a b)
def Qrd(a:Arr)(b:Nat):Nat:=LN (Qrc a b)
def Qre(a:Arr)(b:Nat):List Int:=Arr.nu (Qbf a b)
def Qrf(a:Arr)(b:Nat):Nat:=LN (Qre a b)
def Qrg(a:Arr)(b:Nat):List Arr:=Arr.it (Qbf a b)
def Qrh(a:Arr)(b:Nat):Nat:=LN (Qrg a b)
def Qri(a:Arr)(b:Nat)(c:Arr):Prop:=Arr.k (Qbf a b)=Qbb c/\(Qrd a b=XR c/\(∀(i:Nat),i<Qrd a b->[ZI (GI (Qrc a b) i)]=Qbc c i)/\True)/\(Qrf a b=XS c/\(∀(i:Nat),i<Qrf a b->[ZI (GI (Qre a b) i)]=Qbd c i)/\True)/\(Qrh a b=VW c/\(∀(i:Nat),i<Qrh a b->Arr.row (List.getD (Qrg a b) i Qbe)=Arr.row (VX c i))/\True)/\True
theorem Bg2(a b : Arr)(ha : a.sh.length<=maxLen /\ a.nu.length<=maxLen /\ a.it.length<=maxLen)(hb : b.sh.length<=maxLen /\ b.nu.length<=maxLen /\ b.it.length<=maxLen)(hc : ConOk Tryz.prog (BkJ a.it b.it)) :
  ACalls Tryz.prog 111 ((sSm Arr.row2 (fun _=>True)).args (a,b)) ⟨[],[]⟩ (SpecR (sSm Arr.row2 (fun _=>True)) (a,b)):=by
 refine Bg (A:=sSm Arr.row2 (fun _=>True)) (x:=(a,b)) (E:=Esm a b) (eOk hc rfl) Tryz.func111 rfl (by kernel_rfl) rfl (by simp[sSm,Esm,EC,E0]) ?_
 refine Bi (T :=
  ∀(x:Nat),True->∀(x_1:Nat),x≠x_1/\True->SM x/\SM x_1/\ifB (Qbb a != Qbb b) (Zx a b) (SM x/\SM x_1/\(Qq5 a/\Qq5 b)/\∀(y:Unit),True->ifB (!decide (Qq6 a=Qq6 b)) (Zx a b) (SM x/\SM x_1/\(Qq7 a/\Qq7 b)/\∀(y:Unit),True->ifB (!decide (Qq8 a=Qq8 b)) (Zx a b) (SM x/\SM x_1/\ifB (Zz a != Zz b) (Zx a b) ((∃(x_2:Nat),QhH x_2 a b/\(Z0=(↑x_2:Int)/\True)/\Qrb x_1 b x a)/\∀(x_2:Nat),QhH x_2 a b->SM x/\ifB (decide ((↑x_2:Int)<Zz a)) (SM x/\Bc (Z0<=(↑x_2:Int)/\(↑x_2:Int)<Zz a) (SM x_1/\Bc (Z0<=(↑x_2:Int)/\(↑x_2:Int)<Zz b) (∃(x_3:Arr×Arr),(Qri a x_2 x_3.1/\Qri b x_2 x_3.2/\True)/\(True/\True)/\(x_3.1∈Zy a/\x_3.2∈Zy b)/\∀(y:Unit),True->ifB (!Mg x_3.1 x_3.2) (Zx a b) ((SM (D.ref N0 x N0)/\SM (D.ref (max (N0+N1) N0) x_1 N0)/\True)/\∃(y:Nat),QhH y a b/\VW a-y<VW a-x_2/\(IntKind.wrap IntKind.i64 ((↑x_2:Int)+Z1)=(↑y:Int)/\True)/\Qrb x_1 b x a)))) (RT (true=Mg a b))))))) (by kernel_rfl) ?_
 delta DA GI LN N0 N1 N4 NI SI SM Z0 Z1 ZI XS Qbd Qq7 Qq8 Zy VW Zz Qbe VX QhH QOL QOM Qq9 QON Qra Qrb Qbf Qrc Qrd Qre Qrf Qrg Qrh Qri Qbb Zx XR Qbc Qq5 Qq6 RT
 have da:(default:Arr)=Arr.mk 0 [] [] []:=rfl
 simp only[<- da,Bf,Bd,decide_eq_true_eq,decide_eq_false_iff_not,true_and,and_true,beq_iff_eq,bne_iff_ne,Bool.cond_false_right,Bool.cond_true_left,Bool.and_eq_true,Bool.and_eq_false_iff,Bool.or_eq_true,Bool.or_eq_false_iff,beq_eq_false_iff_ne,ne_eq,exists_const,forall_const,implies_true,Int.toNat_natCast,Prod.exists,B0]
 simp only[maxLen] at ha hb
 obtain ⟨a1,a2,a3⟩:=ha
 obtain ⟨b1,b2,b3⟩:=hb
 refine fun x x1 _=>⟨fun h=>ME fun e=>h (by rw[e]),fun hk=>⟨⟨⟨BQ _,a1⟩,BQ _,b1⟩,fun h=>ME fun e=>?_,fun hs=>⟨⟨⟨BQ _,a2⟩,BQ _,b2⟩,fun h=>ME fun e=>?_,fun hn=>⟨fun h=>ME fun e=>h (by rw[e]),fun hl=>⟨⟨0,⟨Nat.zero_le _,fun j hj=>absurd hj (by omega)⟩,rfl⟩,fun i hi=>⟨fun hlt=>?_,fun hge=>?_⟩⟩⟩⟩⟩⟩
 ·rw[e] at h;simp at h
 ·rw[e] at h;simp at h
 ·have hl:a.it.length=b.it.length:=by
   have hl:(a.it.length:Int)=b.it.length:=by simpa using hl
   omega
  have h1:i<a.it.length:=by omega
  have h2:i<b.it.length:=by omega
  refine⟨⟨by omega,by omega⟩,⟨by omega,by omega⟩,a.it.getD i default,b.it.getD i default,⟨⟨rfl,⟨rfl,fun _ _=>rfl⟩,⟨rfl,fun _ _=>rfl⟩,rfl,fun _ _=>rfl⟩,rfl,⟨rfl,fun _ _=>rfl⟩,⟨rfl,fun _ _=>rfl⟩,rfl,fun _ _=>rfl⟩,⟨Cg h1,Cg h2⟩,fun h=>ME fun e=>?_,fun h=>⟨i+1,⟨by omega,fun j hj=>?_⟩,by omega,Ba (by omega) (by omega)⟩⟩
  ·rw[e,Gq.2 rfl] at h;cases h
  ·by_cases e:j=i
   ·subst e
    exact Gq.1 (by simpa using h)
   ·exact hi.2 j (by omega)
 ·have hl:a.it.length=b.it.length:=by
   have hl:(a.it.length:Int)=b.it.length:=by simpa using hl
   omega
  exact (Gq.2 (BnN (by simpa using hk) (by simpa using hs) (by simpa using hn) (UY default hl fun j hj=>hi.2 j (by omega)))).symm
theorem BaQ{k:Nat}{q q':Arr×Arr->Prop}{x:Arr×Arr}(h:ACalls Tryz.prog k ((sSm Arr.row2 q).args x) ⟨[],[]⟩ (SpecR (sSm Arr.row2 q) x)):ACalls Tryz.prog k ((sSm Arr.row1 q').args x) ⟨[],[]⟩ (SpecR (sSm Arr.row1 q') x) :=
 (h.wkArgs (by simp only[sSm,wkL,wkD];exact⟨GP _,GP _,trivial⟩)).mono fun _ _ ⟨y,q1,q2,q3⟩=>⟨y,q1,q2,q3⟩
theorem Rg:∀(a b:Arr),a.ok->b.ok->ACalls Tryz.prog 111 ((sSm Arr.row2 (fun _=>True)).args (a,b)) ⟨[],[]⟩ (SpecR (sSm Arr.row2 (fun _=>True)) (a,b))
 |.mk k s n is,.mk k' s' n' is',ha,hb=>by
  simp only[Arr.ok] at ha hb
  obtain ⟨_,_,_,a1,a2,a3,a4⟩:=ha
  obtain ⟨_,_,_,b1,b2,b3,b4⟩:=hb
  refine Bg2 _ _ ⟨a1,a2,a3⟩ ⟨b1,b2,b3⟩ ?_
  intro f ds S A h
  unfold BkJ at h
  split at h
  ·injection h with h;subst h
   refine ConOk.plain (fun (x:Arr×Arr) hx=>?_) rfl rfl
   obtain ⟨x,y⟩:=x
   have hx1:x∈is:=hx.1
   have hx2:y∈is':=hx.2
   exact BaQ (Rg x y ((EY _).1 a4 x hx1) ((EY _).1 b4 y hx2))
  ·split at h
   ·injection h with h;subst h
    exact BW fun ⟨⟨h1,h2⟩,h3,h4⟩=>⟨Bk _,B9 (us:=[isl (Bj _ _) .any,isl (Bj _ _) .any]) ⟨(CA h1).1,(CA h3).1,trivial⟩ (BhG _ _ (by rw[BL];exact h2) (by rw[BL];exact h4))⟩
   ·cases h
  ·cases h
termination_by a=>SizeOf.sizeOf a
decreasing_by
 have:=List.sizeOf_lt_of_mem hx1
 simp;omega
theorem UO{l:List Nd}{m:List Int}:(l.map Nd.cl==m)=true↔l.length=m.length/\∀j,j<l.length->(l.getD j default).cl=m.getD j 0:=by
 rw[beq_iff_eq]
 constructor
 ·rintro rfl
  refine⟨by simp,fun j hj=>?_⟩
  simp[List.getD_eq_getElem?_getD,hj]
 ·rintro ⟨h1,h2⟩
  apply List.ext_getElem (by simpa using h1)
  intro i h3 h4
  have h3:i<l.length:=by simpa using h3
  have:=h2 i h3
  simpa[List.getD_eq_getElem?_getD,h3,h4] using this
theorem BbB{l:List Nd}{m:List Int}(h:¬(l.length=m.length/\∀j,j<l.length->(l.getD j default).cl=m.getD j 0)):false=(l.map Nd.cl==m):=by
 cases e:(l.map Nd.cl==m) with
 |false=>rfl
 |true=>exact (h (UO.1 e)).elim
noncomputable def Eqc(l:List Nd)(m:List Int):Senv:={ EC EB 32 3 [6,7,8,9,14,15,16,17,18,30] (fun _=>([],[])) with
 ann:=fun q _ S=>match q with
  |0=>some { slots:=[17],keep:=[0,1,2,15,16],α:=Nat,st:=fun i=>([.int .i64 i],S),inv:=fun i=>i<=l.length/\∀j,j<i->(l.getD j default).cl=m.getD j 0,mu:=fun i=>l.length-i }
  |_=>none }
def Qrj(a:List Nd)(b:List Int):Prop:=RT (false=(List.map Nd.cl a==b))
def Qrk:Arr:=DA
def ZA:Nd:=Nd.mk Z0 Z0 Z0 [] Z0 Z0 Qrk [] [] Z0 Z0 Z0
def Q4(a:List Nd)(b:Nat):Nd:=List.getD a b ZA
def Qrl(a:List Nd)(b:Nat):Int:=Nd.cl (Q4 a b)
def QhI(a:Nat)(b:List Nd)(c:List Int):Prop:=a<=LN b/\∀(j:Nat),j<a->Qrl b j=GI c j
def QOQ(a:List Nd):D:=D.sl 15 (LN a) (fun i=>(Nd.rowE (Q4 a i))) Mode.any
def Qrp(a:List Nd):Prop:=SM (QOQ a)
def QOR(a:List Int):D:=SI a
theorem Bo2(l:List Nd)(m:List Int)(hl:l.length<=maxLen)(hm:m.length<=maxLen):CD 119 [gsl 15 Nd.row1 l,isl m .any,.fn (.func 120) [] []] (.bool (l.map Nd.cl==m)):=by
 refine Bg (A:=sC _ _) (x:=()) (E:=Eqc l m) (eOk BM rfl) Tryz.func119 rfl (by kernel_rfl) rfl (by simp[sC,Eqc,EC,E0]) ?_
 refine Bi (T :=
  ifB ((LI l) != (LI m)) (Qrj l m) ((∃(x:Nat),QhI x l m/\(Z0=(↑x:Int)/\True)/\True/\True)/\∀(x:Nat),QhI x l m->ifB (decide ((↑x:Int)<(LI l))) (Bc (Z0<=(↑x:Int)/\(↑x:Int)<(LI l)) (∀(x_1:Nat),True->SM x_1/\Bc (Z0<=(↑x:Int)/\(↑x:Int)<(LI m)) (SM x_1/\∀(x_2:Nat),x_1≠x_2/\True->SM x_2/\True/\ifB (!Nd.cl (List.getD l (Int.toNat (↑x:Int)) ZA)==GI m (Int.toNat (↑x:Int))) (Qrj l m) ((Qrp l/\SM (QOR m)/\SM (D.fn (Fn.func (120:Nat)) [] [])/\Qrp l/\SM (ZI (LI l))/\True)/\∃(y:Nat),QhI y l m/\LN l-y<LN l-x/\(IntKind.wrap IntKind.i64 ((↑x:Int)+Z1)=(↑y:Int)/\True)/\True/\True)))) (RT (true=(List.map Nd.cl l==m))))) (by kernel_rfl) ?_
 delta DA GI LI LN N1 N4 SI SM Z0 Z1 ZI Qrj Qrk QOQ Qrp QOR ZA Q4 Qrl QhI RT
 simp only[eq_self,ne_eq,implies_true,Bk,Int.toNat_natCast,Bf,Bd,decide_eq_true_eq,decide_eq_false_iff_not,true_and,and_true,beq_iff_eq,bne_iff_ne,bne_eq_false_iff_eq,beq_eq_false_iff_ne,Bool.not_eq_true',Bool.not_eq_false',exists_const,forall_const]
 simp only[<- dn]
 simp only[maxLen] at hl hm
 refine⟨fun h=>BbB fun ⟨e,_⟩=>h (by omega),fun he=>⟨⟨0,⟨Nat.zero_le _,fun j hj=>by omega⟩,rfl⟩,fun x ⟨x1,hx⟩=>⟨fun hlt=>⟨⟨by omega,by omega⟩,fun _=>⟨⟨by omega,by omega⟩,fun _ _=>⟨fun h=>BbB fun ⟨_,e⟩=>h (e x (by omega)),fun h=>⟨x+1,⟨by omega,fun j hj=>by
   by_cases e:j=x
   ·rw[e];exact h
   ·exact hx j (by omega)⟩,by omega,Ba (by omega) (by omega)⟩⟩⟩⟩,fun hge=>(UO.2 ⟨by omega,fun j hj=>hx j (by omega)⟩).symm⟩⟩⟩
noncomputable def Ercl(n:Nd)(m:List Int):Senv:={ EC EB 29 3 [4,5,11,15,28] (fun id=>match id with | 6=>([0,1,2,3,4,5,6,7,8,9,10],[]) | _=>([],[])) with
 ann:=fun q _ S=>match q with
  |0=>some { slots:=[5],keep:=[0,1,2],α:=Nat,st:=fun i=>([.int .i64 i],S),inv:=fun i=>i<=m.length/\∀j,j<i->(n.ki.getD j default).cl=m.getD j 0,mu:=fun i=>m.length-i }
  |_=>none }
def QhJ(a:Nd):List Nd:=Nd.ki a
def ZC(a:Nd):Nat:=LN (QhJ a)
def Qrq(a:Nd)(b:List Int):Prop:=RT (false=Bm a b)
def ZD:Arr:=DA
def VY:Nd:=Nd.mk Z0 Z0 Z0 [] Z0 Z0 ZD [] [] Z0 Z0 Z0
def Q5(a:Nd)(b:Nat):Nd:=List.getD (QhJ a) b VY
def Qrr(a:Nd)(b:Nat):Int:=Nd.cl (Q5 a b)
def QhK(a:Nat)(b:List Int)(c:Nd):Prop:=a<=LN b/\∀(j:Nat),j<a->Qrr c j=GI b j
def Qrs(a:Nd):Int:=Nd.kd a
def Qrt(a:Nd):Int:=Nd.at_ a
def Qru(a:Nd):Int:=Nd.cl a
def Qrv(a:Nd):List UInt8:=Nd.tx a
def Qrw(a:Nd):Int:=Nd.pr a
def Qrx(a:Nd):Int:=Nd.op a
def Qbh(a:Nd):Arr:=Nd.va a
def Qry(a:Nd):Int:=Arr.k (Qbh a)
def Qrz(a:Nd):List Int:=Arr.sh (Qbh a)
def QhL(a:Nd):Nat:=LN (Qrz a)
def QrA(a:Nd)(b:Nat):List D:=[ZI (GI (Qrz a) b)]
def QrB(a:Nd):List Int:=Arr.nu (Qbh a)
def QhM(a:Nd):Nat:=LN (QrB a)
def QrC(a:Nd)(b:Nat):List D:=[ZI (GI (QrB a) b)]
def QrD(a:Nd):List Arr:=Arr.it (Qbh a)
def QhN(a:Nd):Nat:=LN (QrD a)
def QrE(a:Nd)(b:Nat):List D:=Arr.row (List.getD (QrD a) b ZD)
def Qbj:Sm:=Sm.mk Z0 Z0 [] Z0 VY VY
def QrI(a:Nd)(b:Nat):List D:=(Nd.rowE (Q5 a b))
def QhO(a:Nd):Nat:=LN (Nd.bo a)
def XT(a:Nd)(b:Nat):Sm:=List.getD (Nd.bo a) b Qbj
def QrP(a:Nd)(b:Nat):List D:=(Sm.row1 (XT a b))
def QrQ(a:Nd):Int:=Nd.de a
def QrR(a:Nd):Int:=Nd.sl a
def QrS(a:Nd):Int:=Nd.ss a
def QrT(a:Nat)(b:Nd):Prop:=(SM a/\(SM (Qrs b)/\SM (Qrt b)/\SM (Qru b)/\SM (Qrv b)/\SM (Qrw b)/\SM (Qrx b)/\SM (Qry b)/\(SM (QhL b)/\(∀(i:Nat),i<QhL b->SM (QrA b i))/\True)/\(SM (QhM b)/\(∀(i:Nat),i<QhM b->SM (QrC b i))/\True)/\(SM (QhN b)/\(∀(i:Nat),i<QhN b->SM (QrE b i))/\True)/\(SM (ZC b)/\(∀(i:Nat),i<ZC b->SM (QrI b i))/\True)/\(SM (QhO b)/\(∀(i:Nat),i<QhO b->SM (QrP b i))/\True)/\SM (QrQ b)/\SM (QrR b)/\SM (QrS b)/\True)/\True)/\True
def QOY(a:Nd):D:=D.agg (Nd.row2 a)
def QOZ(a:List Int):D:=SI a
theorem BpJ(n:Nd)(m:List Int)(hl:n.ki.length<=maxLen)(hm:m.length<=maxLen):CD 109 [.agg n.row2,isl m .any] (.bool (Bm n m)):=by
 refine Bg (A:=sC _ _) (x:=()) (E:=Ercl n m) (eOk BM rfl) Tryz.func109 rfl (by kernel_rfl) rfl (by simp[sC,Ercl,EC,E0]) ?_
 refine Bi (T :=
  ∀(x:Nat),True->SM x/\ifB ((NI (ZC n)) != (LI m)) (Qrq n m) ((∃(x_1:Nat),QhK x_1 m n/\(Z0=(↑x_1:Int)/\True)/\QrT x n)/\∀(x_1:Nat),QhK x_1 m n->ifB (decide ((↑x_1:Int)<(LI m))) (SM x/\Bc (Z0<=(↑x_1:Int)/\(↑x_1:Int)<(NI (ZC n))) (Bc (Z0<=(↑x_1:Int)/\(↑x_1:Int)<(LI m)) (ifB (Nd.cl (List.getD (QhJ n) (Int.toNat (↑x_1:Int)) VY) != GI m (Int.toNat (↑x_1:Int))) (Qrq n m) ((SM (QOY n)/\SM (QOZ m)/\SM (D.ref N0 x N0)/\True)/\∃(y:Nat),QhK y m n/\LN m-y<LN m-x_1/\(IntKind.wrap IntKind.i64 ((↑x_1:Int)+Z1)=(↑y:Int)/\True)/\QrT x n)))) (RT (true=Bm n m)))) (by kernel_rfl) ?_
 delta DA GI LI LN N0 N1 N4 NI SI SM Z0 Z1 ZI QhJ ZC Qrq ZD VY Q5 Qrr QhK Qrs Qrt Qru Qrv Qrw Qrx Qbh Qry Qrz QhL QrA QrB QhM QrC QrD QhN QrE Qbj QrI QhO XT QrP QrQ QrR QrS QrT QOY QOZ RT
 simp only[eq_self,ne_eq,implies_true,Bk,Int.toNat_natCast,Bf,Bd,decide_eq_true_eq,decide_eq_false_iff_not,true_and,and_true,beq_iff_eq,bne_iff_ne,bne_eq_false_iff_eq,beq_eq_false_iff_ne,Bool.not_eq_true',Bool.not_eq_false',exists_const,forall_const]
 simp only[<- dn]
 simp only[maxLen] at hl hm
 refine⟨fun h=>BbB fun ⟨e,_⟩=>h (by omega),fun he=>⟨⟨0,⟨Nat.zero_le _,fun j hj=>by omega⟩,rfl⟩,fun x ⟨x1,hx⟩=>⟨fun hlt=>⟨⟨by omega,by omega⟩,⟨by omega,by omega⟩,fun h=>BbB fun ⟨_,e⟩=>h (e x (by omega)),fun h=>⟨x+1,⟨by omega,fun j hj=>by
   by_cases e:j=x
   ·rw[e];exact h
   ·exact hx j (by omega)⟩,by omega,Ba (by omega) (by omega)⟩⟩,fun hge=>(UO.2 ⟨by omega,fun j hj=>hx j (by omega)⟩).symm⟩⟩⟩
def BeE(n:Nd):Con:=fun k ds S=>match k with
 |119=>match ds with
  | [_,.sl 1 m f _,_]=>some (pA ds S (.bool (n.ki.map Nd.cl==Bj m f)) (wkL ds [gsl 15 Nd.row1 n.ki,isl (Bj m f) .any,.fn (.func 120) [] []]/\m<=maxLen))
  |_=>none
 |_=>none
theorem Bhs{n:Nd}(h:n.ki.length<=maxLen):ConOk Tryz.prog (BeE n):=by
 intro k ds S A hh
 unfold BeE at hh
 split at hh
 ·split at hh
  ·injection hh with hh;subst hh
   exact Bo fun ⟨e,hm⟩=>CD.at_ (CD.wk (Bo2 _ _ h (by rw[BL];exact hm)) e) _
  ·cases hh
 ·cases hh
noncomputable def Ecls(n:Nd):Senv:=EC (BeE n) 9 3 [4] (fun _=>([],[]))
def QhP(a:Nd):List Nd:=Nd.ki a
def QrU(a:Nd):D:=D.sl 15 (LN (QhP a)) (fun i=>Nd.row1 (List.getD (QhP a) i (Nd.mk Z0 Z0 Z0 [] Z0 Z0 DA [] [] Z0 Z0 Z0))) Mode.any
def QrV:List D:=[D.fn (Fn.func (120:Nat)) [] []]
def QrW(a:List Int):List Int:=Bj (LN a) fun i=>[ZI (GI a i)]
theorem BnL(n:Nd)(m:List Int)(hl:n.ki.length<=maxLen)(hm:m.length<=maxLen):CD 96 [.agg n.row2,isl m .any] (.bool (Bm n m)):=by
 refine Bg (A:=sC _ _) (x:=()) (E:=Ecls n) (eOk (Bhs hl) rfl) Tryz.func96 rfl (by kernel_rfl) rfl (by simp[sC,Ecls,EC,E0]) ?_
 refine Bi (T :=
  ∀(x:Nat),True->SM x/\∃(x:Unit),(wkL (QrU n::SI m::QrV) (QrU n::SI (QrW m)::QrV)/\LN m<=9223372036854775807)/\∀(y:Unit),True->RT ((List.map Nd.cl (QhP n)==QrW m)=Bm n m)) (by kernel_rfl) ?_
 delta DA GI LN N1 SI SM Z0 ZI QhP QrU QrV QrW RT
 simp only[true_and,and_true,exists_const,forall_const,B0]
 exact⟨⟨Be _,hm⟩,rfl⟩
end
end Go.Proofs.YtnlplccjbojloaaGreatDoor
