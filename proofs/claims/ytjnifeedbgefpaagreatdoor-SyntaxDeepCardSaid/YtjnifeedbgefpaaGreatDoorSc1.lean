/- The syntax laws, walked through the code. -/
import Derived.Test.YtjnifeedbgefpaaGreatDoorS4
import Derived.Test.YtjnifeedbgefpaaGreatDoorProg
import Derived.Lib.LaidTab
import Derived.Lib.ItoaNum
import Derived.Lib.TrailingZeros
import Derived.Calls
import Derived.Below
import Derived.Laws.Entries
import Derived.Laws.Build
import Derived.Laws.Concat
import Derived.Laws.AppendOwn
import Derived.Laws.IdiomStrings
import Derived.Laws.BytesString
import Derived.Laws.NewFold
import Derived.Laws.MakeOwn
import Derived.Laws.IdiomCopy
import Derived.Laws.Shifts
import Derived.Laws.Strings
import Derived.Laws.Strings2
import Derived.Laws.Strings3
import Derived.Laws.RangeString
import Derived.Laws.Cover4
import Derived.Lib.DecodeN
import Derived.MapKept
import Derived.Laws.StructEq
import Derived.Orders
import Derived.Scope
import Derived.ProofKit
import Derived.WalkKit
import Derived.OpenShut
import Derived.Recover
import Derived.KernelRfl
import Derived.Shelf.Strings.Builder1
import Derived.Shelf.Strings.Builder2
import Derived.Shelf.Strings.OnBuilder
import Derived.Shelf.Strings.BuilderF
import Derived.Shelf.Strconv.Itoa0
import Derived.Shelf.Strconv.Itoa1
import Derived.Shelf.LaysM
import Derived.Shelf.Strconv.Itoa2
import Derived.Shelf.Strconv.Itoa3
import Derived.Shelf.Strconv.Itoa4
import Derived.Shelf.Bits.Mul64
import Derived.Lib.AppendIntMem
import Derived.Lib.ItoaLen
import Derived.Test.YtjnifeedbgefpaaGreatDoorRows
import Derived.Lib.Join
import Derived.Lib.Builder
import Derived.Lib.UnsafeStr
import Derived.Test.YtjnifeedbgefpaaGreatDoorCards
import Derived.Test.YtjnifeedbgefpaaGreatDoorTie
import Derived.Deep.DeepHandedRow
import Derived.Stop.LaidErr
namespace Go.Proofs.YtjnifeedbgefpaaGreatDoor
open Go Go.Ab
set_option maxRecDepth 100000
noncomputable section
theorem any_congr{α:Type}{p q:α→Bool}:∀ {l:List α},(∀x∈l,p x=q x)→l.any p=l.any q
 | [],_=>rfl
 |x::l,h=>by
  simp only[List.any_cons]
  rw[h x (by simp),any_congr fun y hy=>h y (by simp[hy])]
theorem utf8_ne'(c:Int):utf8 c≠[]:=by
 have : ∀c : Nat, ((if c<0x80 then ⟨#[UInt8.ofNat c]⟩
   else if c<0x800 then ⟨#[UInt8.ofNat (0xC0+c / 64),UInt8.ofNat (0x80+c % 64)]⟩
   else if c<0x10000 then ⟨#[UInt8.ofNat (0xE0+c / 4096),UInt8.ofNat (0x80+c / 64 % 64),UInt8.ofNat (0x80+c % 64)]⟩
   else ⟨#[UInt8.ofNat (0xF0+c / 262144),UInt8.ofNat (0x80+c / 4096 % 64),UInt8.ofNat (0x80+c / 64 % 64),UInt8.ofNat (0x80+c % 64)]⟩:ByteArray).data.toList)≠[]:=fun c=>by
  (repeat' split)<;>simp
 exact this _
theorem quoB_ne(q:Int)(l:List Int):quoB q l≠[]:=by
 unfold quoB
 intro h
 rw[List.append_eq_nil_iff,List.append_eq_nil_iff] at h
 exact utf8_ne' _ h.1.1
theorem showI_ne'(z:Int):showI z≠[]:=by
 unfold showI
 split
 ·simp
 ·rw[Lib.decDigits]
  split<;>simp
theorem withT_ne{ks:List Int}{k:Int}{x:List UInt8}(h:x≠[]):withT ks k x≠[]:=by
 unfold withT wrapT
 split
 ·simp
 ·exact h
theorem nd_mem{l:List Nd}{i:Nat}(h:i<l.length):l.getD i default∈l:=by
 rw[List.getD_eq_getElem?_getD,List.getElem?_eq_getElem h];simp
theorem app_ne{a b:List UInt8}(h:a≠[]):a++b≠[]:=fun e=>h (List.append_eq_nil_iff.1 e).1
theorem join_ne{x:List UInt8}{l:List (List UInt8)}{sep:List UInt8}(h:x≠[]):Lib.join (x::l) sep≠[]:=by
 rw[join_cons]
 exact app_ne h
theorem litF_ne{a:Arr}(h1:(chkA a).1=0)(h2:(a.sh.isEmpty&&a.k != 3||a.sh.length==1&&a.k==2)=true):litF a≠[]:=by
 unfold litF
 rw[if_pos h1,litA_eq]
 unfold litK
 rw[Bool.or_eq_true,Bool.and_eq_true,Bool.and_eq_true,List.isEmpty_iff,beq_iff_eq,beq_iff_eq] at h2
 rcases h2 with ⟨h2,_⟩ | ⟨h2,h3⟩
 ·rw[if_pos (by rw[h2];rfl)]
  unfold scalK
  split
  ·exact showI_ne' _
  split
  ·exact quoB_ne _ _
  ·exact app_ne (by decide)
 ·rw[if_neg (by omega),if_pos ⟨h2,.inl h3⟩]
  unfold vecK
  rw[if_pos h3]
  exact quoB_ne _ _
theorem show_ne(n:Nd)(h:nodeV n=true):showN n≠[]:=by
 by_cases h10:n.kd=10
 ·cases n with
  |mk kd at_ cl tx pr op va ki bo de sl ss =>
   have h10:kd=10:=h10
   subst h10
   simp only[showN]
   simp
 ·have hc:=kind_cases h h10
  have ih:∀i,i<n.ki.length→(compB n=true→showN (n.ki.getD i default)≠[]):=fun i hi hcb=>by
   have hm:n.ki.getD i default∈n.ki:=nd_mem hi
   have hs:=Nd.size_kid hm
   rcases hc with hc | ⟨_,hc⟩
   ·unfold leafB at hc
    rw[Bool.and_eq_true,List.isEmpty_iff] at hc
    rw[hc.1] at hi
    exact absurd hi (Nat.not_lt_zero _)
   ·exact show_ne _ (hc _ hm)
  cases n with
  |mk kd at_ cl tx pr op va ki bo de sl ss =>
   have ih:∀i,i<ki.length→(compB (.mk kd at_ cl tx pr op va ki bo de sl ss)=true→(showL ki).getD i []≠[]):=fun i hi hcb=>by
    rw[showL_getD hi];exact ih i hi hcb
   have h10:kd≠10:=h10
   have hc:leafB (.mk kd at_ cl tx pr op va ki bo de sl ss)=true∨compB (.mk kd at_ cl tx pr op va ki bo de sl ss)=true:=by
    rcases hc with h | h
    ·exact .inl h
    ·exact .inr h.1
   have cl':∀ {l:List Int},classesB (.mk kd at_ cl tx pr op va ki bo de sl ss) l=true→ki.length=l.length:=fun h=>classes_len h
   simp only[showN]
   unfold leafB compB at hc
   simp only[Nd.kd,Nd.cl,Nd.tx,Nd.pr,Nd.op,Nd.va,Nd.ki] at hc
   unfold compB at ih
   simp only[Nd.kd,Nd.cl,Nd.ki] at ih
   by_cases e1:kd=1
   ·subst e1
    simp only[if_true] at hc ⊢
    rcases hc with hc | hc
    ·simp only[Bool.and_eq_true,beq_iff_eq] at hc
     exact litF_ne hc.2.1.2 hc.2.2
    ·simp at hc
   by_cases e2:kd=2
   ·subst e2
    simp at hc ⊢
    have:=hc.2.2
    intro e
    rw[e] at this
    exact absurd this (by decide)
   by_cases e6:kd=6
   ·subst e6;simp
   by_cases e7:kd=7
   ·subst e7;simp
   by_cases e8:kd=8
   ·subst e8;simp
   by_cases e11:kd=11
   ·subst e11;simp
   by_cases e12:kd=12
   ·subst e12;simp
   by_cases e13:kd=13
   ·subst e13;simp
   by_cases e9:kd=9
   ·subst e9
    simp at hc ⊢
    exact hc.2.2
   by_cases e17:kd=17
   ·subst e17
    simp at hc ⊢
    exact hc.2.2
   have words:∀ks:List Int,0<ki.length→(showL ki).getD 0 []≠[]→Lib.join (zipT ks ki (showL ki)) [32]≠[]:=fun ks hl hx=>by
    cases ki with
    |nil=>exact absurd hl (Nat.not_lt_zero _)
    |cons a r =>
     have e:zipT ks (a::r) (showL (a::r))=withT ks a.kd (showN a)::zipT ks r (showL r):=by simp only[showL,zipT]
     rw[e]
     refine join_ne (withT_ne ?_)
     simpa[showL] using hx
   by_cases e3:kd=3
   ·subst e3
    simp at hc ih ⊢
    have h2:=of_decide_eq_true hc.1.1.2
    have hl:0<ki.length:=by omega
    refine words _ hl ?_
    simpa using ih 0 hl hc.1.1.1 hc.1.1.2 hc.1.2 hc.2
   by_cases e4:kd=4
   ·subst e4;simp
   by_cases e5:kd=5
   ·subst e5;simp
   by_cases e16:kd=16
   ·subst e16
    simp at hc ih ⊢
    have hl:0<ki.length:=by
     rcases hc.2 with (h | h) | h<;>(have:=cl' h;simp at this;omega)
    refine words _ hl ?_
    simpa using ih 0 hl hc.1 hc.2
   by_cases e14:kd=14
   ·subst e14;simp
   by_cases e15:kd=15
   ·subst e15;simp
   simp[e1,e2,e3,e4,e5,e6,e7,e8,e9,e11,e12,e13,e14,e15,e16,e17] at hc
termination_by SizeOf.sizeOf n
theorem out_one(n:Nd):outB [.mk 1 0 [] 0 nd0 n]=([6,7,11,12,13].any fun k=>occN k n):=by
 unfold outB occB
 refine any_congr fun k _=>?_
 have e:partsS (.mk 1 0 [] 0 nd0 n)=[n]:=rfl
 simp only[List.any_cons,List.any_nil,Bool.or_false,e]
theorem right_zero'{n:Nd}:rightN n=0↔checkN n=0∧∀k∈[(6:Int),7,11,12,13],occN k n=false:=by
 unfold rightN
 by_cases h1:checkN n≠0
 ·rw[if_pos h1];exact⟨fun h=>(h1 h).elim,fun h=>(h1 h.1).elim⟩
 rw[if_neg h1,out_one]
 have h1:checkN n=0:=by simpa using h1
 by_cases h2:([6,7,11,12,13].any fun k=>occN k n)=true
 ·rw[if_pos h2]
  refine⟨fun h=>by omega,fun h=>?_⟩
  obtain ⟨k,hk,ho⟩:=List.any_eq_true.1 h2
  rw[h.2 k hk] at ho
  cases ho
 ·rw[if_neg h2]
  refine⟨fun _=>⟨h1,fun k hk=>?_⟩,fun _=>rfl⟩
  cases ho:occN k n with
  |false=>rfl
  |true=>exact (h2 (List.any_eq_true.2 ⟨k,hk,ho⟩)).elim
def subN:Nd:=.mk 9 0 2 [] 2 0 (.mk 0 [] [] []) [] [] 0 0 0
def chainN:Nat→Nd
 |0=>oneN
 |n+1=>.mk 4 0 1 [] 0 0 (.mk 0 [] [] []) [subN,chainN n] [] 0 0 0
theorem chain_facts:∀n,dpN (chainN n)=n+1∧szN (chainN n)=2*n+1∧nodeV (chainN n)=true∧(chainN n).cl=1∧∀k∈[(6:Int),7,11,12,13],occN k (chainN n)=false
 |0=>⟨by decide +kernel,by decide +kernel,by decide +kernel,rfl,by decide +kernel⟩
 |n+1=>by
  obtain ⟨h1,h2,h3,h4,h5⟩:=chain_facts n
  have s1:dpN subN=1:=by decide +kernel
  have s2:szN subN=1:=by decide +kernel
  have s3:nodeV subN=true:=by decide +kernel
  have s5:∀k∈[(6:Int),7,11,12,13],occN k subN=false:=by decide +kernel
  refine⟨?_,?_,?_,rfl,fun k hk=>?_⟩
  ·rw[chainN,dpN_inner]
   simp only[innerN,Nd.ki,Nd.bo,List.flatMap_nil,List.append_nil,dpL,h1,s1]
   omega
  ·rw[chainN,szN_inner]
   simp only[innerN,Nd.ki,Nd.bo,List.flatMap_nil,List.append_nil,szL,h2,s2]
   omega
  ·rw[nodeV_eq]
   have e1:onlyB (chainN (n+1)) (chainN (n+1)).kd=true:=rfl
   have e2:(chainN (n+1)).kd=4:=rfl
   have e3:(chainN (n+1)).ki=[subN,chainN n]:=rfl
   have e4:compB (chainN (n+1))=true:=by
    unfold compB classesB
    rw[e2,e3]
    have e5:(chainN (n+1)).cl=1:=rfl
    have e6:subN.cl=2:=rfl
    rw[e5]
    simp only[List.map_cons,List.map_nil,h4,e6]
    rfl
   rw[e1,if_neg (by rw[e2];decide),e4,e3]
   simp only[List.all_cons,List.all_nil,s3,h3]
   simp
  ·rw[occN_eq]
   have e2:(chainN (n+1)).kd=4:=rfl
   have e3:(chainN (n+1)).ki=[subN,chainN n]:=rfl
   rw[e2,e3]
   simp only[List.any_cons,List.any_nil,s5 k hk,h5 k hk]
   have:((4:Int)==k)=false:=by
    simp only[List.mem_cons,List.not_mem_nil,or_false] at hk
    rcases hk with rfl | rfl | rfl | rfl | rfl<;>decide
   rw[this]
   simp
theorem chain_right(n:Nat):rightN (chainN n)=if n<60 then 0 else 8:=by
 obtain ⟨h1,h2,h3,_,h5⟩:=chain_facts n
 by_cases hn:n<60
 ·rw[if_pos hn]
  exact right_zero'.2 ⟨check_zero.2 ⟨by omega,by omega,h3⟩,h5⟩
 ·rw[if_neg hn]
  have hc:checkN (chainN n)=8:=by unfold checkN;rw[if_pos (by omega)]
  unfold rightN
  rw[hc,if_pos (by decide)]
theorem chain_show(n:Nat):(n<60→showNd (chainN n)≠[])∧(¬n<60→showNd (chainN n)=[]):=by
 obtain ⟨h1,h2,h3,_,_⟩:=chain_facts n
 refine⟨fun hn=>?_,fun hn=>?_⟩
 ·unfold showNd
  rw[if_pos (check_zero.2 ⟨by omega,by omega,h3⟩)]
  exact show_ne _ h3
 ·have hc:checkN (chainN n)=8:=by unfold checkN;rw[if_pos (by omega)]
  unfold showNd
  rw[hc,if_neg (by decide)]
theorem good_prim(p:Int)(h:inI64 p):good (primN p):=by
 unfold good primN
 refine⟨?_,?_⟩
 ·simp[Nd.ok,Arr.ok,okL,ndsOk,smsOk,inI64,maxLen] at h ⊢; exact h
 ·simp[Nd.sm,Arr.sm,smL,ndsSm,smsSm]
theorem good_chain:∀y:Nat,good (chainN y)
 |0=>by
  unfold good chainN oneN
  refine⟨?_,?_⟩
  ·simp[Nd.ok,Arr.ok,okL,ndsOk,smsOk,inI64,maxLen]
  ·simp[Nd.sm,Arr.sm,smL,ndsSm,smsSm,maxB]
 |y+1=>by
  have h:=good_chain y
  have h2:=good_prim 2 (by simp[inI64])
  have e:primN 2=subN:=rfl
  rw[e] at h2
  unfold good at h h2 ⊢
  rw[chainN]
  refine⟨?_,?_⟩
  ·simp only[Nd.ok,ndsOk,smsOk]
   refine⟨?_,?_⟩<;>simp[Arr.ok,okL,inI64,maxLen,h.1,h2.1]
  ·simp only[Nd.sm,ndsSm,smsSm]
   simp[Arr.sm,smL,h.2,h2.2,maxB]
noncomputable def conDp:Con:=fun k ds S=>match k with
 |20=>some (pE (β:=Nat) ds S (fun b=>.str (showNd (chainN b))) (fun b=>isR (chainN b) ds []))
 |9=>some (pE (β:=Nat) ds S (fun b=>.int .i64 (if b<60 then 0 else 8)) (fun b=>isR (chainN b) ds []))
 |14=>some (pA ds S (.bool true) (ds=[]))
 |_=>none
theorem conDp_ok:ConOk Tryz.prog conDp:=by
 intro k ds S A hh
 unfold conDp at hh
 split at hh
 ·injection hh with hh;subst hh
  exact pS_ok fun b e=>CD.at_ (CD.isR (sw_ok' _ (good_chain b).1 (good_chain b).2) e) _
 ·injection hh with hh;subst hh
  refine pS_ok fun b e=>CD.at_ ?_ _
  have h:=CD.isR (rn_ok' _ (good_chain b).1 (good_chain b).2) e
  rw[chain_right] at h
  exact h
 ·injection hh with hh;subst hh
  exact pA_ok fun e=>by rw[e];exact CD.at_ kw_ok _
 ·cases hh
noncomputable def Edp(deep:Int):Senv:={ EC conDp 40 1 [2,3,4,9,17] (fun id=>match id with | 5=>([1,0,2,3,4],[0,2,4]) | _=>([],[])) with
 mg:=fun _=>2
 ann2:=fun b _ S=>match b with
  |0=>some ({ slots:=[4],keep:=[0,3],α:=Unit,st:=fun _=>([.int .i64 1],S),inv:=fun _=>True,mu:=fun _=>deep.toNat+1 },
   { slots:=[4],keep:=[0,3],α:=Nat,st:=fun y=>([.int .i64 ((y:Int)+2)],⟨setO S.objs 1 (.cells (chainN (y+1)).lit),[]⟩),inv:=fun y=>(y:Int)+2≤deep,mu:=fun y=>deep.toNat-(y+2) })
  |_=>none }
theorem dropTo{x x1 x3:Nat}{p p' q r:List D}(e:p=p'):StTo ⟨[(2,x3,.cells r),(1,x1,.cells p),(0,x,.cells q)],[]⟩ ⟨[(1,x1,.cells p'),(0,x,.cells q)],[]⟩:=by
 subst e
 exact leS_to (by simp[leS,chk,nodupB,leO,leT,getO,weakO,weakL_refl])
def Je:D:=ZI Z0
def V8:D:=D.sl N1 N0 (fun (_x:Nat)=>[]) Mode.nil
def Qnd:List D:=[V8,Je,Je,Je]
def QEh:List D:=V8::V8::Qnd
def Qrw:List D:=ZI Z1::Je::ZI Z1::D.str []::Je::Je::ZI Z1::V8::D.sl N1 N1 (fun (i:Nat)=>List.getD [[ZI Z1]] i []) Mode.full::QEh
def QEi(a:Nat):Nat×AObj:=(a,AObj.cells Qrw)
def Qne(a:Nat):List (Nat×Nat×AObj):=[(N0,QEi a)]
def Qi4(a b:Nat):St:=St.mk ((N1,QEi a)::Qne b) []
def Qrx(a b c:Nat):St:=St.mk ((N1,a,AObj.cells (Nd.lit (chainN (b+N1))))::Qne c) []
def QEj:D:=D.agg Qrw
def QEk(a:Int)(b:Nat):Prop:=SM (ZB a)∧SM (D.ref N1 b N0)∧True
def Qnf(a b:Nat)(c:Int)(d:Unit):Nat:=LoopAnn.mu (LoopAnn.mk [N4] [N0,(3:Nat)] Unit (fun (_x:Unit)=>([ZI Z1],Qi4 a b)) (fun (_x:Unit)=>True) (fun (_x:Unit)=>Int.toNat c+N1) false fun (_x:Unit)=>St.mk [] []) d
def Qry:List D:=ZI (9:Int)::Je::ZI (2:Int)::D.str []::ZI (2:Int)::Je::Je::V8::V8::QEh
def QEl(a:Nat):Nat×AObj:=(a,AObj.cells Qry)
def QEm(a b c:Nat):St:=St.mk ((N2,QEl a)::(N1,b,AObj.cells (ZI (4:Int)::Je::ZI Z1::D.str []::Je::Je::Je::V8::V8::V8::D.sl (15:Nat) N2 (fun (i:Nat)=>List.getD [Qry,Qrw] i []) Mode.full::Qnd))::Qne c) []
def Qng(a:Nat):Nd:=chainN a
def Qnh(a:Nat):Prop:=isR (Qng a) [QEj] []
def QEn(a:Nat):List UInt8:=showNd (Qng a)
def QEo:Prop:=∃(_x:Unit),eqOf (List D) [] []∧∀(_y:Unit),True→True∧∃(_y:Unit),True∧SM true∧True∧True
def Qi5:Prop:=True∧∃(_y:Unit),True∧false=true∧True∧True
def QEp(a:Nat):Prop:=∀(_y:Unit),True→ifB (QEn a != []) QEo Qi5
def QEq(a:Nat):Prop:=∀(_y:Unit),True→ifB (QEn a==[]) QEo Qi5
def QEr(a:Nat):List (List D):=[Nd.lit (Qng a)]
def QEs(a:Nat):List D:=ZI (4:Int)::Je::ZI Z1::D.str []::Je::Je::Je::V8::V8::V8::D.sl (15:Nat) (LN (QEr a)+N1) (fun (i:Nat)=>List.getD (Nd.lit (Nd.mk (9:Int) Z0 (2:Int) [] (2:Int) Z0 DA [] [] Z0 Z0 Z0)::QEr a) i []) Mode.full::Qnd
def QEt(a:Nat):D:=D.agg (QEs a)
def QEu(a b c d:Nat):St:=St.mk ((max (N1+N1) N1,QEl a)::(N1,b,AObj.cells (ZI (4:Int)::Je::ZI Z1::D.str []::Je::Je::Je::V8::V8::V8::D.sl (15:Nat) N2 (fun (i:Nat)=>List.getD [Qry,QEs c] i []) Mode.full::Qnd))::Qne d) []
def Qni(a b:Nat):Prop:=isR (Qng a) [QEt b] []
theorem law_deep(d:Int)(h0:0≤d)(h1:d≤255):CD 8 [.int .u8 d] (.bool true):=by
 refine con_of (A:=sC _ _) (x:=()) (E:=Edp d) (eOk conDp_ok rfl) Tryz.func8 rfl (by kernel_rfl) rfl (by simp[sC,Edp,EC,E0]) ?_
 refine vc_eq (T :=
  ∀(x:Nat),True→SM x∧(SM x∧True)∧∀(x_1:Nat),x≠x_1∧True→SM x_1∧((∃(x_2:Unit),True∧True∧(SM Z1∧True)∧StTo (Qi4 x_1 x) (Qi4 x_1 x))∨∃(x_2:Nat),(↑x_2:Int)+(2:Int)≤d∧True∧(Z1=(↑x_2:Int)+(2:Int)∧True)∧StTo (Qi4 x_1 x) (Qrx x_1 x_2 x))∧(∀(x_2:Unit),True→ifB (decide (Z1<IntKind.wrap IntKind.i64 d)) (SM x_1∧∀(x_3:Nat),x_1≠x_3∧x≠x_3∧True→SM x_3∧(SM x_3∧True)∧(SM x_1∧SM QEj)∧SM x_1∧QEk d x_1∧((∃(x_4:Unit),True∧Qnf x_1 x d x_4<Qnf x_1 x d x_2∧((2:Int)=Z1∧True)∧StTo (QEm x_3 x_1 x) (Qi4 x_1 x))∨∃(x_4:Nat),(↑x_4:Int)+(2:Int)≤d∧Int.toNat d-(x_4+N2)<Qnf x_1 x d x_2∧((2:Int)=(↑x_4:Int)+(2:Int)∧True)∧StTo (QEm x_3 x_1 x) (Qrx x_1 x_4 x))) (ifB (decide (d≤(60:Int))) (SM x_1∧∃(x:Nat),Qnh x∧∀(y:Unit),True→ifB ((if x<(60:Nat) then Z0 else (8:Int))==Z0) (SM x_1∧∃(x:Nat),Qnh x∧QEp x) Qi5) (SM x_1∧∃(x:Nat),Qnh x∧∀(y:Unit),True→ifB ((if x<(60:Nat) then Z0 else (8:Int))==(8:Int)) (SM x_1∧∃(x:Nat),Qnh x∧QEq x) Qi5)))∧∀(x_2:Nat),(↑x_2:Int)+(2:Int)≤d→ifB (decide ((↑x_2:Int)+(2:Int)<IntKind.wrap IntKind.i64 d)) (SM x_1∧∀(x_3:Nat),x_1≠x_3∧x≠x_3∧True→SM x_3∧(SM x_3∧True)∧(SM x_1∧SM (QEt x_2))∧SM x_1∧QEk d x_1∧((∃(x_4:Unit),True∧Qnf x_1 x d x_4<Int.toNat d-(x_2+N2)∧(IntKind.wrap IntKind.i64 ((↑x_2:Int)+(2:Int)+Z1)=Z1∧True)∧StTo (QEu x_3 x_1 x_2 x) (Qi4 x_1 x))∨∃(x_4:Nat),(↑x_4:Int)+(2:Int)≤d∧Int.toNat d-(x_4+N2)<Int.toNat d-(x_2+N2)∧(IntKind.wrap IntKind.i64 ((↑x_2:Int)+(2:Int)+Z1)=(↑x_4:Int)+(2:Int)∧True)∧StTo (QEu x_3 x_1 x_2 x) (Qrx x_1 x_4 x))) (ifB (decide (d≤(60:Int))) (SM x_1∧∃(x:Nat),Qni x x_2∧∀(y:Unit),True→ifB ((if x<(60:Nat) then Z0 else (8:Int))==Z0) (SM x_1∧∃(x:Nat),Qni x x_2∧QEp x) Qi5) (SM x_1∧∃(x:Nat),Qni x x_2∧∀(y:Unit),True→ifB ((if x<(60:Nat) then Z0 else (8:Int))==(8:Int)) (SM x_1∧∃(x:Nat),Qni x x_2∧QEq x) Qi5))) (by kernel_rfl) ?_
 delta DA LN N0 N1 N2 N4 SM Z0 Z1 ZB ZI Je V8 QEk Qnf Qry QEl QEm Qng Qnh QEn QEo Qi5 Qnd QEp QEq QEr QEs QEt QEu Qni QEh Qrw QEi Qne Qi4 Qrx QEj
 simp only[eq_self,ne_eq,implies_true,ifB_iff,decide_eq_true_eq,decide_eq_false_iff_not,true_and,and_true,beq_iff_eq,bne_iff_ne,bne_eq_false_iff_eq,beq_eq_false_iff_ne,exists_const,forall_const]
 have wd:IntKind.i64.wrap d=d:=wrap_i64' (by omega) (by omega)
 rw[wd]
 refine fun x x1 hx=>⟨.inl (StTo.refl _),⟨fun hlt x3 _=>.inr ⟨0,by omega,by omega,rfl,dropTo (by kernel_rfl)⟩,fun hge=>⟨fun _=>⟨0,isR_lit _ _ (by kernel_rfl),fun _=>⟨0,isR_lit _ _ (by kernel_rfl),fun h=>absurd h ((chain_show 0).1 (by decide))⟩,fun h=>absurd rfl h⟩,fun h=>absurd h (by omega)⟩⟩,fun y hy=>⟨fun hlt x3 _=>.inr ⟨y+1,by omega,by omega,?_,dropTo (by kernel_rfl)⟩,fun hge=>⟨fun hd=>⟨y+1,isR_lit _ _ (by kernel_rfl),fun _=>⟨y+1,isR_lit _ _ (by kernel_rfl),fun h=>absurd h ((chain_show (y+1)).1 (by omega))⟩,fun h=>absurd (if_pos (by omega)) h⟩,fun hd=>⟨y+1,isR_lit _ _ (by kernel_rfl),fun _=>⟨y+1,isR_lit _ _ (by kernel_rfl),fun h=>absurd ((chain_show (y+1)).2 (by omega)) h⟩,fun h=>absurd (if_neg (by omega)) h⟩⟩⟩⟩
 rw[wrap_i64' (by omega) (by omega)]
 omega
theorem deep_row(d:Int)(h0:0≤d)(h1:d≤255):ACalls Tryz.prog 8 [.int .u8 d] ⟨[],[]⟩ (SpecR (sC [.int .u8 d] (.bool true)) ()) :=
 law_deep d h0 h1
open Go Go.Ab Go.RowKit
theorem u8_sz{P:Program}{H:Type}{enc:TypeId×Value→H}{t:TypeId}(ht:P.underlying t=some (.int .u8)){W:World}{args:Array Value}{ds gs:List (DataW H)}{before:List MemPlace}(hW:DataW.Whole enc P [t] [] false W args.toList ds gs before):(DataW.weightsEach P [t] (ds++gs)).all (·≤maxB)=true:=by
 obtain ⟨p,q,hA,_⟩:=hW
 generalize args.toList=vs at hA
 cases vs with
 |nil=>cases ds<;>exact hA.elim
 |cons v vs =>
  cases ds with
  |nil=>exact hA.elim
  |cons d ds =>
   obtain ⟨p1,q1,⟨n,h⟩,_⟩:=hA
   have e:d.weights P t=[]:=by
    cases n with
    |zero=>cases h
    |succ n =>
     simp only[DataW.trod,ht] at h
     split at h<;>try (simp_all;done)
     split at h
     ·simp only[Option.some.injEq,Prod.mk.injEq] at h
      obtain ⟨rfl,_⟩:=h
      rfl
     ·cases h
   simp[DataW.weightsEach,e]
noncomputable def wit3:Array Value:=#[.int .u8 0]
theorem laid_met3(os:Os):laidMet Tryz.prog laidL ((laidWorld os).forCall (fun _ _=>0) ⟨#[],wit3,[]⟩).memory :=
 laidMet_of_run' 8 (by kernel_rfl) (by kernel_rfl)
theorem reads3(os:Os){H:Type}(enc:TypeId×Value→H):∃x,DataW.whole enc Tryz.prog ((laidWorld os).forCall (fun _ _=>0) ⟨#[],wit3,[]⟩).memory [5] [] false (wit3).toList 8=some x :=
 Option.isSome_iff_exists.1 (by kernel_rfl)
theorem contract3{H : Type}{enc : TypeId×Value → H}
  (W:World) (base:Nat) (args:Array Value) (ds gs:List (DataW H)) (before:List MemPlace)
  (hval:∀(j:Nat) t v,Tryz.f8.params[j]? =some t→args[j]? =some v→Value.okWide Tryz.prog W .any base t v)
  (hW:DataW.Whole enc Tryz.prog Tryz.f8.params.toList Rows.syntaxDeepSpec.vars false W args.toList ds gs before)
  (hsz:(DataW.weightsEach Tryz.prog (Tryz.f8.params.toList++Rows.syntaxDeepSpec.plain.varTypes Tryz.prog) (ds++gs)).all (·≤maxB)=true) (hL:laidMetH Tryz.prog laidL W) :
  Calls Tryz.prog 8 args W fun e W'=>∃v,e=.returned v∧Rows.syntaxDeepSpec.post enc Tryz.prog Tryz.f8 false true false false W args v W':=by
 refine law_contract (rs:=[(5,RInt .u8)]) laid (by rw[Tryz.params8];kernel_rfl) rfl (fun ds hd=>?_) (rt:=4) rfl Tryz.underlying4 (by rw[Tryz.params8];rfl) ?_ W (g0_laid hL) base args ds gs before hval hW hsz ?_
 ·rw[Tryz.params8] at hd
  match ds,hd with
  | [_],_=>exact⟨rfl,rfl,rfl⟩
 ·intro r hr
  simp only[List.mem_cons,List.not_mem_nil,or_false] at hr
  subst hr
  exact read_int Tryz.underlying5
 ·intro Ds h
  obtain ⟨dx,_,rfl,hx,h⟩:=h.flat (by kernel_rfl)
  obtain rfl:=h.nil
  obtain ⟨x,ex,hlox,hhix⟩:=hx
  injection ex with ex _
  subst ex
  have hokx:0≤x∧x≤255:=by
   simp only[IntKind.min,IntKind.max,IntKind.signed,IntKind.bits] at hlox hhix
   simp at hlox hhix
   omega
  exact (deep_row x hokx.1 hokx.2).mono fun r S' ⟨_,_,hr,_⟩=>hr
theorem lifted3(os : Os)(started : os.Started)(H : Type)(enc : TypeId×Value → H)(F : Stop.Interp) :
  ReturnsInHanded {} Tryz.checked os 8 .any ((OpenSpec.ofChange Rows.syntaxDeepSpec).preRow enc Tryz.prog Tryz.f8 Rows.syntaxDeepRow.domain false Rows.syntaxDeepRow.laid) (((OpenSpec.ofChange Rows.syntaxDeepSpec).at F).post enc Tryz.prog Tryz.f8 false true false false):=by
 obtain ⟨x,hx⟩:=reads3 os enc
 refine returnsInHanded_of_row (C:=Tryz.checked) (s:=OpenSpec.ofChange Rows.syntaxDeepSpec) own started (by kernel_rfl) Tryz.func8
  (witness_row_at (enc:=enc) (C:=Tryz.checked) false (laidWorld os) wit3 rfl (by kernel_rfl) (by kernel_rfl) (by kernel_rfl)
   (OpenSpec.preRow_of_cond 8 hx rfl (fun k hk=>by cases hk) (by kernel_rfl) (laid_met3 os))) ?_
 intro W base args ds gs before hval hW _ _ hsz hL _ _
 refine contract3 W base args ds gs before hval hW ?_ hL
 have e:Tryz.f8.params.toList++Rows.syntaxDeepSpec.plain.varTypes Tryz.prog=[5]:=by rw[Tryz.params8];kernel_rfl
 rw[e]
 exact u8_sz Tryz.underlying5 hW
theorem said3:Rows.SyntaxDeepSaid :=
 OpenClaim.holds_of_cond 8 Tryz.f8 rfl rfl rfl rfl rfl rfl rfl ⟨rfl,rfl,rfl,rfl,rfl⟩ rfl rfl rfl rfl rfl (by kernel_rfl) Tryz.func8 (by kernel_rfl)
  (of_decide_eq_true (by kernel_rfl)) (by unfold Func.isWrapper;first | (rw[if_pos (by decide +kernel)];kernel_rfl) | (rw[if_neg (by decide +kernel)];exact⟨rfl,rfl⟩))
  (fun os started H enc _ F=>by rw[OpenClaim.pre_eq_preRow];exact lifted3 os started H enc F)
theorem plain3(f : FuncId)(fn : Func)(hf : Tryz.pinned.checked.prog.funcNamed "arraylang/arraylanglaw10.SyntaxDeep" = some f)(hfn : Tryz.pinned.checked.prog.funcs[f]? = some fn) :
  false=Tryz.pinned.checked.prog.looks []∧∀(j:Nat) t,fn.params[j]? =some t→Tryz.pinned.checked.prog.wantsStandIn t=false:=by
 obtain rfl : f = 8 := Option.some.inj ((show Tryz.prog.funcNamed "arraylang/arraylanglaw10.SyntaxDeep" = some 8 by kernel_rfl).symm.trans hf) |>.symm
 obtain rfl:fn=Tryz.f8:=(Option.some.inj (Tryz.func8.symm.trans hfn)).symm
 refine⟨by kernel_rfl,fun j t ht=>?_⟩
 rw[Tryz.params8] at ht
 have hm:t∈[5]:=by simpa using Array.mem_of_getElem? ht
 simp only[List.mem_cons,List.not_mem_nil,or_false] at hm
 subst hm
 exact (show Tryz.prog.wantsStandIn 5=false by kernel_rfl)
theorem provedSyntaxDeep:Rows.SyntaxDeepCardSaid :=
 Claim7.holds_tied_plain_at .later [] _ _ _ _ said3 (fun _ h=>by cases h) (by kernel_rfl) (fun _ h=>by cases h) syntaxDeep_row_tie rfl ⟨rfl,rfl⟩ (by kernel_rfl) rfl plain3 (by kernel_rfl)
end
end Go.Proofs.YtjnifeedbgefpaaGreatDoor
