/- Functions of the given program and what each of them computes: lemmas towards the statement, their conditions stated with each of them. -/
import Derived.Test.YtjnifeedbgefpaaGreatDoorS3
import Derived.Test.YtjnifeedbgefpaaGreatDoorProg
import Derived.Lib.LaidTab
import Derived.Lib.ItoaNum
import Derived.Lib.TrailingZeros
import Derived.Calls
import Derived.Below
import Derived.Laws.Entries
import Derived.Laws.Build
import Derived.Laws.Concat
import Derived.Laws.AppendOwn
import Derived.Laws.IdiomStrings
import Derived.Laws.BytesString
import Derived.Laws.NewFold
import Derived.Laws.MakeOwn
import Derived.Laws.IdiomCopy
import Derived.Laws.Shifts
import Derived.Laws.Strings
import Derived.Laws.Strings2
import Derived.Laws.Strings3
import Derived.Laws.RangeString
import Derived.Laws.Cover4
import Derived.Lib.DecodeN
import Derived.MapKept
import Derived.Laws.StructEq
import Derived.Orders
import Derived.Scope
import Derived.ProofKit
import Derived.WalkKit
import Derived.OpenShut
import Derived.Recover
import Derived.KernelRfl
import Derived.Shelf.Strings.Builder1
import Derived.Shelf.Strings.Builder2
import Derived.Shelf.Strings.OnBuilder
import Derived.Shelf.Strings.BuilderF
import Derived.Shelf.Strconv.Itoa0
import Derived.Shelf.Strconv.Itoa1
import Derived.Shelf.LaysM
import Derived.Shelf.Strconv.Itoa2
import Derived.Shelf.Strconv.Itoa3
import Derived.Shelf.Strconv.Itoa4
import Derived.Shelf.Bits.Mul64
import Derived.Lib.AppendIntMem
import Derived.Lib.ItoaLen
import Derived.Test.YtjnifeedbgefpaaGreatDoorRows
import Derived.Lib.Join
import Derived.Lib.Builder
import Derived.Lib.UnsafeStr
import Derived.Test.YtjnifeedbgefpaaGreatDoorCards
import Derived.Test.YtjnifeedbgefpaaGreatDoorTie
import Derived.Deep.DeepHandedRow
import Derived.Stop.LaidErr
namespace Go.Proofs.YtjnifeedbgefpaaGreatDoor
open Go Go.Ab
set_option maxRecDepth 100000
noncomputable section
theorem stmts_mem{g:Bool}:∀ {l:List Sm} {names:List (List UInt8)},stmtsV g names l=true→∀s∈l,∃names',stmtV g names' s=true
 | [],_,_,s,hs=>by simp at hs
 |x::r,names,h,s,hs=>by
  simp only[stmtsV,Bool.and_eq_true] at h
  rcases List.mem_cons.1 hs with rfl | hs
  ·exact⟨names,h.1⟩
  ·exact stmts_mem h.2 s hs
theorem stmt_name{g:Bool}{names:List (List UInt8)}{s:Sm}(h:stmtV g names s=true)(h2:s.kd=2):s.nm.length≤32:=by
 rw[stmtV_eq] at h
 simp only[Bool.and_eq_true] at h
 have h:=h.2
 rw[if_neg (by omega),if_pos h2] at h
 simp only[Bool.and_eq_true] at h
 exact (name_facts h.1.1.1.1).2.1
theorem withT_len(ks:List Int)(k:Int)(x:List UInt8):(withT ks k x).length≤x.length+4:=by
 unfold withT wrapT
 split
 ·simp only[List.length_append,List.length_cons,List.length_nil];omega
 ·omega
theorem sum_kids(ks:List Int):∀l:List Nd,(∀b∈l,(showN b).length+100≤200000000*szN b)→sumL (l.map (withN ks))+96*l.length≤200000000*szL l
 | [],_=>by simp[sumL,szL]
 |b::r,h=>by
  have h1:=h b (by simp)
  have h2:=sum_kids ks r fun x hx=>h x (by simp[hx])
  have h3:=withT_len ks b.kd (showN b)
  simp only[List.map_cons,sumL,szL,List.length_cons,withN]
  omega
theorem sum_stmts:∀l:List Sm,(∀s∈l,(showM s).length+60≤200000000*szM s)→sumL (l.map showM)+60*l.length≤200000000*szB l
 | [],_=>by simp[sumL,szB]
 |s::r,h=>by
  have h1:=h s (by simp)
  have h2:=sum_stmts r fun x hx=>h x (by simp[hx])
  simp only[List.map_cons,sumL,szB,List.length_cons]
  omega
theorem primT_len(p:Int):(primT p).length≤100:=by
 have h:∀n,n<56→(primL.getD n []).length≤100:=by decide +kernel
 unfold primT
 split
 ·simp
 ·exact h _ (by omega)
theorem opT_len(p:Int):(opT p).length≤100:=by
 have h:∀n,n<12→(opL.getD n []).length≤100:=by decide +kernel
 unfold opT
 split
 ·simp
 ·exact h _ (by omega)
theorem litF_len{a:Arr}(ho:a.ok):(litF a).length≤157286700:=by
 unfold litF
 split
 ·rename_i h;exact lit_le ho h
 ·simp
theorem szM_eq(s:Sm):szM s=if s.kd=3 then szN s.te+szN s.nd else szN s.nd:=by
 cases s
 simp only[szM]
 rfl
theorem szN_eq(n:Nd):szN n=1+szL n.ki+szB n.bo:=by
 cases n
 simp only[szN]
 rfl
theorem showN_eq(n : Nd) : showN n=if n.kd=1 then litF n.va else if n.kd=2 then n.tx else if n.kd=6 then [88] else if n.kd=7 then [89] else if n.kd=8 then [97, 114, 103] else if n.kd=11 then [115, 101, 108, 102]
  else if n.kd=12 then [70] else if n.kd=13 then [71] else if n.kd=9 then primT n.pr else if n.kd=17 then opT n.op
  else if n.kd=3 then Lib.join (n.ki.map (withN [3,4,5])) [32]
  else if n.kd=4 then withT [16] (kAt n.ki 0) ((showL n.ki).getD 0 [])++[32]++(showL n.ki).getD 1 []
  else if n.kd=5 then withT [4,5] (kAt n.ki 1) ((showL n.ki).getD 1 [])++[32]++withT [16] (kAt n.ki 0) ((showL n.ki).getD 0 [])++[32]++(showL n.ki).getD 2 []
  else if n.kd=16 then Lib.join (n.ki.map (withN [4,5,16])) [32]
  else if n.kd=14 then withT [16] (kAt n.ki 1) ((showL n.ki).getD 1 [])++[32]++(showL n.ki).getD 0 []
  else if n.kd=15 then withT [16] (kAt n.ki 1) ((showL n.ki).getD 1 [])++[32]++(showL n.ki).getD 0 []++[32]++withT [3,4,5,16,14,15] (kAt n.ki 2) ((showL n.ki).getD 2 [])
  else [123,32]++Lib.join (n.bo.map showM) [32,59,32]++[32,125]:=by
 cases n
 simp only[showN,zipT_map,showS_map]
 rfl
theorem comp_len{n:Nd}(h:nodeV n=true):((n.kd=4∨n.kd=14)→n.ki.length=2)∧((n.kd=5∨n.kd=15)→n.ki.length=3)∧(n.kd=2→n.tx.length≤32):=by
 refine⟨fun hk=>?_,fun hk=>?_,fun hk=>?_⟩
 ·rcases kind_cases h (by omega) with hc | ⟨hc,_⟩
  ·unfold leafB at hc
   rcases hk with hk | hk<;>simp[hk] at hc
  ·unfold compB at hc
   rcases hk with hk | hk<;>simp[hk] at hc<;>exact classes_len hc.2
 ·rcases kind_cases h (by omega) with hc | ⟨hc,_⟩
  ·unfold leafB at hc
   rcases hk with hk | hk<;>simp[hk] at hc
  ·unfold compB at hc
   rcases hk with hk | hk<;>simp[hk] at hc<;>exact classes_len hc.2
 ·rcases kind_cases h (by omega) with hc | ⟨hc,_⟩
  ·unfold leafB at hc
   simp[hk] at hc
   exact (name_facts hc.2.2).2.1
  ·unfold compB at hc
   simp[hk] at hc
theorem getD_len(l:List Nd)(i:Nat)(h:∀b∈l,(showN b).length+100≤200000000*szN b)(hi:i<l.length):((showL l).getD i []).length+100≤200000000*szN (l.getD i default):=by
 rw[showL_getD hi]
 exact h _ (nd_getD hi)
theorem szL_two{l:List Nd}(h:l.length=2):szL l=szN (l.getD 0 default)+szN (l.getD 1 default):=by
 match l,h with
 | [a,b],_=>simp[szL]
theorem szL_three{l:List Nd}(h:l.length=3):szL l=szN (l.getD 0 default)+szN (l.getD 1 default)+szN (l.getD 2 default):=by
 match l,h with
 | [a,b,c],_=>simp[szL];omega
theorem show_len(n:Nd)(h:nodeV n=true)(ho:n.ok):(showN n).length+100≤200000000*szN n:=by
 have ih:∀b∈n.ki,(showN b).length+100≤200000000*szN b:=fun b hb=>show_len b ((valid_kids h).1 b hb) (ki_ok ho b hb)
 have ihs:n.kd=10→∀s∈n.bo,(showM s).length+60≤200000000*szM s:=fun hk s hs=>by
  have h1:=h
  rw[nodeV_eq,Bool.and_eq_true,if_pos hk,Bool.and_eq_true] at h1
  have hb:=h1.2.2
  unfold bodyV at hb
  rw[Bool.and_eq_true] at hb
  obtain ⟨q1,q2⟩:=stmts_all hb.2 s hs
  obtain ⟨nm,q3⟩:=stmts_mem hb.2 s hs
  have o:=sm_ok2 (bo_ok' ho s hs)
  have r1:=show_len s.nd q1 o.2
  rw[showM_eq,szM_eq]
  by_cases k2:s.kd=2
  ·have:=stmt_name q3 k2
   rw[if_pos k2,if_neg (by omega)]
   simp only[List.length_append,List.length_cons,List.length_nil]
   omega
  ·rw[if_neg k2]
   by_cases k3:s.kd=3
   ·rw[if_pos k3,if_pos k3]
    have hv:nodeV s.te=true:=by
     rcases q2 with ⟨_,q,_⟩ | ⟨q,_⟩
     ·exact q
     ·exact (q k3).elim
    have r2:=show_len s.te hv o.1
    simp only[List.length_append,List.length_cons,List.length_nil]
    omega
   ·rw[if_neg k3,if_neg k3]
    omega
 obtain ⟨h2,h3,htx⟩:=comp_len h
 rw[showN_eq,szN_eq]
 have g0:=fun hi=>getD_len n.ki 0 ih hi
 have g1:=fun hi=>getD_len n.ki 1 ih hi
 have g2:=fun hi=>getD_len n.ki 2 ih hi
 by_cases e1:n.kd=1
 ·rw[if_pos e1];have:=litF_len (va_ok ho);omega
 rw[if_neg e1]
 by_cases e2:n.kd=2
 ·rw[if_pos e2];have:=htx e2;omega
 rw[if_neg e2]
 by_cases e6:n.kd=6
 ·rw[if_pos e6];simp only[List.length_cons,List.length_nil];omega
 rw[if_neg e6]
 by_cases e7:n.kd=7
 ·rw[if_pos e7];simp only[List.length_cons,List.length_nil];omega
 rw[if_neg e7]
 by_cases e8:n.kd=8
 ·rw[if_pos e8];simp only[List.length_cons,List.length_nil];omega
 rw[if_neg e8]
 by_cases e11:n.kd=11
 ·rw[if_pos e11];simp only[List.length_cons,List.length_nil];omega
 rw[if_neg e11]
 by_cases e12:n.kd=12
 ·rw[if_pos e12];simp only[List.length_cons,List.length_nil];omega
 rw[if_neg e12]
 by_cases e13:n.kd=13
 ·rw[if_pos e13];simp only[List.length_cons,List.length_nil];omega
 rw[if_neg e13]
 by_cases e9:n.kd=9
 ·rw[if_pos e9];have:=primT_len n.pr;omega
 rw[if_neg e9]
 by_cases e17:n.kd=17
 ·rw[if_pos e17];have:=opT_len n.op;omega
 rw[if_neg e17]
 by_cases e3:n.kd=3
 ·rw[if_pos e3]
  have q1:=join_sum [32] (n.ki.map (withN [3,4,5]))
  have q2:=sum_kids [3,4,5] n.ki ih
  simp only[List.length_map,List.length_cons,List.length_nil] at q1
  omega
 rw[if_neg e3]
 by_cases e4:n.kd=4
 ·rw[if_pos e4]
  have hl:=h2 (.inl e4)
  have:=szL_two hl
  have:=g0 (by omega)
  have:=g1 (by omega)
  have:=withT_len [16] (kAt n.ki 0) ((showL n.ki).getD 0 [])
  simp only[List.length_append,List.length_cons,List.length_nil]
  omega
 rw[if_neg e4]
 by_cases e5:n.kd=5
 ·rw[if_pos e5]
  have hl:=h3 (.inl e5)
  have:=szL_three hl
  have:=g0 (by omega)
  have:=g1 (by omega)
  have:=g2 (by omega)
  have:=withT_len [16] (kAt n.ki 0) ((showL n.ki).getD 0 [])
  have:=withT_len [4,5] (kAt n.ki 1) ((showL n.ki).getD 1 [])
  simp only[List.length_append,List.length_cons,List.length_nil]
  omega
 rw[if_neg e5]
 by_cases e16:n.kd=16
 ·rw[if_pos e16]
  have q1:=join_sum [32] (n.ki.map (withN [4,5,16]))
  have q2:=sum_kids [4,5,16] n.ki ih
  simp only[List.length_map,List.length_cons,List.length_nil] at q1
  omega
 rw[if_neg e16]
 by_cases e14:n.kd=14
 ·rw[if_pos e14]
  have hl:=h2 (.inr e14)
  have:=szL_two hl
  have:=g0 (by omega)
  have:=g1 (by omega)
  have:=withT_len [16] (kAt n.ki 1) ((showL n.ki).getD 1 [])
  simp only[List.length_append,List.length_cons,List.length_nil]
  omega
 rw[if_neg e14]
 by_cases e15:n.kd=15
 ·rw[if_pos e15]
  have hl:=h3 (.inr e15)
  have:=szL_three hl
  have:=g0 (by omega)
  have:=g1 (by omega)
  have:=g2 (by omega)
  have:=withT_len [16] (kAt n.ki 1) ((showL n.ki).getD 1 [])
  have:=withT_len [3,4,5,16,14,15] (kAt n.ki 2) ((showL n.ki).getD 2 [])
  simp only[List.length_append,List.length_cons,List.length_nil]
  omega
 rw[if_neg e15]
 have hk:n.kd=10:=by
  have h:=h
  rw[nodeV_eq,Bool.and_eq_true] at h
  by_cases hk:n.kd=10
  ·exact hk
  ·rcases kind_cases (n:=n) (by rw[nodeV_eq,Bool.and_eq_true];exact h) hk with hc | ⟨hc,_⟩
   ·unfold leafB at hc
    simp[e1,e2,e6,e7,e8,e9,e11,e12,e13,e17] at hc
   ·unfold compB at hc
    simp[e3,e4,e5,e14,e15,e16] at hc
 have q1:=join_sum [32,59,32] (n.bo.map showM)
 have q2:=sum_stmts n.bo (ihs hk)
 simp only[List.length_map,List.length_cons,List.length_nil] at q1
 simp only[List.length_append,List.length_cons,List.length_nil]
 omega
termination_by SizeOf.sizeOf n
decreasing_by
 ·exact Nd.size_kid hb
 ·have:=Nd.size_stmt hs
  have:=Sm.size_nd s
  omega
 ·have:=Nd.size_stmt hs
  have:=Sm.size_te s
  omega
noncomputable def Eidk(l:List Int)(v:Int):Senv:={ EC con0 19 2 [4,5,7,8,9,16] (fun _=>([],[])) with
 ann:=fun b _ _=>match b with
  |0=>some (annI (fun d=>v==d) l [0,1,6,7])
  |_=>none }
def Qq4(a:Int)(b:List Int)(c:Nat):Prop:=IdxHead (fun (d:Int)=>a==d) b c
def QKZ(a:List Int):D:=SI a
theorem idk_ok(l:List Int)(v:Int)(hl:l.length≤maxLen):CD 119 [isl l .any,.int .i64 v] (.int .i64 (idxB (fun d=>v==d) l 0)):=by
 refine con_of (A:=sC _ _) (x:=()) (E:=Eidk l v) (eOk con0_ok rfl) Tryz.func119 rfl (by kernel_rfl) rfl (by simp[sC,Eidk,EC,E0]) ?_
 refine vc_eq (T :=
  (∃(x:Nat),Qq4 v l x∧(Z0=(↑x:Int)∧True)∧True∧True)∧∀(x:Nat),Qq4 v l x→ifB (decide ((↑x:Int)<(LI l))) (side (Z0≤(↑x:Int)∧(↑x:Int)<(LI l)) (ifB (v==GI l (Int.toNat (↑x:Int))) (RT ((↑x:Int)=idxB (fun (d:Int)=>v==d) l N0)) ((SM (QKZ l)∧SM (ZI v)∧SM D.unk∧SM (ZI (LI l))∧True)∧∃(y:Nat),Qq4 v l y∧LN l-y<LN l-x∧(IntKind.wrap IntKind.i64 ((↑x:Int)+Z1)=(↑y:Int)∧True)∧True∧True))) (RT ((-1:Int)=idxB (fun (d:Int)=>v==d) l N0))) (by kernel_rfl) ?_
 delta GI LI LN N0 N1 SI SM Z0 Z1 ZI Qq4 QKZ RT
 simp only[Int.toNat_natCast,ifB_iff,side_iff,decide_eq_true_eq,decide_eq_false_iff_not,true_and,and_true,exists_const]
 simp only[maxLen] at hl
 refine⟨⟨0,⟨Nat.zero_le _,by simp⟩,rfl⟩,fun i hh=>⟨fun hlt=>?_,fun hge=>(hh.done hge).symm⟩⟩
 have hlt':i<l.length:=by omega
 obtain ⟨s1,s2⟩:=hh.step hlt'
 exact⟨by omega,fun h=>(s1 h).symm,fun h=>⟨i+1,s2 h,by omega,wrap_i64' (by omega) (by omega)⟩⟩
noncomputable def conCtk(l:List Int)(v:Int):Con:=fun k ds S=>match k with
 |119=>some (pA ds S (.int .i64 (idxB (fun d=>v==d) l 0)) (wkL ds [isl l .any,.int .i64 v]))
 |_=>none
noncomputable def Ectk(l:List Int)(v:Int):Senv:=EC (conCtk l v) 9 2 [4] (fun _=>([],[]))
def QBU(a:List Int)(b:Int):List D:=[SI a,ZI b]
theorem ctk_ok(l:List Int)(v:Int)(hl:l.length≤maxLen):CD 95 [isl l .any,.int .i64 v] (.bool (l.contains v)):=by
 refine con_of (A:=sC _ _) (x:=()) (E:=Ectk l v) (eOk ?_ rfl) Tryz.func95 rfl (by kernel_rfl) rfl (by simp[sC,Ectk,EC,E0]) ?_
 ·intro k ds S A hh
  try unfold conCtk at hh
  try dsimp only at hh
  split at hh
  ·injection hh with hh;subst hh
   exact pA_ok fun e=>CD.at_ (CD.wk (idk_ok l v hl) e) _
  ·cases hh
 refine vc_eq (T :=
  ∃(x:Unit),wkL (QBU l v) (QBU l v)∧∀(y:Unit),True→RT (decide (Z0≤idxB (fun (d:Int)=>v==d) l N0)=List.contains l v)) (by kernel_rfl) ?_
 delta GI LN N0 N1 SI Z0 ZI QBU RT
 simp only[true_and,and_true,exists_const,forall_const]
 have e:=idxB_any (fun d=>v==d) l 0
 have e2:(l.any fun d=>v==d)=l.contains v:=by rw[Bool.eq_iff_iff,List.any_eq_true,List.contains_eq_mem,decide_eq_true_eq];simp
 rw[e2] at e
 first
  |exact⟨wkL_refl _,e⟩
  |exact⟨wkL_refl _,e,fun _ _=>trivial⟩
def RShow(n:Nd):Prop:=CD 44 [.agg n.row2] (.str (showN n))∧(showN n).length≤20000000000000
def conWi(n:Nd):Con:=fun k ds S=>match k with
 |44=>some (pA ds S (.str (showN n)) (isN n ds []))
 |95=>match ds with
  | [.sl 1 m f _,.int .i64 v]=>some (pA ds S (.bool ((intsD m f).contains v)) (wkL ds [isl (intsD m f) .any,.int .i64 v]∧m≤maxLen))
  |_=>none
 |_=>none
noncomputable def Ewi(n:Nd):Senv:=EC (conWi n) 15 3 [4,8] (fun _=>([],[]))
def QBV(a:List Int):List Int:=intsD (LN a) fun (i:Nat)=>[ZI (GI a i)]
def QmE(a:Nd):Arr:=Nd.va a
def QK0(a:Nd):List Int:=Arr.sh (QmE a)
def QK1(a:Nd):List Int:=Arr.nu (QmE a)
def QBW(a:Nd):List Arr:=Arr.it (QmE a)
def QBX:Arr:=DA
def Qq5:Nd:=Nd.mk Z0 Z0 Z0 [] Z0 Z0 QBX [] [] Z0 Z0 Z0
def QBY(a:Nd):Prop:=isN a [D.agg [ZI (Nd.kd a),ZI (Nd.at_ a),ZI (Nd.cl a),D.str (Nd.tx a),ZI (Nd.pr a),ZI (Nd.op a),ZI (Arr.k (QmE a)),SI (QK0 a),SI (QK1 a),D.sl N4 (LN (QBW a)) (fun (i:Nat)=>Arr.row (List.getD (QBW a) i QBX)) Mode.any,D.sl (15:Nat) (LN (Nd.ki a)) (fun (i:Nat)=>Nd.row (List.getD (Nd.ki a) i Qq5)) Mode.any,D.sl (34:Nat) (LN (Nd.bo a)) (fun (i:Nat)=>Sm.row (List.getD (Nd.bo a) i (Sm.mk Z0 Z0 [] Z0 Qq5 Qq5))) Mode.any,ZI (Nd.de a),ZI (Nd.sl a),ZI (Nd.ss a)]] []
def QmF(a:Nd):List UInt8:=showN a
theorem wi_ok(n:Nd)(ks:List Int)(hn:RShow n)(hk:ks.length≤maxLen):CD 67 [.agg n.row1,isl ks .any] (.str (withN ks n)):=by
 refine con_of (A:=sC _ _) (x:=()) (E:=Ewi n) (eOk ?_ rfl) Tryz.func67 rfl (by kernel_rfl) rfl (by simp[sC,Ewi,EC,E0]) ?_
 ·intro k ds S A hh
  try unfold conWi at hh
  try dsimp only at hh
  split at hh
  ·injection hh with hh;subst hh
   exact pA_ok fun e=>CD.at_ (CD.isN hn.1 e) _
  ·split at hh
   ·injection hh with hh;subst hh
    exact pA_ok fun ⟨e,hm⟩=>CD.at_ (CD.wk (ctk_ok _ _ (by rw[intsD_len];exact hm)) e) _
   ·cases hh
  ·cases hh
 refine vc_eq (T :=
  ∀(x:Nat),True→SM x∧∃(x_1:Unit),(wkL [SI ks,ZI (Nd.kd n)] [SI (QBV ks),ZI (Nd.kd n)]∧LN ks≤(9223372036854775807:Nat))∧∀(y:Unit),True→ifB (List.contains (QBV ks) (Nd.kd n)) (SM x∧∃(x:Unit),QBY n∧∀(y:Unit),True→side (N2+LN (QmF n)≤(9223372036854775807:Nat)) (side (LN ((40:UInt8)::(32:UInt8)::List.append [] (QmF n))+N2≤(9223372036854775807:Nat)) (RT ((40:UInt8)::(32:UInt8)::List.append (List.append [] (QmF n)) [(32:UInt8),(41:UInt8)]=withN ks n)))) (SM x∧∃(x:Unit),QBY n∧∀(y:Unit),True→RT (QmF n=withN ks n))) (by kernel_rfl) ?_
 delta DA GI LN N1 N2 N4 SI SM Z0 ZI QBY QmF QBV QmE QK0 QK1 QBW QBX Qq5 RT
 try simp only[← dm]
 try simp only[← dn]
 simp only[ifB_iff,side_iff,true_and,and_true,exists_const,forall_const]
 simp only[intsD_isl]
 have hl:=hn.2
 unfold maxLen at hk
 refine⟨⟨wkL_refl _,hk⟩,fun h=>⟨nd_self _ _,by omega,?_,?_⟩,fun h=>⟨nd_self _ _,?_⟩⟩
 ·simp only[List.length_cons,List.append_eq,List.nil_append];omega
 ·unfold withN withT;rw[if_pos h];rfl
 ·unfold withN withT;rw[if_neg (by rw[h];exact Bool.false_ne_true)]
def conWd(q:Nd→Prop):Con:=fun k ds S=>match k with
 |67=>match ds with
  | [_,.sl 1 m f _]=>some (pE (β:=Nd) ds S (fun b=>.str (withN (intsD m f) b)) (fun b=>wkL ds [.agg b.row1,isl (intsD m f) .any]∧m≤maxLen∧q b))
  |_=>none
 |44=>some (pE (β:=Nd) ds S (fun b=>.str (showN b)) (fun b=>isN b ds []∧q b))
 |k=>conJn k ds S
theorem conWd_ok{q:Nd→Prop}(h:∀b,q b→RShow b):ConOk Tryz.prog (conWd q):=by
 intro k ds S A hh
 unfold conWd at hh
 split at hh
 ·split at hh
  ·injection hh with hh;subst hh
   exact pS_ok fun b ⟨e,hm,hb⟩=>CD.at_ (CD.wk (wi_ok b _ (h b hb) (by rw[intsD_len];exact hm)) e) _
  ·cases hh
 ·injection hh with hh;subst hh
  exact pS_ok fun b ⟨e,hb⟩=>CD.at_ (CD.isN (h b hb).1 e) _
 ·exact conJn_ok _ _ _ _ hh
noncomputable def Ewd(q:Nd→Prop)(l:List Nd)(ks:List Int):Senv:={ EC (conWd q) 23 2 [4,5,7,8,9,10,11] (fun _=>([],[])) with
 gh:=fun b=>match b with
  |0=>[.slot 5]
  |_=>[]
 ann:=fun b _ S=>match b with
  |0=>some { slots:=[10,5],keep:=[0,1,8,9],α:=Nat×Nat×List (List UInt8),st:=fun y=>([.int .i64 y.1,ssl y.2.2 (.tok 0 y.2.1)],⟨S.objs,[(0,y.2.1)]⟩),inv:=fun y=>y.1≤l.length∧y.2.2=(l.take y.1).map (withN ks),mu:=fun y=>l.length-y.1 }
  |_=>none }
def Qq6(a:Nat)(b:List Nd)(c:List (List UInt8))(d:List Int):Prop:=a≤LN b∧c=List.map (withN d) (List.take a b)
def QjS(a:List (List UInt8))(b:Nat):List D:=[D.str (List.getD a b [])]
def QmG:Arr:=DA
def Qg9:Nd:=Nd.mk Z0 Z0 Z0 [] Z0 Z0 QmG [] [] Z0 Z0 Z0
def Hv(a:List Nd)(b:Nat):Nd:=List.getD a (Int.toNat (↑b:Int)) Qg9
def QmH(a:List Nd)(b:Nat):Arr:=Nd.va (Hv a b)
def QK2(a:List Nd)(b:Nat):List Int:=Arr.sh (QmH a b)
def QK3(a:List Nd)(b:Nat):List Int:=Arr.nu (QmH a b)
def QBZ(a:List Nd)(b:Nat):List Arr:=Arr.it (QmH a b)
def QB0(a:List Nd)(b:Nat):List Nd:=Nd.ki (Hv a b)
def QB1(a:List Nd)(b:Nat):List Sm:=Nd.bo (Hv a b)
def Qq7:Sm:=Sm.mk Z0 Z0 [] Z0 Qg9 Qg9
def QB2(a:List Int):D:=SI a
def QmI(a:Nd):Arr:=Nd.va a
def QK4(a:Nd):List Int:=Arr.sh (QmI a)
def QK5(a:Nd):List Int:=Arr.nu (QmI a)
def QB3(a:Nd):List Arr:=Arr.it (QmI a)
def QB4(a:List Int):List Int:=intsD (LN a) fun (i:Nat)=>[ZI (GI a i)]
def Hw(a:List Nd)(b:Nat):Nd:=List.getD a b Qg9
def QmJ(a:List Nd)(b:Nat):Arr:=Nd.va (Hw a b)
def QK6(a:List Nd)(b:Nat):List Int:=Arr.sh (QmJ a b)
def QK7(a:List Nd)(b:Nat):List Int:=Arr.nu (QmJ a b)
def QB5(a:List Nd)(b:Nat):List Arr:=Arr.it (QmJ a b)
def QB6(a:List Nd)(b:Nat):List Nd:=Nd.ki (Hw a b)
def QB7(a:List Nd)(b:Nat):List Sm:=Nd.bo (Hw a b)
def QK8(a:List Nd):D:=D.sl (15:Nat) (LN a) (fun (i:Nat)=>[ZI (Nd.kd (Hw a i)),ZI (Nd.at_ (Hw a i)),ZI (Nd.cl (Hw a i)),D.str (Nd.tx (Hw a i)),ZI (Nd.pr (Hw a i)),ZI (Nd.op (Hw a i)),ZI (Arr.k (QmJ a i)),SI (QK6 a i),SI (QK7 a i),D.sl N4 (LN (QB5 a i)) (fun (i_1:Nat)=>Arr.row (List.getD (QB5 a i) i_1 QmG)) Mode.any,D.sl (15:Nat) (LN (QB6 a i)) (fun (i_1:Nat)=>Nd.row (List.getD (QB6 a i) i_1 Qg9)) Mode.any,D.sl (34:Nat) (LN (QB7 a i)) (fun (i_1:Nat)=>Sm.row (List.getD (QB7 a i) i_1 Qq7)) Mode.any,ZI (Nd.de (Hw a i)),ZI (Nd.sl (Hw a i)),ZI (Nd.ss (Hw a i))]) Mode.any
def QB8(a:List Nd):Prop:=SM (QK8 a)
def QB9(a:List (List UInt8)):List (List UInt8):=strsOf (LN a) fun (i:Nat)=>QjS a i
theorem wd_ok(q : Nd → Prop)(l : List Nd)(ks : List Int)(h : ∀b, q b → RShow b)(hq : ∀b∈l, q b)(hl : l.length≤1000000)(hk : ks.length≤maxLen)(hj : (Lib.join (l.map (withN ks)) [32]).length≤20000000000000) :
  CD 66 [gsl 15 Nd.row1 l,isl ks .any] (.str (Lib.join (l.map (withN ks)) [32])):=by
 refine con_of (A:=sC _ _) (x:=()) (E:=Ewd q l ks) (eOk (conWd_ok h) rfl) Tryz.func66 rfl (by kernel_rfl) rfl (by simp[sC,Ewd,EC,E0]) ?_
 refine vc_eq (T :=
  ∀(t:Nat),(∃(x:Nat×Nat×List (List UInt8)),Qq6 x.1 l x.2.2 ks∧(Z0=(NI x.1)∧(N0=LN x.2.2∧(∀(i:Nat),i<N0→eqOf (List D) [] (QjS x.2.2 i))∧t=x.2.1)∧True)∧True∧t=x.2.1∧True)∧∀(x:Nat×Nat×List (List UInt8)),Qq6 x.1 l x.2.2 ks→ifB (decide ((NI x.1)<(LI l))) (side (Z0≤(NI x.1)∧(NI x.1)<(LI l)) (∀(x_1:Nat),True→SM x_1∧SM x_1∧∃(x_2:Nd),(wkL [D.agg [ZI (Nd.kd (Hv l x.1)),ZI (Nd.at_ (Hv l x.1)),ZI (Nd.cl (Hv l x.1)),D.str (Nd.tx (Hv l x.1)),ZI (Nd.pr (Hv l x.1)),ZI (Nd.op (Hv l x.1)),ZI (Arr.k (QmH l x.1)),SI (QK2 l x.1),SI (QK3 l x.1),D.sl N4 (LN (QBZ l x.1)) (fun (i:Nat)=>Arr.row (List.getD (QBZ l x.1) i QmG)) Mode.any,D.sl (15:Nat) (LN (QB0 l x.1)) (fun (i:Nat)=>Nd.row (List.getD (QB0 l x.1) i Qg9)) Mode.any,D.sl (34:Nat) (LN (QB1 l x.1)) (fun (i:Nat)=>Sm.row (List.getD (QB1 l x.1) i Qq7)) Mode.any,ZI (Nd.de (Hv l x.1)),ZI (Nd.sl (Hv l x.1)),ZI (Nd.ss (Hv l x.1))],QB2 ks] [D.agg [ZI (Nd.kd x_2),ZI (Nd.at_ x_2),ZI (Nd.cl x_2),D.str (Nd.tx x_2),ZI (Nd.pr x_2),ZI (Nd.op x_2),ZI (Arr.k (QmI x_2)),SI (QK4 x_2),SI (QK5 x_2),D.sl N4 (LN (QB3 x_2)) (fun (i:Nat)=>Arr.row (List.getD (QB3 x_2) i QmG)) Mode.any,D.sl (15:Nat) (LN (Nd.ki x_2)) (fun (i:Nat)=>Nd.row (List.getD (Nd.ki x_2) i Qg9)) Mode.any,D.sl (34:Nat) (LN (Nd.bo x_2)) (fun (i:Nat)=>Sm.row (List.getD (Nd.bo x_2) i Qq7)) Mode.any,ZI (Nd.de x_2),ZI (Nd.sl x_2),ZI (Nd.ss x_2)],SI (QB4 ks)]∧LN ks≤(9223372036854775807:Nat)∧q x_2)∧∀(y:Unit),True→SM x.2.1∧side ((LN x.2.2+N1)*(16:Nat)≤(140737488355328:Nat)∧LN x.2.2+N1≤(9223372036854775807:Nat)) (∀(t:Nat),(QB8 l∧SM (QB2 ks)∧QB8 l∧SM (ZI (LI l))∧True)∧∃(y:Nat×Nat×List (List UInt8)),Qq6 y.1 l y.2.2 ks∧LN l-y.1<LN l-x.1∧(IntKind.wrap IntKind.i64 ((NI x.1)+Z1)=(NI y.1)∧(LN x.2.2+N1=LN y.2.2∧(∀(i:Nat),i<LN x.2.2+N1→appF (LN x.2.2) (fun (i:Nat)=>QjS x.2.2 i) (fun (i:Nat)=>[D.str (List.getD [withN (QB4 ks) x_2] i [])]) i=QjS y.2.2 i)∧t=y.2.1)∧True)∧True∧t=y.2.1∧True))) (((strsB (LN x.2.2) fun (i:Nat)=>QjS x.2.2 i)=true∧joinOk (QB9 x.2.2) [(32:UInt8)])∧∀(y:Unit),True→RT (Lib.join (QB9 x.2.2) [(32:UInt8)]=Lib.join (List.map (withN ks) l) [(32:UInt8)]))) (by kernel_rfl) ?_
 delta DA GI LI LN N0 N1 N4 NI SI SM Z0 Z1 ZI Qq6 QjS QmG Qg9 Hv QmH QK2 QK3 QBZ QB0 QB1 Qq7 QB2 QmI QK4 QK5 QB3 QB4 Hw QmJ QK6 QK7 QB5 QB6 QB7 QK8 QB8 QB9 RT
 try simp only[← dm]
 try simp only[← dn]
 simp only[Int.toNat_natCast,ifB_iff,side_iff,decide_eq_true_eq,decide_eq_false_iff_not,true_and,and_true,exists_const,forall_const,Prod.exists]
 simp only[intsD_isl]
 unfold maxLen at hk
 refine fun t=>⟨⟨0,t,[],⟨Nat.zero_le _,rfl⟩,⟨rfl,rfl,fun i hi=>absurd hi (Nat.not_lt_zero _),rfl⟩,rfl⟩,?_⟩
 rintro ⟨i,tk,out⟩ ⟨hi,ho⟩
 simp only at hi ho ⊢
 have hlen:out.length=i:=by rw[ho,List.length_map,List.length_take];omega
 refine⟨fun hlt=>?_,fun hge=>?_⟩
 ·have hlt':i<l.length:=by omega
  refine⟨⟨by omega,hlt⟩,l.getD i default,⟨wkL_refl _,hk,hq _ (nd_getD hlt')⟩,⟨by omega,by omega⟩,fun t2=>⟨i+1,t2,out++[withN ks (l.getD i default)],⟨hlt',?_⟩,by omega,⟨?_,by simp,fun j hj=>app_str j hj,rfl⟩,rfl⟩⟩
  ·rw[take_step hlt',List.map_append,ho];rfl
  ·rw[wrap_i64' (by omega) (by omega)];rfl
 ·have e:i=l.length:=by omega
  rw[e,List.take_length] at ho
  have e1:strsOf out.length (fun i=>[D.str (out.getD i [])])=out:=strsOf_eq rfl fun _ _=>rfl
  have e2:strsB out.length (fun i=>[D.str (out.getD i [])])=true:=strsB_eq rfl fun _ _=>rfl
  rw[e1,ho]
  rw[ho] at e2
  refine⟨⟨?_,?_,?_⟩,rfl⟩
  ·exact e2
  ·rw[List.length_map];omega
  ·omega
noncomputable def Estm(q:Nd→Prop):Senv:=EC (conWd q) 27 3 [4,5,14] (fun id=>match id with | 3=>([0,1,2,3,4,5,6,7],[5]) | 5=>([0,1,4,5,2,3,6,7,8],[2,6]) | _=>([],[]))
def Qq8(a:Sm):List UInt8:=Sm.nm a
def Hx(a:Sm):Nd:=Sm.nd a
def QmK(a:Sm):Arr:=Nd.va (Hx a)
def QK9(a:Sm):List Int:=Arr.sh (QmK a)
def QLa(a:Sm):List Int:=Arr.nu (QmK a)
def QCa(a:Sm):List Arr:=Arr.it (QmK a)
def Qq9:Arr:=DA
def QCb(a:Sm):List Nd:=Nd.ki (Hx a)
def QmL:Nd:=Nd.mk Z0 Z0 Z0 [] Z0 Z0 Qq9 [] [] Z0 Z0 Z0
def QCc(a:Sm):List Sm:=Nd.bo (Hx a)
def QCd:Sm:=Sm.mk Z0 Z0 [] Z0 QmL QmL
def QCe(a:Sm):D:=D.agg [ZI (Nd.kd (Hx a)),ZI (Nd.at_ (Hx a)),ZI (Nd.cl (Hx a)),D.str (Nd.tx (Hx a)),ZI (Nd.pr (Hx a)),ZI (Nd.op (Hx a)),ZI (Arr.k (QmK a)),SI (QK9 a),SI (QLa a),D.sl N4 (LN (QCa a)) (fun (i:Nat)=>Arr.row (List.getD (QCa a) i Qq9)) Mode.any,D.sl (15:Nat) (LN (QCb a)) (fun (i:Nat)=>Nd.row (List.getD (QCb a) i QmL)) Mode.any,D.sl (34:Nat) (LN (QCc a)) (fun (i:Nat)=>Sm.row (List.getD (QCc a) i QCd)) Mode.any,ZI (Nd.de (Hx a)),ZI (Nd.sl (Hx a)),ZI (Nd.ss (Hx a))]
def Qra(a:Nd)(b:Sm)(c:Nd→Prop):Prop:=isN a [QCe b] []∧c a
def QCf(a:Sm):List UInt8:=Qq8 a++[(32:UInt8),(60:UInt8),(45:UInt8),(32:UInt8)]
def QjT(a:Nd):List UInt8:=showN a
def Qrb(a:Nd):Nat:=LN (QjT a)
def Qrc(a:Sm):List UInt8:=showM a
def Hy(a:Sm):Nd:=Sm.te a
def QmM(a:Sm):Arr:=Nd.va (Hy a)
def QLb(a:Sm):List Int:=Arr.sh (QmM a)
def QLc(a:Sm):List Int:=Arr.nu (QmM a)
def QCg(a:Sm):List Arr:=Arr.it (QmM a)
def QCh(a:Sm):List Nd:=Nd.ki (Hy a)
def QCi(a:Sm):List Sm:=Nd.bo (Hy a)
def QCj(a:Nd):List UInt8:=QjT a++[(32:UInt8),(58:UInt8),(32:UInt8)]
theorem stm_ok(q:Nd→Prop)(s:Sm)(h:∀b,q b→RShow b)(h1:q s.nd)(h2:s.kd=3→q s.te)(hn:s.nm.length≤maxB):CD 69 [.agg s.row1] (.str (showM s)):=by
 refine con_of (A:=sC _ _) (x:=()) (E:=Estm q) (eOk (conWd_ok h) rfl) Tryz.func69 rfl (by kernel_rfl) rfl (by simp[sC,Estm,EC,E0]) ?_
 refine vc_eq (T :=
  ∀(x:Nat),True→SM x∧ifB (Sm.kd s==(2:Int)) (SM x∧side (LN (Qq8 s)+N4≤(9223372036854775807:Nat)) (SM x∧∃(x_1:Nd),Qra x_1 s q∧∀(y:Unit),True→(SM x∧SM (D.str (Qq8 s)))∧side (LN (QCf s)+Qrb x_1≤(9223372036854775807:Nat)) (RT (QCf s++QjT x_1=Qrc s)))) (ifB (Sm.kd s==(3:Int)) (SM x∧SM x∧∃(x_1:Nd),(isN x_1 [D.agg [ZI (Nd.kd (Hy s)),ZI (Nd.at_ (Hy s)),ZI (Nd.cl (Hy s)),D.str (Nd.tx (Hy s)),ZI (Nd.pr (Hy s)),ZI (Nd.op (Hy s)),ZI (Arr.k (QmM s)),SI (QLb s),SI (QLc s),D.sl N4 (LN (QCg s)) (fun (i:Nat)=>Arr.row (List.getD (QCg s) i Qq9)) Mode.any,D.sl (15:Nat) (LN (QCh s)) (fun (i:Nat)=>Nd.row (List.getD (QCh s) i QmL)) Mode.any,D.sl (34:Nat) (LN (QCi s)) (fun (i:Nat)=>Sm.row (List.getD (QCi s) i QCd)) Mode.any,ZI (Nd.de (Hy s)),ZI (Nd.sl (Hy s)),ZI (Nd.ss (Hy s))]] []∧q x_1)∧∀(y:Unit),True→(SM x∧SM (QCe s))∧side (Qrb x_1+(3:Nat)≤(9223372036854775807:Nat)) (∃(x:Nd),Qra x s q∧∀(y:Unit),True→side (LN (QCj x_1)+Qrb x≤(9223372036854775807:Nat)) (RT (QCj x_1++QjT x=Qrc s)))) (SM x∧∃(x:Nd),Qra x s q∧∀(y:Unit),True→RT (QjT x=Qrc s)))) (by kernel_rfl) ?_
 delta DA GI LN N1 N4 SI SM Z0 ZI Qq8 Hx QmK QK9 QLa QCa Qq9 QCb QmL QCc QCd QCe Qra QCf QjT Qrb Qrc Hy QmM QLb QLc QCg QCh QCi QCj RT
 try simp only[← dm]
 try simp only[← dn]
 simp only[ne_eq,ifB_iff,side_iff,true_and,and_true,beq_iff_eq,beq_eq_false_iff_ne,exists_const,forall_const]
 unfold maxB at hn
 have l1:=(h _ h1).2
 rw[showM_eq]
 refine⟨fun a=>⟨by omega,s.nd,⟨nd_self _ _,h1⟩,?_,?_⟩,fun a=>⟨fun b=>?_,fun b=>⟨s.nd,⟨nd_self _ _,h1⟩,?_⟩⟩⟩
 ·simp only[List.length_append,List.length_cons,List.length_nil];omega
 ·rw[if_pos a]
 ·have l2:=(h _ (h2 b)).2
  refine⟨s.te,⟨nd_self _ _,h2 b⟩,by omega,s.nd,⟨nd_self _ _,h1⟩,?_,?_⟩
  ·simp only[List.length_append,List.length_cons,List.length_nil];omega
  ·rw[if_neg a,if_pos b]
 ·rw[if_neg a,if_neg b]
def dervT(n:Nd):List UInt8 :=
 let x:=withN [16] (n.ki.getD 1 default)++[32]++showN (n.ki.getD 0 default)
 if n.kd=15 then x++([32]++withN [3,4,5,16,14,15] (n.ki.getD 2 default)) else x
noncomputable def Edv(q:Nd→Prop):Senv:=EC (conWd q) 30 4 [19] (fun id=>match id with | 1=>([0,1,2,3,7,8,9,10,4,5,6,11,12,13],[4,5,11]) | _=>([],[]))
def QiY(a:Nd):List Nd:=Nd.ki a
def Qrd(a:Nd):Int:=(LI (QiY a))
def QmN:Arr:=DA
def Qgq:Nd:=Nd.mk Z0 Z0 Z0 [] Z0 Z0 QmN [] [] Z0 Z0 Z0
def QLd(a:Nd):D:=D.sl (15:Nat) (LN (QiY a)) (fun (i:Nat)=>Nd.row1 (List.getD (QiY a) i Qgq)) Mode.any
def Qre(a:Nat)(b:Nd):Prop:=SM a∧SM (QLd b)
def Hz(a:Nd):Nd:=List.getD (QiY a) N1 Qgq
def QmO(a:Nd):Arr:=Nd.va (Hz a)
def QLe(a:Nd):List Int:=Arr.sh (QmO a)
def QLf(a:Nd):List Int:=Arr.nu (QmO a)
def QCk(a:Nd):List Arr:=Arr.it (QmO a)
def QCl(a:Nd):List Nd:=Nd.ki (Hz a)
def QCm(a:Nd):List Sm:=Nd.bo (Hz a)
def Qrf:Sm:=Sm.mk Z0 Z0 [] Z0 Qgq Qgq
def QCn:List Int:=intsD N1 fun (i:Nat)=>List.getD [[ZI (16:Int)]] i []
def QCo(a:Nd):List UInt8:=withN QCn a
def HA(a:Nd):Nd:=List.getD (QiY a) N0 Qgq
def QmP(a:Nd):Arr:=Nd.va (HA a)
def QLg(a:Nd):List Int:=Arr.sh (QmP a)
def QLh(a:Nd):List Int:=Arr.nu (QmP a)
def QCp(a:Nd):List Arr:=Arr.it (QmP a)
def QCq(a:Nd):List Nd:=Nd.ki (HA a)
def QCr(a:Nd):List Sm:=Nd.bo (HA a)
def QCs(a:Nd):List UInt8:=QCo a++[(32:UInt8)]
def HB(a:Nd):Nd:=List.getD (QiY a) N2 Qgq
def QmQ(a:Nd):Arr:=Nd.va (HB a)
def QLi(a:Nd):List Int:=Arr.sh (QmQ a)
def QLj(a:Nd):List Int:=Arr.nu (QmQ a)
def QCt(a:Nd):List Arr:=Arr.it (QmQ a)
def QCu(a:Nd):List Nd:=Nd.ki (HB a)
def QCv(a:Nd):List Sm:=Nd.bo (HB a)
def QCw(a:Nat):List D:=List.getD [[ZI (3:Int)],[ZI (4:Int)],[ZI (5:Int)],[ZI (16:Int)],[ZI (14:Int)],[ZI (15:Int)]] a []
def QCx:List Int:=intsD N6 fun (i:Nat)=>QCw i
def QCy(a:Nd):List UInt8:=withN QCx a
def Qrg(a b:Nd):List UInt8:=QCs a++showN b
def QCz(a:Nd):List UInt8:=(32:UInt8)::List.append [] (QCy a)
theorem dv_ok(q:Nd→Prop)(n:Nd)(h:∀b,q b→RShow b)(hq:∀b∈n.ki,q b)(h2:2≤n.ki.length)(h3:n.kd=15→n.ki.length=3):CD 68 [.agg n.row2] (.str (dervT n)):=by
 refine con_of (A:=sC _ _) (x:=()) (E:=Edv q) (eOk (conWd_ok h) rfl) Tryz.func68 rfl (by kernel_rfl) rfl (by simp[sC,Edv,EC,E0]) ?_
 refine vc_eq (T :=
  ∀(x:Nat),True→SM x∧side (Z0≤Z1∧Z1<Qrd n) (SM x∧side (Z0≤Z0∧Z0<Qrd n) (Qre x n∧Qre x n∧∃(x_1:Nd),(wkL [D.agg [ZI (Nd.kd (Hz n)),ZI (Nd.at_ (Hz n)),ZI (Nd.cl (Hz n)),D.str (Nd.tx (Hz n)),ZI (Nd.pr (Hz n)),ZI (Nd.op (Hz n)),ZI (Arr.k (QmO n)),SI (QLe n),SI (QLf n),D.sl N4 (LN (QCk n)) (fun (i:Nat)=>Arr.row (List.getD (QCk n) i QmN)) Mode.any,D.sl (15:Nat) (LN (QCl n)) (fun (i:Nat)=>Nd.row (List.getD (QCl n) i Qgq)) Mode.any,D.sl (34:Nat) (LN (QCm n)) (fun (i:Nat)=>Sm.row (List.getD (QCm n) i Qrf)) Mode.any,ZI (Nd.de (Hz n)),ZI (Nd.sl (Hz n)),ZI (Nd.ss (Hz n))],D.sl N1 N1 (fun (i:Nat)=>List.getD [[ZI (16:Int)]] i []) Mode.full] [D.agg (Nd.row1 x_1),SI QCn]∧N1≤(9223372036854775807:Nat)∧q x_1)∧∀(y:Unit),True→Qre x n∧side (LN (QCo x_1)+N1≤(9223372036854775807:Nat)) (∃(x_2:Nd),(isN x_2 [D.agg [ZI (Nd.kd (HA n)),ZI (Nd.at_ (HA n)),ZI (Nd.cl (HA n)),D.str (Nd.tx (HA n)),ZI (Nd.pr (HA n)),ZI (Nd.op (HA n)),ZI (Arr.k (QmP n)),SI (QLg n),SI (QLh n),D.sl N4 (LN (QCp n)) (fun (i:Nat)=>Arr.row (List.getD (QCp n) i QmN)) Mode.any,D.sl (15:Nat) (LN (QCq n)) (fun (i:Nat)=>Nd.row (List.getD (QCq n) i Qgq)) Mode.any,D.sl (34:Nat) (LN (QCr n)) (fun (i:Nat)=>Sm.row (List.getD (QCr n) i Qrf)) Mode.any,ZI (Nd.de (HA n)),ZI (Nd.sl (HA n)),ZI (Nd.ss (HA n))]] []∧q x_2)∧∀(y:Unit),True→side (LN (QCs x_1)+LN (showN x_2)≤(9223372036854775807:Nat)) (SM x∧ifB (Nd.kd n==(15:Int)) (SM x∧side (Z0≤(2:Int)∧(2:Int)<Qrd n) (∃(x:Nd),(wkL [D.agg [ZI (Nd.kd (HB n)),ZI (Nd.at_ (HB n)),ZI (Nd.cl (HB n)),D.str (Nd.tx (HB n)),ZI (Nd.pr (HB n)),ZI (Nd.op (HB n)),ZI (Arr.k (QmQ n)),SI (QLi n),SI (QLj n),D.sl N4 (LN (QCt n)) (fun (i:Nat)=>Arr.row (List.getD (QCt n) i QmN)) Mode.any,D.sl (15:Nat) (LN (QCu n)) (fun (i:Nat)=>Nd.row (List.getD (QCu n) i Qgq)) Mode.any,D.sl (34:Nat) (LN (QCv n)) (fun (i:Nat)=>Sm.row (List.getD (QCv n) i Qrf)) Mode.any,ZI (Nd.de (HB n)),ZI (Nd.sl (HB n)),ZI (Nd.ss (HB n))],D.sl N1 N6 (fun (i:Nat)=>QCw i) Mode.full] [D.agg (Nd.row1 x),SI QCx]∧N6≤(9223372036854775807:Nat)∧q x)∧∀(y:Unit),True→side (N1+LN (QCy x)≤(9223372036854775807:Nat)) (side (LN (Qrg x_1 x_2)+LN (QCz x)≤(9223372036854775807:Nat)) (RT (Qrg x_1 x_2++QCz x=dervT n))))) (RT (Qrg x_1 x_2=dervT n))))))) (by kernel_rfl) ?_
 delta DA GI LI LN N0 N1 N2 N4 N6 SI SM Z0 Z1 ZI QCz QiY Qrd QmN Qgq QLd Qre Hz QmO QLe QLf QCk QCl QCm Qrf QCn QCo HA QmP QLg QLh QCp QCq QCr QCs HB QmQ QLi QLj QCt QCu QCv QCw QCx QCy Qrg RT
 try simp only[← dm]
 try simp only[← dn]
 simp only[ne_eq,ifB_iff,side_iff,true_and,and_true,beq_iff_eq,beq_eq_false_iff_ne,exists_const,forall_const]
 have i1:intsD 1 (fun i=>[[D.int IntKind.i64 16]].getD i [])=[16]:=rfl
 have i6:intsD 6 (fun i=>[[D.int IntKind.i64 3],[D.int IntKind.i64 4],[D.int IntKind.i64 5],[D.int IntKind.i64 16],[D.int IntKind.i64 14],[D.int IntKind.i64 15]].getD i [])=[3,4,5,16,14,15]:=rfl
 have p1:IntsP 1 (fun i=>[[D.int IntKind.i64 16]].getD i []):=fun i hi=>by
  match i,hi with
  |0,_=>rfl
 have p6:IntsP 6 (fun i=>[[D.int IntKind.i64 3],[D.int IntKind.i64 4],[D.int IntKind.i64 5],[D.int IntKind.i64 16],[D.int IntKind.i64 14],[D.int IntKind.i64 15]].getD i []):=fun i hi=>by
  match i,hi with
  |0,_=>rfl
  |1,_=>rfl
  |2,_=>rfl
  |3,_=>rfl
  |4,_=>rfl
  |5,_=>rfl
 have q0:=hq _ (nd_getD (l:=n.ki) (i:=0) (by omega))
 have q1:=hq _ (nd_getD (l:=n.ki) (i:=1) (by omega))
 have wl:∀(ks:List Int) (b:Nd),q b→(withN ks b).length≤20000000000004:=fun ks b hb=>by
  have h1:=withT_len ks b.kd (showN b)
  have h2:=(h b hb).2
  unfold withN
  omega
 have r0:=(h _ q0).2
 have r1:=wl [16] _ q1
 refine⟨⟨by omega,by omega⟩,⟨by omega,by omega⟩,n.ki.getD 1 default,⟨cls_arg (r:=(n.ki.getD 1 default).row1) p1,by omega,q1⟩,?_,n.ki.getD 0 default,⟨nd_self _ _,q0⟩,?_,fun hk=>?_,fun hk=>?_⟩
 ·rw[i1];omega
 ·rw[i1];simp only[List.length_append,List.length_cons,List.length_nil];omega
 ·have hl:=h3 hk
  have q2:=hq _ (nd_getD (l:=n.ki) (i:=2) (by omega))
  have r2:=wl [3,4,5,16,14,15] _ q2
  refine⟨⟨by omega,by omega⟩,n.ki.getD 2 default,⟨cls_arg (r:=(n.ki.getD 2 default).row1) p6,by omega,q2⟩,?_,?_,?_⟩
  ·rw[i6];omega
  ·rw[i1,i6];simp only[List.length_append,List.length_cons,List.length_nil,List.append_eq];omega
  ·rw[i1,i6]
   unfold dervT
   rw[if_pos hk]
   rfl
 ·rw[i1]
  unfold dervT
  rw[if_neg hk]
def conShn(n:Nd)(q:Nd→Prop)(qs:Sm→Prop):Con:=fun k ds S=>match k with
 |63=>some (pA ds S (.str (litF n.va)) (wkL ds [.agg n.va.row1]))
 |64=>some (pA ds S (.str (primT n.pr)) (wkL ds [.int .i64 n.pr]))
 |65=>some (pA ds S (.str (opT n.op)) (wkL ds [.int .i64 n.op]))
 |66=>match ds with
  | [_,.sl 1 m f _]=>some (pA ds S (.str (Lib.join (n.ki.map (withN (intsD m f))) [32])) (wkL ds [gsl 15 Nd.row1 n.ki,isl (intsD m f) .any]∧m≤maxLen∧n.ki.length≤1000000∧(Lib.join (n.ki.map (withN (intsD m f))) [32]).length≤20000000000000))
  |_=>none
 |68=>some (pA ds S (.str (dervT n)) (isN2 n ds []∧2≤n.ki.length∧(n.kd=15→n.ki.length=3)))
 |69=>some (pE (β:=Sm) ds S (fun s=>.str (showM s)) (fun s=>isS s ds []∧qs s))
 |k=>conWd q k ds S
theorem conShn_ok{n:Nd}{q:Nd→Prop}{qs:Sm→Prop}(ho:n.ok)(h:∀b,q b→RShow b)(hq:∀b∈n.ki,q b)(hs:∀s,qs s→q s.nd∧(s.kd=3→q s.te)∧s.nm.length≤maxB):ConOk Tryz.prog (conShn n q qs):=by
 intro k ds S A hh
 unfold conShn at hh
 split at hh
 ·injection hh with hh;subst hh
  exact pA_ok fun e=>CD.at_ (CD.wk (show CD _ [.agg n.va.row1] _ from (litF_ok n.va (va_ok ho)).mono fun _ _ ⟨_,h1,h2,h3⟩=>⟨(),trivial,h2,h3⟩) e) _
 ·injection hh with hh;subst hh
  exact pA_ok fun e=>CD.at_ (CD.wk (pn_ok n.pr) e) _
 ·injection hh with hh;subst hh
  exact pA_ok fun e=>CD.at_ (CD.wk (on_ok n.op) e) _
 ·split at hh
  ·injection hh with hh;subst hh
   exact pA_ok fun ⟨e,hm,hl,hj⟩=>CD.at_ (CD.wk (wd_ok q n.ki _ h hq hl (by rw[intsD_len];exact hm) hj) e) _
  ·cases hh
 ·injection hh with hh;subst hh
  exact pA_ok fun ⟨e,h2,h3⟩=>CD.at_ (CD.wk (dv_ok q n h hq h2 h3) e) _
 ·injection hh with hh;subst hh
  exact pS_ok fun s ⟨e,hb⟩=>CD.at_ (CD.wk (stm_ok q s h (hs s hb).1 (hs s hb).2.1 (hs s hb).2.2) e) _
 ·exact conWd_ok h _ _ _ _ hh
theorem cls_arg2{d:D}{m:Nat}{f:Nat→List D}{md:Ab.Mode}(h:IntsP m f):wkL [d,.sl 1 m f md] [d,isl (intsD m f) .any]:=by
 simp only[wkL]
 refine⟨wkD_refl _,?_,trivial⟩
 simp only[isl,wkD,chk_iff]
 refine⟨by simp,by simp[intsD_len],fun i hi=>?_,by simp[weakM]⟩
 have e:(intsD m f).getD i 0=intD (f i):=by simp[intsD,List.getD_eq_getElem?_getD,hi]
 rw[e,h i hi]
 exact wkL_refl _
noncomputable def Eshn(n:Nd)(q:Nd→Prop)(qs:Sm→Prop):Senv:={ EC (conShn n q qs) 111 4 [5,7,8,13,17,19,21,23,25,27,29,34,39,45,60,83,89,95,96,97,98] (fun id=>match id with | 25=>([0,1,2,3,7,8,9,10,4,5,6,11,12,13],[4,5,11]) | 27=>([0,1,2,3,7,8,9,10,15,16,17,18,4,5,6,11,12,13,14,19,20,21],[4,5,11,12,19]) | _=>([],[])) with
 mg:=fun _=>2
 gh:=fun b=>match b with
  |1=>[.slot 3]
  |_=>[]
 ann:=fun b _ S=>match b with
  |1=>some { slots:=[97,3],keep:=[0,1,95,96],α:=Nat×Nat×List (List UInt8),st:=fun y=>([.int .i64 y.1,ssl y.2.2 (.tok 0 y.2.1)],⟨S.objs,[(0,y.2.1)]⟩),inv:=fun y=>y.1≤n.bo.length∧y.2.2=(n.bo.take y.1).map showM,mu:=fun y=>n.bo.length-y.1 }
  |_=>none }
def Jf(a:Nd):Int:=Nd.kd a
def QjU(a:Nd):Arr:=Nd.va a
def QCA(a:Nd):Int:=Arr.k (QjU a)
def QCB(a:Nd):D:=ZI (QCA a)
def QCC(a:Nd):List Int:=Arr.sh (QjU a)
def Qrh(a:Nd):Nat:=LN (QCC a)
def QCD(a:Nd)(b:Nat):List D:=[ZI (GI (QCC a) b)]
def QCE(a:Nd):D:=D.sl N1 (Qrh a) (fun (i:Nat)=>QCD a i) Mode.any
def QCF(a:Nd):List Int:=Arr.nu (QjU a)
def Qri(a:Nd):Nat:=LN (QCF a)
def QCG(a:Nd)(b:Nat):List D:=[ZI (GI (QCF a) b)]
def QCH(a:Nd):D:=D.sl N1 (Qri a) (fun (i:Nat)=>QCG a i) Mode.any
def QCI(a:Nd):List Arr:=Arr.it (QjU a)
def Qrj(a:Nd):Nat:=LN (QCI a)
def Qgr:Arr:=DA
def QCJ(a:Nd)(b:Nat):List D:=Arr.row (List.getD (QCI a) b Qgr)
def QCK(a:Nd):D:=D.sl N4 (Qrj a) (fun (i:Nat)=>QCJ a i) Mode.any
def QCL(a:Nd):List D:=[D.agg [QCB a,QCE a,QCH a,QCK a]]
def Jg(a:Nd):List UInt8:=showN a
def JV:Prop:=True∧True
def Qrk(a:Nd):List UInt8:=Nd.tx a
def QjV(a:Nd):Int:=Nd.pr a
def QjW(a:Nd):Int:=Nd.op a
def Qha(a:Nd):List Nd:=Nd.ki a
def QgJ(a:Nd):Nat:=LN (Qha a)
def Yi:Nd:=Nd.mk Z0 Z0 Z0 [] Z0 Z0 Qgr [] [] Z0 Z0 Z0
def QCM(a:Nd)(b:Nat):List D:=Nd.row1 (List.getD (Qha a) b Yi)
def QiZ(a:Nd):D:=D.sl (15:Nat) (QgJ a) (fun (i:Nat)=>QCM a i) Mode.any
def QCN:List (List D):=[[ZI (4:Int)],[ZI (5:Int)]]
def QCO(a:Nat):List D:=List.getD ([ZI (3:Int)]::QCN) a []
def QCP:List Int:=intsD (3:Nat) fun (i:Nat)=>QCO i
def QCQ(a:Nd):List UInt8:=Lib.join (List.map (withN QCP) (Qha a)) [(32:UInt8)]
def QjX(a:Nd):Int:=(NI (QgJ a))
def Ji(a:Nat)(b:Nd):Prop:=SM a∧SM (QiZ b)
def HC(a:Nd):Nd:=List.getD (Qha a) N0 Yi
def QmR(a:Nd):Arr:=Nd.va (HC a)
def QLk(a:Nd):List Int:=Arr.sh (QmR a)
def QLl(a:Nd):List Int:=Arr.nu (QmR a)
def QCR(a:Nd):List Arr:=Arr.it (QmR a)
def QCS(a:Nd):List Nd:=Nd.ki (HC a)
def QCT(a:Nd):List Sm:=Nd.bo (HC a)
def Qgs:Sm:=Sm.mk Z0 Z0 [] Z0 Yi Yi
def QCU:List Int:=intsD N1 fun (i:Nat)=>List.getD [[ZI (16:Int)]] i []
def QCV(a b:Nd)(c:Nd→Prop):Prop:=wkL [D.agg [ZI (Nd.kd (HC a)),ZI (Nd.at_ (HC a)),ZI (Nd.cl (HC a)),D.str (Nd.tx (HC a)),ZI (Nd.pr (HC a)),ZI (Nd.op (HC a)),ZI (Arr.k (QmR a)),SI (QLk a),SI (QLl a),D.sl N4 (LN (QCR a)) (fun (i:Nat)=>Arr.row (List.getD (QCR a) i Qgr)) Mode.any,D.sl (15:Nat) (LN (QCS a)) (fun (i:Nat)=>Nd.row (List.getD (QCS a) i Yi)) Mode.any,D.sl (34:Nat) (LN (QCT a)) (fun (i:Nat)=>Sm.row (List.getD (QCT a) i Qgs)) Mode.any,ZI (Nd.de (HC a)),ZI (Nd.sl (HC a)),ZI (Nd.ss (HC a))],D.sl N1 N1 (fun (i:Nat)=>List.getD [[ZI (16:Int)]] i []) Mode.full] [D.agg (Nd.row1 b),SI QCU]∧N1≤(9223372036854775807:Nat)∧c b
def Qrl(a:Nd):List UInt8:=withN QCU a
def QCW(a:Nd):Nat:=LN (Qrl a)
def HD(a:Nd):Nd:=List.getD (Qha a) N1 Yi
def QmS(a:Nd):Arr:=Nd.va (HD a)
def QLm(a:Nd):List Int:=Arr.sh (QmS a)
def QLn(a:Nd):List Int:=Arr.nu (QmS a)
def QCX(a:Nd):List Arr:=Arr.it (QmS a)
def QCY(a:Nd):List Nd:=Nd.ki (HD a)
def QCZ(a:Nd):List Sm:=Nd.bo (HD a)
def QC0(a:Nd):D:=D.agg [ZI (Nd.kd (HD a)),ZI (Nd.at_ (HD a)),ZI (Nd.cl (HD a)),D.str (Nd.tx (HD a)),ZI (Nd.pr (HD a)),ZI (Nd.op (HD a)),ZI (Arr.k (QmS a)),SI (QLm a),SI (QLn a),D.sl N4 (LN (QCX a)) (fun (i:Nat)=>Arr.row (List.getD (QCX a) i Qgr)) Mode.any,D.sl (15:Nat) (LN (QCY a)) (fun (i:Nat)=>Nd.row (List.getD (QCY a) i Yi)) Mode.any,D.sl (34:Nat) (LN (QCZ a)) (fun (i:Nat)=>Sm.row (List.getD (QCZ a) i Qgs)) Mode.any,ZI (Nd.de (HD a)),ZI (Nd.sl (HD a)),ZI (Nd.ss (HD a))]
def QC1(a:Nd):List UInt8:=Qrl a++[(32:UInt8)]
def QC2(a:Nat):List D:=List.getD QCN a []
def QC3:List Int:=intsD N2 fun (i:Nat)=>QC2 i
def QC4(a b:Nd)(c:Nd→Prop):Prop:=wkL [QC0 a,D.sl N1 N2 (fun (i:Nat)=>QC2 i) Mode.full] [D.agg (Nd.row1 b),SI QC3]∧N2≤(9223372036854775807:Nat)∧c b
def QC5(a:Nd):List UInt8:=withN QC3 a
def QC6(a:Nd):Nat:=LN (QC5 a)+N1
def QC7(a:Nd):List UInt8:=QC5 a++[(32:UInt8)]
def QC8(a b:Nd):List UInt8:=QC7 a++Qrl b
def HE(a:Nd):Nd:=List.getD (Qha a) N2 Yi
def QmT(a:Nd):Arr:=Nd.va (HE a)
def QLo(a:Nd):List Int:=Arr.sh (QmT a)
def QLp(a:Nd):List Int:=Arr.nu (QmT a)
def QC9(a:Nd):List Arr:=Arr.it (QmT a)
def QDa(a:Nd):List Nd:=Nd.ki (HE a)
def QDb(a:Nd):List Sm:=Nd.bo (HE a)
def QDc(a b:Nd):List UInt8:=QC8 a b++[(32:UInt8)]
def QDd(a:Nd)(b:Nd→Prop)(c:Nat)(d:Nd):Prop:=∃(x:Nd),QCV a x b∧∀(_y:Unit),True→Ji c a∧side (LN (QC7 d)+QCW x≤(9223372036854775807:Nat)) (side (LN (QC8 d x)+N1≤(9223372036854775807:Nat)) (∃(x_1:Nd),(isN x_1 [D.agg [ZI (Nd.kd (HE a)),ZI (Nd.at_ (HE a)),ZI (Nd.cl (HE a)),D.str (Nd.tx (HE a)),ZI (Nd.pr (HE a)),ZI (Nd.op (HE a)),ZI (Arr.k (QmT a)),SI (QLo a),SI (QLp a),D.sl N4 (LN (QC9 a)) (fun (i:Nat)=>Arr.row (List.getD (QC9 a) i Qgr)) Mode.any,D.sl (15:Nat) (LN (QDa a)) (fun (i:Nat)=>Nd.row (List.getD (QDa a) i Yi)) Mode.any,D.sl (34:Nat) (LN (QDb a)) (fun (i:Nat)=>Sm.row (List.getD (QDb a) i Qgs)) Mode.any,ZI (Nd.de (HE a)),ZI (Nd.sl (HE a)),ZI (Nd.ss (HE a))]] []∧b x_1)∧∀(_y:Unit),True→side (LN (QDc d x)+LN (Jg x_1)≤(9223372036854775807:Nat)) (True∧∃(_y:Unit),True∧QDc d x++Jg x_1=Jg a∧JV)))
def QDe(a:Nat)(b:Nd)(c:Nd→Prop):Prop:=Ji a b∧Ji a b∧Ji a b∧∃(x:Nd),QC4 b x c∧∀(_y:Unit),True→Ji a b∧Ji a b∧side (QC6 x≤(9223372036854775807:Nat)) (QDd b c a x)
def QDf(a:Nat):List D:=List.getD [[ZI (4:Int)],[ZI (5:Int)],[ZI (16:Int)]] a []
def QDg:List Int:=intsD (3:Nat) fun (i:Nat)=>QDf i
def QDh(a:Nd):List UInt8:=Lib.join (List.map (withN QDg) (Qha a)) [(32:UInt8)]
def QDi(a:Nd):Int:=Nd.at_ a
def QDj(a:Nd):Int:=Nd.cl a
def QmU(a:Nd):List Sm:=Nd.bo a
def Qhb(a:Nd):Nat:=LN (QmU a)
def Qi0(a:Nd)(b:Nat):Sm:=List.getD (QmU a) b Qgs
def HF(a:Nd)(b:Nat):Nd:=Sm.te (Qi0 a b)
def QmV(a:Nd)(b:Nat):Arr:=Nd.va (HF a b)
def QLq(a:Nd)(b:Nat):List Int:=Arr.sh (QmV a b)
def QLr(a:Nd)(b:Nat):List Int:=Arr.nu (QmV a b)
def QDk(a:Nd)(b:Nat):List Arr:=Arr.it (QmV a b)
def QDl(a:Nd)(b:Nat):List Nd:=Nd.ki (HF a b)
def QDm(a:Nd)(b:Nat):List Sm:=Nd.bo (HF a b)
def HG(a:Nd)(b:Nat):Nd:=Sm.nd (Qi0 a b)
def QmW(a:Nd)(b:Nat):Arr:=Nd.va (HG a b)
def QLs(a:Nd)(b:Nat):List Int:=Arr.sh (QmW a b)
def QLt(a:Nd)(b:Nat):List Int:=Arr.nu (QmW a b)
def QDn(a:Nd)(b:Nat):List Arr:=Arr.it (QmW a b)
def QDo(a:Nd)(b:Nat):List Nd:=Nd.ki (HG a b)
def QDp(a:Nd)(b:Nat):List Sm:=Nd.bo (HG a b)
def QDq(a:Nd)(b:Nat):List D:=[ZI (Sm.kd (Qi0 a b)),ZI (Sm.at_ (Qi0 a b)),D.str (Sm.nm (Qi0 a b)),ZI (Sm.sl (Qi0 a b)),ZI (Nd.kd (HF a b)),ZI (Nd.at_ (HF a b)),ZI (Nd.cl (HF a b)),D.str (Nd.tx (HF a b)),ZI (Nd.pr (HF a b)),ZI (Nd.op (HF a b)),ZI (Arr.k (QmV a b)),SI (QLq a b),SI (QLr a b),D.sl N4 (LN (QDk a b)) (fun (i:Nat)=>Arr.row (List.getD (QDk a b) i Qgr)) Mode.any,D.sl (15:Nat) (LN (QDl a b)) (fun (i:Nat)=>Nd.row (List.getD (QDl a b) i Yi)) Mode.any,D.sl (34:Nat) (LN (QDm a b)) (fun (i:Nat)=>Sm.row (List.getD (QDm a b) i Qgs)) Mode.any,ZI (Nd.de (HF a b)),ZI (Nd.sl (HF a b)),ZI (Nd.ss (HF a b)),ZI (Nd.kd (HG a b)),ZI (Nd.at_ (HG a b)),ZI (Nd.cl (HG a b)),D.str (Nd.tx (HG a b)),ZI (Nd.pr (HG a b)),ZI (Nd.op (HG a b)),ZI (Arr.k (QmW a b)),SI (QLs a b),SI (QLt a b),D.sl N4 (LN (QDn a b)) (fun (i:Nat)=>Arr.row (List.getD (QDn a b) i Qgr)) Mode.any,D.sl (15:Nat) (LN (QDo a b)) (fun (i:Nat)=>Nd.row (List.getD (QDo a b) i Yi)) Mode.any,D.sl (34:Nat) (LN (QDp a b)) (fun (i:Nat)=>Sm.row (List.getD (QDp a b) i Qgs)) Mode.any,ZI (Nd.de (HG a b)),ZI (Nd.sl (HG a b)),ZI (Nd.ss (HG a b))]
def QDr(a:Nd):D:=D.sl (34:Nat) (Qhb a) (fun (i:Nat)=>QDq a i) Mode.any
def QDs(a:Nd):Int:=Nd.de a
def QDt(a:Nd):Int:=Nd.sl a
def QDu(a:Nd):Int:=Nd.ss a
def QDv(a:Nd):D:=D.agg [ZI (Jf a),ZI (QDi a),ZI (QDj a),D.str (Qrk a),ZI (QjV a),ZI (QjW a),QCB a,QCE a,QCH a,QCK a,QiZ a,QDr a,ZI (QDs a),ZI (QDt a),ZI (QDu a)]
def QDw(a:Nat)(b:Nd):Prop:=SM a∧∃(_x:Unit),(isN2 b [QDv b] []∧N2≤QgJ b∧(Jf b=(15:Int)→QgJ b=(3:Nat)))∧∀(_y:Unit),True→True∧∃(_y:Unit),True∧dervT b=Jg b∧JV
def Qrm(a:Nat)(b:Nd)(c:List (List UInt8)):Prop:=a≤Qhb b∧c=List.map showM (List.take a (QmU b))
def QjY(a:List (List UInt8))(b:Nat):List D:=[D.str (List.getD a b [])]
def QDx(a:Nat)(b:Nd)(c d:Nat):Prop:=(SM a∧(SM (Jf b)∧SM (QDi b)∧SM (QDj b)∧SM (Qrk b)∧SM (QjV b)∧SM (QjW b)∧SM (QCA b)∧(SM (Qrh b)∧(∀(i:Nat),i<Qrh b→SM (QCD b i))∧True)∧(SM (Qri b)∧(∀(i:Nat),i<Qri b→SM (QCG b i))∧True)∧(SM (Qrj b)∧(∀(i:Nat),i<Qrj b→SM (QCJ b i))∧True)∧(SM (QgJ b)∧(∀(i:Nat),i<QgJ b→SM (QCM b i))∧True)∧(SM (Qhb b)∧(∀(i:Nat),i<Qhb b→SM (QDq b i))∧True)∧SM (QDs b)∧SM (QDt b)∧SM (QDu b)∧True)∧True)∧c=d∧True
def Qrn(a:Nd):Int:=(NI (Qhb a))
def Qi1(a:Nd)(b:Nat):Sm:=List.getD (QmU a) (Int.toNat (↑b:Int)) Qgs
def HH(a:Nd)(b:Nat):Nd:=Sm.te (Qi1 a b)
def QmX(a:Nd)(b:Nat):Arr:=Nd.va (HH a b)
def QLu(a:Nd)(b:Nat):List Int:=Arr.sh (QmX a b)
def QLv(a:Nd)(b:Nat):List Int:=Arr.nu (QmX a b)
def QDy(a:Nd)(b:Nat):List Arr:=Arr.it (QmX a b)
def QDz(a:Nd)(b:Nat):List Nd:=Nd.ki (HH a b)
def QDA(a:Nd)(b:Nat):List Sm:=Nd.bo (HH a b)
def HI(a:Nd)(b:Nat):Nd:=Sm.nd (Qi1 a b)
def QmY(a:Nd)(b:Nat):Arr:=Nd.va (HI a b)
def QLw(a:Nd)(b:Nat):List Int:=Arr.sh (QmY a b)
def QLx(a:Nd)(b:Nat):List Int:=Arr.nu (QmY a b)
def QDB(a:Nd)(b:Nat):List Arr:=Arr.it (QmY a b)
def QDC(a:Nd)(b:Nat):List Nd:=Nd.ki (HI a b)
def QDD(a:Nd)(b:Nat):List Sm:=Nd.bo (HI a b)
def QDE(a:List (List UInt8)):List (List UInt8):=strsOf (LN a) fun (i:Nat)=>QjY a i
def QDF(a:List (List UInt8)):List UInt8:=Lib.join (QDE a) [(32:UInt8),(59:UInt8),(32:UInt8)]
def QDG(a:List (List UInt8)):List UInt8:=List.append [] (QDF a)
def QDH(a:Nat)(b:Nd)(c:Sm→Prop):Prop:=SM a∧∀(t:Nat),(∃(x:Nat×Nat×List (List UInt8)),Qrm x.1 b x.2.2∧(Z0=(NI x.1)∧(N0=LN x.2.2∧(∀(i:Nat),i<N0→eqOf (List D) [] (QjY x.2.2 i))∧t=x.2.1)∧True)∧QDx a b t x.2.1)∧∀(x:Nat×Nat×List (List UInt8)),Qrm x.1 b x.2.2→ifB (decide ((NI x.1)<Qrn b)) (side (Z0≤(NI x.1)∧(NI x.1)<Qrn b) (∀(x_1:Nat),a≠x_1∧True→SM x_1∧SM x_1∧∃(x_2:Sm),(isS x_2 [D.agg [ZI (Sm.kd (Qi1 b x.1)),ZI (Sm.at_ (Qi1 b x.1)),D.str (Sm.nm (Qi1 b x.1)),ZI (Sm.sl (Qi1 b x.1)),ZI (Nd.kd (HH b x.1)),ZI (Nd.at_ (HH b x.1)),ZI (Nd.cl (HH b x.1)),D.str (Nd.tx (HH b x.1)),ZI (Nd.pr (HH b x.1)),ZI (Nd.op (HH b x.1)),ZI (Arr.k (QmX b x.1)),SI (QLu b x.1),SI (QLv b x.1),D.sl N4 (LN (QDy b x.1)) (fun (i:Nat)=>Arr.row (List.getD (QDy b x.1) i Qgr)) Mode.any,D.sl (15:Nat) (LN (QDz b x.1)) (fun (i:Nat)=>Nd.row (List.getD (QDz b x.1) i Yi)) Mode.any,D.sl (34:Nat) (LN (QDA b x.1)) (fun (i:Nat)=>Sm.row (List.getD (QDA b x.1) i Qgs)) Mode.any,ZI (Nd.de (HH b x.1)),ZI (Nd.sl (HH b x.1)),ZI (Nd.ss (HH b x.1)),ZI (Nd.kd (HI b x.1)),ZI (Nd.at_ (HI b x.1)),ZI (Nd.cl (HI b x.1)),D.str (Nd.tx (HI b x.1)),ZI (Nd.pr (HI b x.1)),ZI (Nd.op (HI b x.1)),ZI (Arr.k (QmY b x.1)),SI (QLw b x.1),SI (QLx b x.1),D.sl N4 (LN (QDB b x.1)) (fun (i:Nat)=>Arr.row (List.getD (QDB b x.1) i Qgr)) Mode.any,D.sl (15:Nat) (LN (QDC b x.1)) (fun (i:Nat)=>Nd.row (List.getD (QDC b x.1) i Yi)) Mode.any,D.sl (34:Nat) (LN (QDD b x.1)) (fun (i:Nat)=>Sm.row (List.getD (QDD b x.1) i Qgs)) Mode.any,ZI (Nd.de (HI b x.1)),ZI (Nd.sl (HI b x.1)),ZI (Nd.ss (HI b x.1))]] []∧c x_2)∧∀(_y:Unit),True→SM x.2.1∧side ((LN x.2.2+N1)*(16:Nat)≤(140737488355328:Nat)∧LN x.2.2+N1≤(9223372036854775807:Nat)) (∀(t:Nat),(SM (QDv b)∧SM (D.ref N0 a N0)∧SM (QDr b)∧SM (ZI (Qrn b))∧True)∧∃(y:Nat×Nat×List (List UInt8)),Qrm y.1 b y.2.2∧Qhb b-y.1<Qhb b-x.1∧(IntKind.wrap IntKind.i64 ((NI x.1)+Z1)=(NI y.1)∧(LN x.2.2+N1=LN y.2.2∧(∀(i:Nat),i<LN x.2.2+N1→appF (LN x.2.2) (fun (i:Nat)=>QjY x.2.2 i) (fun (i:Nat)=>[D.str (List.getD [showM x_2] i [])]) i=QjY y.2.2 i)∧t=y.2.1)∧True)∧QDx a b t y.2.1))) (((strsB (LN x.2.2) fun (i:Nat)=>QjY x.2.2 i)=true∧joinOk (QDE x.2.2) [(32:UInt8),(59:UInt8),(32:UInt8)])∧∀(_y:Unit),True→side (N2+LN (QDF x.2.2)≤(9223372036854775807:Nat)) (side (LN ((123:UInt8)::(32:UInt8)::QDG x.2.2)+N2≤(9223372036854775807:Nat)) (True∧∃(_y:Unit),True∧(123:UInt8)::(32:UInt8)::List.append (QDG x.2.2) [(32:UInt8),(125:UInt8)]=Jg b∧JV)))
theorem sh_step(n : Nd)(q : Nd → Prop)(qs : Sm → Prop)(hv : nodeV n=true)(ho : n.ok)(hz : szN n≤16384)(h : ∀b, q b → RShow b)(hq : ∀b∈n.ki, q b)(hs : ∀s, qs s → q s.nd ∧ (s.kd=3 → q s.te) ∧ s.nm.length≤maxB)(hqs : n.kd=10 → ∀s∈n.bo, qs s) :
  CD 44 [.agg n.row2] (.str (showN n)):=by
 refine con_of (A:=sC _ _) (x:=()) (E:=Eshn n q qs) (eOk (conShn_ok ho h hq hs) rfl) Tryz.func44 rfl (by kernel_rfl) rfl (by simp[sC,Eshn,EC,E0]) ?_
 refine vc_eq (T :=
  ∀(x:Nat),True→SM x∧ifB (Jf n==Z1) (SM x∧∃(x:Unit),wkL (QCL n) (QCL n)∧∀(y:Unit),True→True∧∃(y:Unit),True∧litF (QjU n)=Jg n∧JV) (ifB (Jf n==(2:Int)) (SM x∧True∧∃(y:Unit),True∧Qrk n=Jg n∧JV) (ifB (Jf n==(6:Int)) (True∧∃(y:Unit),True∧[(88:UInt8)]=Jg n∧JV) (ifB (Jf n==(7:Int)) (True∧∃(y:Unit),True∧[(89:UInt8)]=Jg n∧JV) (ifB (Jf n==(8:Int)) (True∧∃(y:Unit),True∧[(97:UInt8),(114:UInt8),(103:UInt8)]=Jg n∧JV) (ifB (Jf n==(11:Int)) (True∧∃(y:Unit),True∧[(115:UInt8),(101:UInt8),(108:UInt8),(102:UInt8)]=Jg n∧JV) (ifB (Jf n==(12:Int)) (True∧∃(y:Unit),True∧[(70:UInt8)]=Jg n∧JV) (ifB (Jf n==(13:Int)) (True∧∃(y:Unit),True∧[(71:UInt8)]=Jg n∧JV) (ifB (Jf n==(9:Int)) (SM x∧∃(x:Unit),wkL [ZI (QjV n)] [ZI (QjV n)]∧∀(y:Unit),True→True∧∃(y:Unit),True∧primT (QjV n)=Jg n∧JV) (ifB (Jf n==(17:Int)) (SM x∧∃(x:Unit),wkL [ZI (QjW n)] [ZI (QjW n)]∧∀(y:Unit),True→True∧∃(y:Unit),True∧opT (QjW n)=Jg n∧JV) (ifB (Jf n==(3:Int)) (SM x∧∃(x:Unit),(wkL [QiZ n,D.sl N1 (3:Nat) (fun (i:Nat)=>QCO i) Mode.full] [QiZ n,SI QCP]∧(3:Nat)≤(9223372036854775807:Nat)∧QgJ n≤(1000000:Nat)∧LN (QCQ n)≤(20000000000000:Nat))∧∀(y:Unit),True→True∧∃(y:Unit),True∧QCQ n=Jg n∧JV) (ifB (Jf n==(4:Int)) (SM x∧side (Z0≤Z0∧Z0<QjX n) (SM x∧side (Z0≤Z1∧Z1<QjX n) (Ji x n∧Ji x n∧∃(x_1:Nd),QCV n x_1 q∧∀(y:Unit),True→Ji x n∧side (QCW x_1+N1≤(9223372036854775807:Nat)) (∃(x:Nd),(isN x [QC0 n] []∧q x)∧∀(y:Unit),True→side (LN (QC1 x_1)+LN (Jg x)≤(9223372036854775807:Nat)) (True∧∃(y:Unit),True∧QC1 x_1++Jg x=Jg n∧JV))))) (ifB (Jf n==(5:Int)) (SM x∧side (Z0≤Z1∧Z1<QjX n) (SM x∧side (Z0≤Z0∧Z0<QjX n) (SM x∧side (Z0≤(2:Int)∧(2:Int)<QjX n) ((Ji x n∧Ji x n∧Ji x n∧(∃(x_1:Nd),QC4 n x_1 q∧∀(y:Unit),True→Ji x n∧Ji x n∧side (QC6 x_1≤(9223372036854775807:Nat)) (Ji x n∧Ji x n∧QDd n q x x_1))∧QDe x n q)∧Ji x n∧Ji x n∧Ji x n∧QDe x n q)))) (ifB (Jf n==(16:Int)) (SM x∧∃(x:Unit),(wkL [QiZ n,D.sl N1 (3:Nat) (fun (i:Nat)=>QDf i) Mode.full] [QiZ n,SI QDg]∧(3:Nat)≤(9223372036854775807:Nat)∧QgJ n≤(1000000:Nat)∧LN (QDh n)≤(20000000000000:Nat))∧∀(y:Unit),True→True∧∃(y:Unit),True∧QDh n=Jg n∧JV) (ifB (Jf n==(14:Int)) (ifB (Jf n==(14:Int)) (QDw x n) (QDH x n qs)) (ifB (Jf n==(15:Int)) (QDw x n) (QDH x n qs))))))))))))))))) (by kernel_rfl) ?_
 delta DA GI LN N0 N1 N2 N4 NI SI SM Z0 Z1 ZI Jf QjU QCG QDw Qrm QjY QDx Qrn Qi1 HH QmX QLu QLv QCH QDy QDz QDA HI QmY QLw QLx QDB QDC QDD QCI QDE QDF QDG QDH Qrj Qgr QCJ QCK QCL Jg JV QCA Qrk QjV QjW Qha QgJ Yi QCM QiZ QCN QCO QCB QCP QCQ QjX Ji HC QmR QLk QLl QCR QCS QCC QCT Qgs QCU QCV Qrl QCW HD QmS QLm QLn Qrh QCX QCY QCZ QC0 QC1 QC2 QC3 QC4 QC5 QC6 QCD QC7 QC8 HE QmT QLo QLp QC9 QDa QDb QDc QCE QDd QDe QDf QDg QDh QDi QDj QmU Qhb Qi0 QCF HF QmV QLq QLr QDk QDl QDm HG QmW QLs Qri QLt QDn QDo QDp QDq QDr QDs QDt QDu QDv
 try simp only[← dm]
 try simp only[← dn]
 simp only[ne_eq,implies_true,Int.toNat_natCast,ifB_iff,side_iff,decide_eq_true_eq,decide_eq_false_iff_not,true_and,and_true,beq_iff_eq,beq_eq_false_iff_ne,exists_const,forall_const,Prod.exists]
 have i1:intsD 1 (fun i=>[[D.int IntKind.i64 16]].getD i [])=[16]:=rfl
 have i2:intsD 2 (fun i=>[[D.int IntKind.i64 4],[D.int IntKind.i64 5]].getD i [])=[4,5]:=rfl
 have i3:∀a b c:Int,intsD 3 (fun i=>[[D.int IntKind.i64 a],[D.int IntKind.i64 b],[D.int IntKind.i64 c]].getD i [])=[a,b,c]:=fun _ _ _=>rfl
 have p1:IntsP 1 (fun i=>[[D.int IntKind.i64 16]].getD i []):=fun i hi=>by
  match i,hi with
  |0,_=>rfl
 have p2:IntsP 2 (fun i=>[[D.int IntKind.i64 4],[D.int IntKind.i64 5]].getD i []):=fun i hi=>by
  match i,hi with
  |0,_=>rfl
  |1,_=>rfl
 have p3:∀a b c:Int,IntsP 3 (fun i=>[[D.int IntKind.i64 a],[D.int IntKind.i64 b],[D.int IntKind.i64 c]].getD i []):=fun _ _ _ i hi=>by
  match i,hi with
  |0,_=>rfl
  |1,_=>rfl
  |2,_=>rfl
 obtain ⟨L2,L3,_⟩:=comp_len hv
 have kq:∀i,i<n.ki.length→q (n.ki.getD i default):=fun i hi=>hq _ (nd_getD hi)
 have wl:∀(ks:List Int) (b:Nd),q b→(withN ks b).length≤20000000000004:=fun ks b hb=>by
  have h1:=withT_len ks b.kd (showN b)
  have h2:=(h b hb).2
  unfold withN
  omega
 have sg:∀i,i<n.ki.length→(showL n.ki).getD i []=showN (n.ki.getD i default):=fun i hi=>showL_getD hi
 have hlen:=show_len n hv ho
 have hkl:n.ki.length≤szL n.ki:=by
  have:∀l:List Nd,l.length≤szL l:=fun l=>by
   induction l with
   |nil=>simp[szL]
   |cons a r ih=>have:=szN_pos a;simp only[List.length_cons,szL];omega
  exact this _
 have hsz:=szN_eq n
 have hbl:n.bo.length≤szB n.bo:=by
  have:∀l:List Sm,l.length≤szB l:=fun l=>by
   induction l with
   |nil=>simp[szB]
   |cons a r ih =>
    have:=szN_pos a.nd
    have e:=szM_eq a
    simp only[List.length_cons,szB]
    split at e<;>omega
  exact this _
 simp only[i1,i2,i3]
 rw[showN_eq] at hlen ⊢
 refine fun x=>⟨fun k=>?_,fun n1=>⟨fun k=>?_,fun n2=>⟨fun k=>?_,fun n6=>⟨fun k=>?_,fun n7=>⟨fun k=>?_,fun n8=>⟨fun k=>?_,fun n11=>⟨fun k=>?_,fun n12=>⟨fun k=>?_,fun n13=>⟨fun k=>?_,fun n9=>⟨fun k=>?_,fun n17=>⟨fun k=>?_,fun n3=>⟨fun k=>?_,fun n4=>⟨fun k=>?_,fun n5=>⟨fun k=>?_,fun n16=>⟨fun k=>⟨fun _=>?_,fun e=>(e k).elim⟩,fun n14=>⟨fun k=>?_,fun n15=>?_⟩⟩⟩⟩⟩⟩⟩⟩⟩⟩⟩⟩⟩⟩⟩⟩
 ·exact⟨wkL_refl _,by rw[if_pos k]⟩
 ·rw[if_neg n1,if_pos k]
 ·rw[if_neg n1,if_neg n2,if_pos k]
 ·rw[if_neg n1,if_neg n2,if_neg n6,if_pos k]
 ·rw[if_neg n1,if_neg n2,if_neg n6,if_neg n7,if_pos k]
 ·rw[if_neg n1,if_neg n2,if_neg n6,if_neg n7,if_neg n8,if_pos k]
 ·rw[if_neg n1,if_neg n2,if_neg n6,if_neg n7,if_neg n8,if_neg n11,if_pos k]
 ·rw[if_neg n1,if_neg n2,if_neg n6,if_neg n7,if_neg n8,if_neg n11,if_neg n12,if_pos k]
 ·exact⟨wkL_refl _,by rw[if_neg n1,if_neg n2,if_neg n6,if_neg n7,if_neg n8,if_neg n11,if_neg n12,if_neg n13,if_pos k]⟩
 ·exact⟨wkL_refl _,by rw[if_neg n1,if_neg n2,if_neg n6,if_neg n7,if_neg n8,if_neg n11,if_neg n12,if_neg n13,if_neg n9,if_pos k]⟩
 ·rw[if_neg n1,if_neg n2,if_neg n6,if_neg n7,if_neg n8,if_neg n11,if_neg n12,if_neg n13,if_neg n9,if_neg n17,if_pos k] at hlen ⊢
  exact⟨⟨cls_arg2 (p3 _ _ _),by omega,by omega,by omega⟩,rfl⟩
 ·rw[if_neg n1,if_neg n2,if_neg n6,if_neg n7,if_neg n8,if_neg n11,if_neg n12,if_neg n13,if_neg n9,if_neg n17,if_neg n3,if_pos k]
  have hL:n.ki.length=2:=L2 (.inl k)
  have q0:=kq 0 (by omega)
  have q1:=kq 1 (by omega)
  have r0:=(h _ q0).2
  have r1:=(h _ q1).2
  have w0:=wl [16] _ q0
  have w1:=wl [4,5] _ q1
  rw[sg 0 (by omega),sg 1 (by omega)]
  repeat' (first
   |refine⟨n.ki.getD 0 default,⟨cls_arg (r:=(n.ki.getD 0 default).row1) p1,by omega,q0⟩,?_⟩
   |refine⟨n.ki.getD 1 default,⟨cls_arg (r:=(n.ki.getD 1 default).row1) p2,by omega,q1⟩,?_⟩
   |refine⟨n.ki.getD 0 default,⟨nd_self _ _,q0⟩,?_⟩
   |refine⟨n.ki.getD 1 default,⟨nd_self _ _,q1⟩,?_⟩
   |refine And.intro ?_ ?_)
  all_goals first
   |rfl
   |omega
   |(simp only[List.length_append,List.length_cons,List.length_nil];omega)
 ·rw[if_neg n1,if_neg n2,if_neg n6,if_neg n7,if_neg n8,if_neg n11,if_neg n12,if_neg n13,if_neg n9,if_neg n17,if_neg n3,if_neg n4,if_pos k]
  have hL:n.ki.length=3:=L3 (.inl k)
  have q0:=kq 0 (by omega)
  have q1:=kq 1 (by omega)
  have r0:=(h _ q0).2
  have r1:=(h _ q1).2
  have w0:=wl [16] _ q0
  have w1:=wl [4,5] _ q1
  have q2:=kq 2 (by omega)
  have r2:=(h _ q2).2
  rw[sg 0 (by omega),sg 1 (by omega),sg 2 (by omega)]
  repeat' (first
   |refine⟨n.ki.getD 0 default,⟨cls_arg (r:=(n.ki.getD 0 default).row1) p1,by omega,q0⟩,?_⟩
   |refine⟨n.ki.getD 1 default,⟨cls_arg (r:=(n.ki.getD 1 default).row1) p2,by omega,q1⟩,?_⟩
   |refine⟨n.ki.getD 0 default,⟨nd_self _ _,q0⟩,?_⟩
   |refine⟨n.ki.getD 1 default,⟨nd_self _ _,q1⟩,?_⟩
   |refine⟨n.ki.getD 2 default,⟨nd_self _ _,q2⟩,?_⟩
   |refine And.intro ?_ ?_)
  all_goals first
   |rfl
   |omega
   |(simp only[List.length_append,List.length_cons,List.length_nil];omega)
 ·rw[if_neg n1,if_neg n2,if_neg n6,if_neg n7,if_neg n8,if_neg n11,if_neg n12,if_neg n13,if_neg n9,if_neg n17,if_neg n3,if_neg n4,if_neg n5,if_pos k] at hlen ⊢
  exact⟨⟨cls_arg2 (p3 _ _ _),by omega,by omega,by omega⟩,rfl⟩
 ·rw[if_neg n1,if_neg n2,if_neg n6,if_neg n7,if_neg n8,if_neg n11,if_neg n12,if_neg n13,if_neg n9,if_neg n17,if_neg n3,if_neg n4,if_neg n5,if_neg n16,if_pos k]
  have hL:=(L2 (.inr k))
  refine⟨⟨nd2_self n _,by omega,fun e=>L3 (.inr e)⟩,?_⟩
  unfold dervT
  rw[sg 0 (by omega),sg 1 (by omega),if_neg (by omega)]
  rfl
 ·rw[if_neg n1,if_neg n2,if_neg n6,if_neg n7,if_neg n8,if_neg n11,if_neg n12,if_neg n13,if_neg n9,if_neg n17,if_neg n3,if_neg n4,if_neg n5,if_neg n16,if_neg n14,if_pos k]
  have hL:=(L3 (.inr k))
  refine⟨⟨nd2_self n _,by omega,fun e=>L3 (.inr e)⟩,?_⟩
  unfold dervT
  rw[sg 0 (by omega),sg 1 (by omega),sg 2 (by omega),if_pos k]
  simp only[List.append_assoc]
  rfl
 ·have k10:n.kd=10:=by
   by_cases hk:n.kd=10
   ·exact hk
   ·rcases kind_cases hv hk with hc | ⟨hc,_⟩
    ·unfold leafB at hc
     simp[n1,n2,n6,n7,n8,n9,n11,n12,n13,n17] at hc
    ·unfold compB at hc
     simp[n3,n4,n5,n14,n15,n16] at hc
  rw[if_neg n1,if_neg n2,if_neg n6,if_neg n7,if_neg n8,if_neg n11,if_neg n12,if_neg n13,if_neg n9,if_neg n17,if_neg n3,if_neg n4,if_neg n5,if_neg n16,if_neg n14,if_neg n15] at hlen ⊢
  refine fun t=>⟨⟨0,t,[],⟨Nat.zero_le _,rfl⟩,⟨rfl,rfl,fun i hi=>absurd hi (Nat.not_lt_zero _),rfl⟩,rfl⟩,?_⟩
  rintro ⟨i,tk,out⟩ ⟨hi,hout⟩
  simp only at hi hout ⊢
  have hol:out.length=i:=by rw[hout,List.length_map,List.length_take];omega
  refine⟨fun hlt=>?_,fun hge=>?_⟩
  ·have hlt':i<n.bo.length:=by omega
   refine⟨⟨by omega,hlt⟩,fun _ _=>⟨n.bo.getD i default,⟨sm_self _ _,hqs k10 _ (sm_getD hlt')⟩,⟨by omega,by omega⟩,fun t2=>⟨i+1,t2,out++[showM (n.bo.getD i default)],⟨hlt',?_⟩,by omega,⟨?_,by simp,fun j hj=>app_str j hj,rfl⟩,rfl⟩⟩⟩
   ·rw[take_step hlt',List.map_append,hout];rfl
   ·rw[wrap_i64' (by omega) (by omega)];rfl
  ·have e:i=n.bo.length:=by omega
   rw[e,List.take_length] at hout
   have e1:strsOf out.length (fun i=>[D.str (out.getD i [])])=out:=strsOf_eq rfl fun _ _=>rfl
   have e2:strsB out.length (fun i=>[D.str (out.getD i [])])=true:=strsB_eq rfl fun _ _=>rfl
   rw[e1,hout]
   rw[hout] at e2
   simp only[List.length_append,List.length_cons,List.length_nil] at hlen
   refine⟨⟨e2,?_,by omega⟩,by omega,?_,?_⟩
   ·rw[List.length_map];omega
   ·simp only[List.length_cons,List.append_eq,List.nil_append];omega
   ·rfl
theorem check_zero{n:Nd}:checkN n=0↔dpN n≤60∧szN n≤16384∧nodeV n=true:=by
 unfold checkN
 by_cases h1:60<dpN n
 ·rw[if_pos h1];exact⟨fun h=>by omega,fun h=>by omega⟩
 rw[if_neg h1]
 by_cases h2:16384<szN n
 ·rw[if_pos h2];exact⟨fun h=>by omega,fun h=>by omega⟩
 rw[if_neg h2]
 by_cases h3:nodeV n=true
 ·rw[if_pos h3];exact⟨fun _=>⟨by omega,by omega,h3⟩,fun _=>rfl⟩
 ·rw[if_neg h3];exact⟨fun h=>by omega,fun h=>(h3 h.2.2).elim⟩
def oneN:Nd:=.mk 1 0 1 [] 0 0 (.mk 1 [] [1] []) [] [] 0 0 0
theorem sm_nm{s:Sm}(h:s.sm):s.nm.length≤maxB:=by
 cases s with
 |mk kd at_ nm sl te nd =>
  simp only[Sm.sm] at h
  exact h.1
theorem sh_ok(n:Nd)(hv:nodeV n=true)(ho:n.ok)(hn:n.sm)(hz:szN n≤16384):RShow n:=by
 have hl:=show_len n hv ho
 refine⟨sh_step n RShow (fun s=>RShow s.nd∧(s.kd=3→RShow s.te)∧s.nm.length≤maxB) hv ho hz (fun _ h=>h) (fun b hb=>?_) (fun _ h=>h) (fun hk s hs=>?_),by omega⟩
 ·have:=inner_sz (kid_inner hb)
  exact sh_ok b ((valid_kids hv).1 b hb) (ki_ok ho b hb) (sm_kid hn (kid_inner hb)) (by omega)
 ·have h1:=hv
  rw[nodeV_eq,Bool.and_eq_true,if_pos hk,Bool.and_eq_true] at h1
  have hb:=h1.2.2
  unfold bodyV at hb
  rw[Bool.and_eq_true] at hb
  obtain ⟨q1,q2⟩:=stmts_all hb.2 s hs
  have o:=sm_ok2 (bo_ok' ho s hs)
  have m:=sm_sm2 (sm_bo hn s hs)
  have i1:s.nd∈innerN n:=List.mem_append.2 (.inr (List.mem_flatMap.2 ⟨s,hs,by unfold partsS;split<;>simp⟩))
  have z1:=inner_sz i1
  refine⟨sh_ok s.nd q1 o.2 m.2 (by omega),fun h3=>?_,sm_nm (sm_bo hn s hs)⟩
  have i2:s.te∈innerN n:=List.mem_append.2 (.inr (List.mem_flatMap.2 ⟨s,hs,by unfold partsS;rw[if_pos h3];simp⟩))
  have z2:=inner_sz i2
  have hv2:nodeV s.te=true:=by
   rcases q2 with ⟨_,q,_⟩ | ⟨q,_⟩
   ·exact q
   ·exact (q h3).elim
  exact sh_ok s.te hv2 o.1 m.1 (by omega)
termination_by szN n
decreasing_by all_goals omega
def conSw(n:Nd):Con:=fun k ds S=>match k with
 |24=>some (pA ds S (.int .i64 (checkN n)) (isN n ds []))
 |44=>some (pA ds S (.str (showN n)) (isN n ds []∧checkN n=0))
 |_=>none
noncomputable def Esw(n:Nd):Senv:=EC (conSw n) 8 3 [5] (fun _=>([],[]))
def QmZ(a:Nd):Arr:=Nd.va a
def QLy(a:Nd):List Int:=Arr.sh (QmZ a)
def QLz(a:Nd):List Int:=Arr.nu (QmZ a)
def QDI(a:Nd):List Arr:=Arr.it (QmZ a)
def QDJ:Arr:=DA
def Qro:Nd:=Nd.mk Z0 Z0 Z0 [] Z0 Z0 QDJ [] [] Z0 Z0 Z0
def QDK(a:Nd):Prop:=isN a [D.agg [ZI (Nd.kd a),ZI (Nd.at_ a),ZI (Nd.cl a),D.str (Nd.tx a),ZI (Nd.pr a),ZI (Nd.op a),ZI (Arr.k (QmZ a)),SI (QLy a),SI (QLz a),D.sl N4 (LN (QDI a)) (fun (i:Nat)=>Arr.row (List.getD (QDI a) i QDJ)) Mode.any,D.sl (15:Nat) (LN (Nd.ki a)) (fun (i:Nat)=>Nd.row (List.getD (Nd.ki a) i Qro)) Mode.any,D.sl (34:Nat) (LN (Nd.bo a)) (fun (i:Nat)=>Sm.row (List.getD (Nd.bo a) i (Sm.mk Z0 Z0 [] Z0 Qro Qro))) Mode.any,ZI (Nd.de a),ZI (Nd.sl a),ZI (Nd.ss a)]] []
theorem sw_ok'(n:Nd)(ho:n.ok)(hn:n.sm):CD 20 [.agg n.row1] (.str (showNd n)):=by
 refine con_of (A:=sC _ _) (x:=()) (E:=Esw n) (eOk ?_ rfl) Tryz.func20 rfl (by kernel_rfl) rfl (by simp[sC,Esw,EC,E0]) ?_
 ·intro k ds S A hh
  try unfold conSw at hh
  try dsimp only at hh
  split at hh
  ·injection hh with hh;subst hh
   exact pA_ok fun e=>CD.at_ (CD.wk (ck_ok' n ho hn) e) _
  ·injection hh with hh;subst hh
   refine pA_ok fun ⟨e,h0⟩=>?_
   obtain ⟨_,h2,h3⟩:=check_zero.1 h0
   exact CD.at_ (CD.isN (sh_ok n h3 ho hn h2).1 e) _
  ·cases hh
 refine vc_eq (T :=
  ∀(x:Nat),True→SM x∧∃(x_1:Unit),QDK n∧∀(y:Unit),True→ifB (checkN n != Z0) (RT (eqOf (List UInt8) [] (showNd n))) (SM x∧∃(x:Unit),(QDK n∧checkN n=Z0)∧∀(y:Unit),True→RT (showN n=showNd n))) (by kernel_rfl) ?_
 delta DA GI LN N1 N4 SI SM Z0 ZI QmZ QLy QLz QDI QDJ Qro QDK RT
 try simp only[← dm]
 try simp only[← dn]
 simp only[ne_eq,ifB_iff,true_and,and_true,bne_iff_ne,bne_eq_false_iff_eq,exists_const,forall_const]
 unfold showNd
 refine⟨nd_self _ _,fun h=>?_,fun h=>⟨⟨nd_self _ _,h⟩,?_⟩⟩
 ·rw[if_neg h]
 ·rw[if_pos h]
def nilD:D:=.sl 1 0 (fun _=>[]) .nil
def litI:List Int→D
 | []=>nilD
 |z::l=>.sl 1 (l.length+1) (fun i=>((z::l).map fun z=>[D.int .i64 z]).getD i []) .full
def litR(w:Nat):List (List D)→D
 | []=>nilD
 |r::l=>.sl w (l.length+1) (fun i=>(r::l).getD i []) .full
def litT:List Arr→D
 | []=>nilD
 |a::l=>gsl 4 Arr.row (a::l)
mutual
def Nd.lit:Nd→List D
 |.mk kd at_ cl tx pr op va ki bo de sl ss=>[.int .i64 kd,.int .i64 at_,.int .i64 cl,.str tx,.int .i64 pr,.int .i64 op,.int .i64 va.k,litI va.sh,litI va.nu,litT va.it,litR 15 (ndLits ki),litR 34 (smLits bo),.int .i64 de,.int .i64 sl,.int .i64 ss]
def Sm.lit:Sm→List D
 |.mk kd at_ nm sl te nd=>.int .i64 kd::.int .i64 at_::.str nm::.int .i64 sl::(te.lit++nd.lit)
def ndLits:List Nd→List (List D)
 | []=>[]
 |x::r=>x.lit::ndLits r
def smLits:List Sm→List (List D)
 | []=>[]
 |x::r=>x.lit::smLits r
end
theorem litI_wk:∀l:List Int,wkD (litI l) (isl l .any)
 | []=>by simp[litI,nilD,isl,wkD,chk_iff,weakM]
 |z::l=>by
  simp only[litI,isl,wkD,chk_iff]
  refine⟨by simp,by simp,fun i hi=>?_,by simp[weakM]⟩
  have hi:i<(z::l).length:=by simpa using hi
  have e:((z::l).map fun z=>[D.int .i64 z]).getD i []=[D.int .i64 ((z::l).getD i 0)]:=by
   rw[List.getD_eq_getElem?_getD,List.getElem?_map,List.getD_eq_getElem?_getD,List.getElem?_eq_getElem hi]
   rfl
  rw[e]
  exact wkL_refl _
theorem litT_wk:∀l:List Arr,wkD (litT l) (gsl 4 Arr.row l)
 | []=>by simp[litT,nilD,gsl,wkD,chk_iff,weakM,nilMB]
 |a::l=>wkD_refl _
theorem litR_wk{w:Nat}:∀ {a b:List (List D)},a.length=b.length→(∀i,i<a.length→wkL (a.getD i []) (b.getD i []))→wkD (litR w a) (lsl w b)
 | [],[],_,_=>by simp[litR,nilD,lsl,wkD,chk_iff,weakM,nilMB]
 | [],_::_,h,_=>by simp at h
 |_::_,[],h,_=>by simp at h
 |x::a,y::b,h,h2=>by
  simp only[litR,lsl,wkD,chk_iff]
  exact⟨by simp,by simpa using h,fun i hi=>h2 i (by simpa using hi),by simp[weakM]⟩
theorem ndLits_len:∀l:List Nd,(ndLits l).length=l.length
 | []=>by simp only[ndLits,List.length_nil]
 |x::r=>by simp only[ndLits,List.length_cons,ndLits_len r]
theorem smLits_len:∀l:List Sm,(smLits l).length=l.length
 | []=>by simp only[smLits,List.length_nil]
 |x::r=>by simp only[smLits,List.length_cons,smLits_len r]
mutual
theorem nd_lit:∀n:Nd,wkL n.lit n.row
 |.mk kd at_ cl tx pr op va ki bo de sl ss=>by
  simp only[Nd.lit,Nd.row,wkL]
  refine⟨wkD_refl _,wkD_refl _,wkD_refl _,wkD_refl _,wkD_refl _,wkD_refl _,wkD_refl _,litI_wk _,litI_wk _,litT_wk _,litR_wk ?_ (nds_lit ki),litR_wk ?_ (sms_lit bo),wkD_refl _,wkD_refl _,wkD_refl _,trivial⟩
  ·rw[ndLits_len,ndRows_map,List.length_map]
  ·rw[smLits_len,smRows_map,List.length_map]
theorem sm_lit:∀s:Sm,wkL s.lit s.row
 |.mk kd at_ nm sl te nd=>by
  simp only[Sm.lit,Sm.row,wkL]
  exact⟨wkD_refl _,wkD_refl _,wkD_refl _,wkD_refl _,wkL_app (nd_lit te) (nd_lit nd)⟩
theorem nds_lit:∀(l:List Nd) (i:Nat),i<(ndLits l).length→wkL ((ndLits l).getD i []) ((ndRows l).getD i [])
 | [],i,h=>by simp[ndLits] at h
 |x::r,0,_=>by simp only[ndLits,ndRows,List.getD_cons_zero];exact nd_lit x
 |x::r,i+1,h=>by
  simp only[ndLits,ndRows,List.getD_cons_succ]
  exact nds_lit r i (by simpa[ndLits] using h)
theorem sms_lit:∀(l:List Sm) (i:Nat),i<(smLits l).length→wkL ((smLits l).getD i []) ((smRows l).getD i [])
 | [],i,h=>by simp[smLits] at h
 |x::r,0,_=>by simp only[smLits,smRows,List.getD_cons_zero];exact sm_lit x
 |x::r,i+1,h=>by
  simp only[smLits,smRows,List.getD_cons_succ]
  exact sms_lit r i (by simpa[smLits] using h)
end
def isR(b:Nd)(ds:List D)(ex:List D):Prop:=wkL ds (.agg b.row::ex)
def isP(l:List Sm)(ds:List D)(ex:List D):Prop:=wkL ds (.agg [lsl 34 (smRows l)]::ex)
def isRR(b:Nd)(ds:List D):Prop:=wkL ds [.agg b.row,.agg b.row]
def isPP(l:List Sm)(ds:List D):Prop:=wkL ds [.agg [lsl 34 (smRows l)],.agg [lsl 34 (smRows l)]]
def good(b:Nd):Prop:=b.ok∧b.sm
theorem isR_lit(b:Nd)(ds:List D)(h:ds=[.agg b.lit]):isR b ds []:=by
 subst h
 simp only[isR,wkL,wkD]
 exact⟨nd_lit b,trivial⟩
theorem isRR_lit(b:Nd)(ds:List D)(h:ds=[.agg b.lit,.agg b.lit]):isRR b ds:=by
 subst h
 simp only[isRR,wkL,wkD]
 exact⟨nd_lit b,nd_lit b,trivial⟩
theorem bo_lit(l:List Sm):wkD (litR 34 (smLits l)) (lsl 34 (smRows l)):=litR_wk (by rw[smLits_len,smRows_map,List.length_map]) (sms_lit l)
theorem isP_lit(l:List Sm)(ds:List D)(h:ds=[.agg [litR 34 (smLits l)]]):isP l ds []:=by
 subst h
 simp only[isP,wkL,wkD]
 exact⟨⟨bo_lit l,trivial⟩,trivial⟩
theorem isPP_lit(l:List Sm)(ds:List D)(h:ds=[.agg [litR 34 (smLits l)],.agg [litR 34 (smLits l)]]):isPP l ds:=by
 subst h
 simp only[isPP,wkL,wkD]
 exact⟨⟨bo_lit l,trivial⟩,⟨bo_lit l,trivial⟩,trivial⟩
theorem row_row1(b:Nd)(ex:List D):wkL (.agg b.row::ex) (.agg b.row1::ex):=by
 simp only[wkL,wkD];exact⟨nd_wk b,wkL_refl _⟩
theorem CD.isR{k:Nat}{n:Nd}{ds:List D}{d:D}(h:CD k [.agg n.row1] d)(hi:isR n ds []):CD k ds d:=CD.wk (CD.wk h (row_row1 n [])) hi
theorem rows_wk(l:List Sm):wkD (lsl 34 (smRows l)) (gsl 34 Sm.row l):=by rw[smRows_map];exact lsl_wk
theorem CD.isP{k:Nat}{l:List Sm}{ds:List D}{d:D}(h:CD k [.agg [gsl 34 Sm.row1 l]] d)(hi:isP l ds []):CD k ds d:=by
 refine CD.wk (CD.wk (CD.wk h (us:=[.agg [gsl 34 Sm.row1 l]]) ?_) (ds:=[.agg [lsl 34 (smRows l)]]) (us:=[.agg [gsl 34 Sm.row l]]) ?_) hi
 ·simp only[wkL,wkD];exact⟨⟨gsl_wk sm_wk,trivial⟩,trivial⟩
 ·simp only[wkL,wkD];exact⟨⟨rows_wk l,trivial⟩,trivial⟩
def primN(p:Int):Nd:=.mk 9 0 2 [] p 0 (.mk 0 [] [] []) [] [] 0 0 0
def trainN:Nd:=.mk 16 0 2 [] 0 0 (.mk 0 [] [] []) [.mk 14 0 2 [] 0 0 (.mk 0 [] [] []) [.mk 17 0 3 [] 0 1 (.mk 0 [] [] []) [] [] 0 0 0,primN 1] [] 0 0 0,primN 4,primN 20] [] 0 0 0
def nA:Nd:=.mk 4 0 1 [] 0 0 (.mk 0 [] [] []) [trainN,.mk 3 0 1 [] 0 0 (.mk 0 [] [] []) [oneN,oneN] [] 0 0 0] [] 0 0 0
def pB:List Sm:=[.mk 1 0 [] 0 nd0 (.mk 7 0 1 [] 0 0 (.mk 0 [] [] []) [] [] 0 0 0)]
def nI:Nd:=.mk 10 0 2 [] 0 0 (.mk 0 [] [] []) [] pB 0 0 0
def pP:List Sm:=[.mk 2 0 [105,100] 0 nd0 nI]
theorem fA:showNd nA=[40,32,43,32,47,32,37,32,116,97,108,108,121,32,41,32,49,32,49]:=by decide +kernel
theorem fR:rightN nA=0:=by decide +kernel
theorem fS:sizeN nA=10:=by decide +kernel
theorem fI:showNd nI=[123,32,89,32,125]:=by decide +kernel
theorem fP:rightP pP=0:=by decide +kernel
theorem fB:rightP pB=11:=by decide +kernel
theorem f0:rightN nd0=11:=by decide +kernel
theorem gA:good nA:=by
 unfold good nA trainN primN oneN
 refine⟨?_,?_⟩
 ·simp[Nd.ok,Arr.ok,okL,ndsOk,smsOk,inI64,maxLen]
 ·simp[Nd.sm,Arr.sm,smL,ndsSm,smsSm,maxB]
theorem g0:good nd0:=by
 unfold good nd0
 refine⟨?_,?_⟩
 ·simp[Nd.ok,Arr.ok,okL,ndsOk,smsOk,inI64,maxLen]
 ·simp[Nd.sm,Arr.sm,smL,ndsSm,smsSm,maxB]
theorem gI:good nI:=by
 unfold good nI pB nd0
 refine⟨?_,?_⟩
 ·simp[Nd.ok,Sm.ok,Arr.ok,okL,ndsOk,smsOk,inI64,maxLen]
 ·simp[Nd.sm,Sm.sm,Arr.sm,smL,ndsSm,smsSm,maxB]
theorem gP:okS pP:=by
 have h:=gI
 have h0:=g0
 refine⟨by decide,fun s hs=>?_,fun s hs=>?_⟩
 ·rw[List.mem_singleton.1 hs]
  simp only[Sm.ok]
  exact⟨by simp[inI64],h0.1,h.1⟩
 ·rw[List.mem_singleton.1 hs]
  simp only[Sm.sm]
  exact⟨by decide,h0.2,h.2⟩
theorem gB:okS pB:=by
 have h0:=g0
 refine⟨by decide,fun s hs=>?_,fun s hs=>?_⟩
 ·rw[List.mem_singleton.1 hs]
  simp only[Sm.ok]
  refine⟨by simp[inI64],h0.1,?_⟩
  simp[Nd.ok,Arr.ok,okL,ndsOk,smsOk,inI64,maxLen]
 ·rw[List.mem_singleton.1 hs]
  simp only[Sm.sm]
  refine⟨by decide,h0.2,?_⟩
  simp[Nd.sm,Arr.sm,smL,ndsSm,smsSm,maxB]
noncomputable def conKw:Con:=fun k ds S=>match k with
 |20=>some (pE (β:=Nd) ds S (fun b=>.str (showNd b)) (fun b=>isR b ds []∧good b))
 |9=>some (pE (β:=Nd) ds S (fun b=>.int .i64 (rightN b)) (fun b=>isR b ds []∧good b))
 |11=>some (pE (β:=Nd) ds S (fun b=>.int .i64 (sizeN b)) (fun b=>isR b ds []∧good b))
 |18=>some (pE (β:=Nd) ds S (fun _=>.bool true) (fun b=>isRR b ds∧good b))
 |15=>some (pE (β:=List Sm) ds S (fun l=>.int .i64 (rightP l)) (fun l=>isP l ds []∧okS l))
 |17=>some (pE (β:=List Sm) ds S (fun _=>.bool true) (fun l=>isPP l ds∧okS l))
 |_=>none
theorem same_self(b:Nd)(h:good b){ds:List D}(e:isRR b ds):CD 18 ds (.bool true):=by
 have:=sa_ok b b h h
 unfold RSame at this
 rw[sameT_iff.2 rfl] at this
 refine CD.wk (CD.wk this (ds:=[.agg b.row,.agg b.row]) ?_) e
 simp only[wkL,wkD]
 have w:wkL b.row b.row2:=by
  have h1:=nd_wk b
  cases b with
  |mk kd at_ cl tx pr op va ki bo de sl ss =>
   simp only[Nd.row,Nd.row2,Nd.kd,Nd.at_,Nd.cl,Nd.tx,Nd.pr,Nd.op,Nd.va,Nd.ki,Nd.bo,Nd.de,Nd.sl,Nd.ss,wkL,ndRows_map,smRows_map]
   refine⟨wkD_refl _,wkD_refl _,wkD_refl _,wkD_refl _,wkD_refl _,wkD_refl _,wkD_refl _,wkD_refl _,wkD_refl _,wkD_refl _,?_,?_,wkD_refl _,wkD_refl _,wkD_refl _,trivial⟩
   ·simp only[lsl,gsl,wkD,chk_iff]
    refine⟨by simp,by simp,fun i hi=>?_,by simp[weakM]⟩
    have hi:i<ki.length:=by simpa using hi
    have:(ki.map Nd.row).getD i []=(ki.getD i default).row:=by simp[List.getD_eq_getElem?_getD,hi]
    rw[this]
    exact nd_wk _
   ·simp only[lsl,gsl,wkD,chk_iff]
    refine⟨by simp,by simp,fun i hi=>?_,by simp[weakM]⟩
    have hi:i<bo.length:=by simpa using hi
    have:(bo.map Sm.row).getD i []=(bo.getD i default).row:=by simp[List.getD_eq_getElem?_getD,hi]
    rw[this]
    exact sm_wk _
 exact⟨w,w,trivial⟩
theorem sameP_self(l:List Sm)(h:okS l){ds:List D}(e:isPP l ds):CD 17 ds (.bool true):=by
 have:=sp_ok l l h h
 rw[sameT_iff.2 rfl] at this
 refine CD.wk (CD.wk this (ds:=[.agg [lsl 34 (smRows l)],.agg [lsl 34 (smRows l)]]) ?_) e
 have w:wkD (lsl 34 (smRows l)) (gsl 34 Sm.row1 l):=by
  rw[smRows_map]
  simp only[lsl,gsl,wkD,chk_iff]
  refine⟨by simp,by simp,fun i hi=>?_,by simp[weakM]⟩
  have hi:i<l.length:=by simpa using hi
  have:(l.map Sm.row).getD i []=(l.getD i default).row:=by simp[List.getD_eq_getElem?_getD,hi]
  rw[this]
  exact sm_wk _
 simp only[wkL,wkD]
 exact⟨⟨w,trivial⟩,⟨w,trivial⟩,trivial⟩
theorem conKw_ok:ConOk Tryz.prog conKw:=by
 intro k ds S A hh
 unfold conKw at hh
 split at hh
 ·injection hh with hh;subst hh
  exact pS_ok fun b ⟨e,h⟩=>CD.at_ (CD.isR (sw_ok' b h.1 h.2) e) _
 ·injection hh with hh;subst hh
  exact pS_ok fun b ⟨e,h⟩=>CD.at_ (CD.isR (rn_ok' b h.1 h.2) e) _
 ·injection hh with hh;subst hh
  exact pS_ok fun b ⟨e,h⟩=>CD.at_ (CD.isR (szs_ok b h.2) e) _
 ·injection hh with hh;subst hh
  exact pS_ok fun b ⟨e,h⟩=>CD.at_ (same_self b h e) _
 ·injection hh with hh;subst hh
  exact pS_ok fun l ⟨e,h⟩=>CD.at_ (CD.isP (pr_ok l h.1 h.2.1 h.2.2) e) _
 ·injection hh with hh;subst hh
  exact pS_ok fun l ⟨e,h⟩=>CD.at_ (sameP_self l h e) _
 ·cases hh
noncomputable def Ekw:Senv:={ EC conKw 71 6 [37] (fun id=>match id with | 2=>([1,0,2,3,4,5],[0,2,4,5]) | _=>([],[])) with mg:=fun _=>2 }
def Qad(a:Nat):Prop:=SM a∧True
def Qrp(a b c d e f g:Nat):Prop:=a≠b∧c≠b∧d≠b∧e≠b∧f≠b∧g≠b∧True
def Qf:D:=ZI Z0
def Xa:D:=D.str []
def QY:D:=D.sl N1 N0 (fun (_x:Nat)=>[]) Mode.nil
def Qae:D:=ZI Z1
def QDL:List D:=[Qf,Qf,Qf]
def QjZ:List D:=QY::QDL
def QDM:List D:=QY::QY::QjZ
def QDN:List D:=Qf::QY::QY::QDM
def Qm0:List D:=Qf::QDN
def QDO:List D:=ZI (14:Int)::Qf::ZI (2:Int)::Xa::Qf::Qf::Qf::QY::QY::QY::D.sl (15:Nat) N2 (fun (i:Nat)=>List.getD [ZI (17:Int)::Qf::ZI (3:Int)::Xa::Qf::Qae::QDN,ZI (9:Int)::Qf::ZI (2:Int)::Xa::Qae::Qm0] i []) Mode.full::QjZ
def QLA:D:=D.agg QDO
def Qm1(a:Nat):Prop:=SM a∧SM QLA
def Qrq(a b c d e f g h:Nat):Prop:=a≠b∧Qrp c b d e f g h
def QDP:List D:=Qae::Qf::Qae::Xa::Qf::Qf::Qae::QY::D.sl N1 N1 (fun (i:Nat)=>List.getD [[Qae]] i []) Mode.full::QDM
def QDQ:List D:=ZI (3:Int)::Qf::Qae::Xa::Qf::Qf::Qf::QY::QY::QY::D.sl (15:Nat) N2 (fun (i:Nat)=>List.getD [QDP,QDP] i []) Mode.full::QjZ
def QLB:D:=D.agg QDQ
def Qm2(a:Nat):Prop:=SM a∧SM QLB
def Qm3(a b c d e f g h k:Nat):Prop:=a≠b∧Qrq c b d e f g h k
def QDR:D:=D.agg (ZI (4:Int)::Qf::Qae::Xa::Qf::Qf::Qf::QY::QY::QY::D.sl (15:Nat) N2 (fun (i:Nat)=>List.getD [ZI (16:Int)::Qf::ZI (2:Int)::Xa::Qf::Qf::Qf::QY::QY::QY::D.sl (15:Nat) (3:Nat) (fun (i:Nat)=>List.getD [QDO,ZI (9:Int)::Qf::ZI (2:Int)::Xa::ZI (4:Int)::Qm0,ZI (9:Int)::Qf::ZI (2:Int)::Xa::ZI (20:Int)::Qm0] i []) Mode.full::QjZ,QDQ] i []) Mode.full::QjZ)
def QDS:List D:=[QDR]
def Qm4(a:Nd):Prop:=good a
def Qi2(a:Nd):Prop:=isR a QDS []∧Qm4 a
def QDT(a:Nd):Bool:=showNd a != [(40:UInt8),(32:UInt8),(43:UInt8),(32:UInt8),(47:UInt8),(32:UInt8),(37:UInt8),(32:UInt8),(116:UInt8),(97:UInt8),(108:UInt8),(108:UInt8),(121:UInt8),(32:UInt8),(41:UInt8),(32:UInt8),(49:UInt8),(32:UInt8),(49:UInt8)]
def Qgt:Prop:=True∧∃(_y:Unit),True∧false=true∧True∧True
def Qm5(a b c d e f g h k l:Nat):Prop:=a≠b∧Qm3 c b d e f g h k l
def QDU:List D:=Xa::Qf::Qm0
def QDV:D:=D.sl (34:Nat) N1 (fun (i:Nat)=>List.getD [Qae::Qf::Xa::Qf::Qf::Qf::Qf::Xa::Qf::Qf::Qf::QY::QY::QY::QY::QY::Qf::Qf::Qf::ZI (7:Int)::Qf::Qae::QDU] i []) Mode.full
def QDW:List D:=ZI (10:Int)::Qf::ZI (2:Int)::Xa::Qf::Qf::Qf::QY::QY::QY::QY::QDV::QDL
def QDX:D:=D.agg [D.sl (34:Nat) N1 (fun (i:Nat)=>List.getD [ZI (2:Int)::Qf::D.str [(105:UInt8),(100:UInt8)]::Qf::Qf::Qf::Qf::Xa::Qf::Qf::Qf::QY::QY::QY::QY::QY::Qf::Qf::Qf::QDW] i []) Mode.full]
def QDY:List D:=[QDX]
def QDZ(a b c d e f g h k l:Nat):Prop:=∃(x:Nd),(isRR x (QDR::QDS)∧Qm4 x)∧∀(_y:Unit),True→∀(x:Nat),a≠x∧Qm5 b x c d e f g h k l→SM x∧SM x∧∀(x_1:Nat),x≠x_1∧a≠x_1∧Qm5 b x_1 c d e f g h k l→SM x_1∧SM x∧∃(x:Nd),(isR x [D.agg QDW] []∧Qm4 x)∧∀(_y:Unit),True→ifB (showNd x==[(123:UInt8),(32:UInt8),(89:UInt8),(32:UInt8),(125:UInt8)]) (SM x_1∧∃(x:List Sm),(isP x QDY []∧okS x)∧∀(_y:Unit),True→ifB (rightP x==Z0) (∃(x:List Sm),(isP x [D.agg [QDV]] []∧okS x)∧∀(_y:Unit),True→ifB (rightP x==(11:Int)) (SM x_1∧SM x_1∧∃(x:List Sm),(isPP x (QDX::QDY)∧okS x)∧∀(_y:Unit),True→∃(x:Nd),(isR x [D.agg (Qf::Qf::Qf::QDU)] []∧Qm4 x)∧∀(_y:Unit),True→True∧∃(_y:Unit),True∧(rightN x==(11:Int))=true∧True∧True) Qgt) Qgt) Qgt
def QD0(a b c d e f g h k:Nat):Prop:=SM a∧SM a∧∃(x:Nd),Qi2 x∧∀(_y:Unit),True→ifB (QDT x) Qgt (SM a∧∃(x:Nd),Qi2 x∧∀(_y:Unit),True→ifB (rightN x != Z0) Qgt (SM a∧∃(x:Nd),Qi2 x∧∀(_y:Unit),True→ifB (sizeN x != (10:Int)) Qgt (SM a∧∀(x:Nat),Qm5 a x b c d e f g h k→SM x∧True∧SM a∧SM a∧QDZ x a b c d e f g h k)))
theorem kw_ok:CD 14 [] (.bool true):=by
 refine con_of (A:=sC _ _) (x:=()) (E:=Ekw) (eOk conKw_ok rfl) Tryz.func14 rfl (by kernel_rfl) rfl (by simp[sC,Ekw,EC,E0]) ?_
 refine vc_eq (T :=
  ∀(x:Nat),True→SM x∧Qad x∧∀(x_1:Nat),x≠x_1∧True→SM x_1∧Qad x_1∧∀(x_2:Nat),x_1≠x_2∧x≠x_2∧True→SM x_2∧SM x_2∧(∀(x_3:Nat),x_2≠x_3∧x_1≠x_3∧x≠x_3∧True→∀(x_4:Nat),x_3≠x_4∧x_2≠x_4∧x_1≠x_4∧x≠x_4∧True→SM x_4∧Qad x_4∧∀(x_5:Nat),x_4≠x_5∧x_3≠x_5∧x_2≠x_5∧x_1≠x_5∧x≠x_5∧True→SM x_5∧SM x_5∧∀(x_6:Nat),Qrp x_5 x_6 x_4 x_3 x_2 x_1 x→SM x_6∧Qad x_6∧Qm1 x_5∧∀(x_7:Nat),Qrq x_6 x_7 x_5 x_4 x_3 x_2 x_1 x→SM x_7∧Qad x_7∧Qm1 x_5∧SM x_3∧Qad x_3∧Qm2 x_2∧(∀(x_8:Nat),Qm3 x_7 x_8 x_6 x_5 x_4 x_3 x_2 x_1 x→QD0 x_8 x_7 x_6 x_5 x_4 x_3 x_2 x_1 x)∧∀(x_8:Nat),Qm3 x_7 x_8 x_6 x_5 x_4 x_3 x_2 x_1 x→Qm2 x_2∧QD0 x_8 x_7 x_6 x_5 x_4 x_3 x_2 x_1 x)∧∀(x_3:Nat),x_2≠x_3∧x_1≠x_3∧x≠x_3∧True→Qm2 x_2∧∀(x_4:Nat),x_3≠x_4∧x_2≠x_4∧x_1≠x_4∧x≠x_4∧True→∀(x_5:Nat),x_4≠x_5∧x_3≠x_5∧x_2≠x_5∧x_1≠x_5∧x≠x_5∧True→SM x_5∧Qad x_5∧∀(x_6:Nat),Qrp x_5 x_6 x_4 x_3 x_2 x_1 x→SM x_6∧SM x_6∧∀(x_7:Nat),Qrq x_6 x_7 x_5 x_4 x_3 x_2 x_1 x→SM x_7∧Qad x_7∧Qm1 x_6∧∀(x_8:Nat),Qm3 x_7 x_8 x_6 x_5 x_4 x_3 x_2 x_1 x→SM x_8∧Qad x_8∧Qm1 x_6∧SM x_4∧Qad x_4∧Qm2 x_2∧SM x_3∧SM x_3∧∃(x_9:Nd),Qi2 x_9∧∀(y:Unit),True→ifB (QDT x_9) Qgt (SM x_3∧∃(x_10:Nd),Qi2 x_10∧∀(y:Unit),True→ifB (rightN x_10 != Z0) Qgt (SM x_3∧∃(x_11:Nd),Qi2 x_11∧∀(y:Unit),True→ifB (sizeN x_11 != (10:Int)) Qgt (SM x_3∧∀(x_12:Nat),Qm5 x_8 x_12 x_7 x_6 x_5 x_4 x_3 x_2 x_1 x→SM x_12∧True∧SM x_3∧SM x_3∧QDZ x_12 x_8 x_7 x_6 x_5 x_4 x_3 x_2 x_1 x)))) (by kernel_rfl) ?_
 delta N0 N1 N2 SM Z0 Z1 ZI Qad Qrp Qm0 QDO QLA Qm1 Qrq QDP QDQ QLB Qm2 Qm3 Qf QDR QDS Qm4 Qi2 QDT Qgt Qm5 QDU QDV QDW Xa QDX QDY QDZ QD0 QY Qae QDL QjZ QDM QDN
 simp only[eq_self,ne_eq,ifB_iff,true_and,and_true,beq_iff_eq,bne_iff_ne,bne_eq_false_iff_eq,beq_eq_false_iff_ne,exists_const,forall_const]
 repeat' (first
  |refine⟨nA,⟨isR_lit nA _ (by kernel_rfl),gA⟩,fun h=>absurd fA h,fun _=>?_⟩
  |refine⟨nA,⟨isR_lit nA _ (by kernel_rfl),gA⟩,fun h=>absurd fR h,fun _=>?_⟩
  |refine⟨nA,⟨isR_lit nA _ (by kernel_rfl),gA⟩,fun h=>absurd fS h,fun _=>?_⟩
  |refine⟨nI,⟨isR_lit nI _ (by kernel_rfl),gI⟩,fun _=>?_,fun h=>absurd fI h⟩
  |refine⟨pP,⟨isP_lit pP _ (by kernel_rfl),gP⟩,fun _=>?_,fun h=>absurd fP h⟩
  |refine⟨pB,⟨isP_lit pB _ (by kernel_rfl),gB⟩,fun _=>?_,fun h=>absurd fB h⟩
  |exact⟨nd0,⟨isR_lit nd0 _ (by kernel_rfl),g0⟩,f0⟩
  |refine⟨nA,⟨isRR_lit nA _ (by kernel_rfl),gA⟩,?_⟩
  |refine⟨pP,⟨isPP_lit pP _ (by kernel_rfl),gP⟩,?_⟩
  |refine And.intro ?_ ?_
  |intro _)
 all_goals first
  |rfl
  |trace_state
end
end Go.Proofs.YtjnifeedbgefpaaGreatDoor
