/- Functions of the given program and what each of them computes: lemmas towards the statement, their conditions stated with each of them. -/
import Derived.Test.YtaagdbcaeokjkaaGreatDoorS3
namespace Go.Proofs.YtaagdbcaeokjkaaGreatDoor
open Go Go.Ab
set_option maxRecDepth 100000
noncomputable section
theorem Iy{g:Bool}:∀ {l:List Sm} {names:List (List UInt8)},Eh g names l=true->∀s∈l,∃names',Bay g names' s=true
 | [],_,_,s,hs=>by simp at hs
 |x::r,names,h,s,hs=>by
  simp only[Eh,Bool.and_eq_true] at h
  rcases List.mem_cons.1 hs with rfl | hs
  ·exact⟨names,h.1⟩
  ·exact Iy h.2 s hs
theorem BhJ{g:Bool}{names:List (List UInt8)}{s:Sm}(h:Bay g names s=true)(h2:s.kd=2):s.nm.length<=32:=by
 rw[Iz] at h
 simp only[Bool.and_eq_true] at h
 have h:=h.2
 rw[if_neg (by omega),if_pos h2] at h
 simp only[Bool.and_eq_true] at h
 exact (BS h.1.1.1.1).2.1
theorem CV(ks:List Int)(k:Int)(x:List UInt8):(Er ks k x).length<=x.length+4:=by
 unfold Er Bkn
 split
 ·simp only[List.length_append,List.length_cons,List.length_nil];omega
 ·omega
theorem WZ(ks:List Int):∀l:List Nd,(∀b∈l,(BD b).length+100<=200000000*szN b)->Ca (l.map (BQ ks))+96*l.length<=200000000*szL l
 | [],_=>by simp[Ca,szL]
 |b::r,h=>by
  have h1:=h b (by simp)
  have h2:=WZ ks r fun x hx=>h x (by simp[hx])
  have h3:=CV ks b.kd (BD b)
  simp only[List.map_cons,Ca,szL,List.length_cons,BQ]
  omega
theorem BaF:∀l:List Sm,(∀s∈l,(EM s).length+60<=200000000*szM s)->Ca (l.map EM)+60*l.length<=200000000*szB l
 | [],_=>by simp[Ca,szB]
 |s::r,h=>by
  have h1:=h s (by simp)
  have h2:=BaF r fun x hx=>h x (by simp[hx])
  simp only[List.map_cons,Ca,szB,List.length_cons]
  omega
theorem BhB(p:Int):(Ci p).length<=100:=by
 have h:∀n,n<56->(primL.getD n []).length<=100:=by decide +kernel
 unfold Ci
 split
 ·simp
 ·exact h _ (by omega)
theorem Bm3(p:Int):(opT p).length<=100:=by
 have h:∀n,n<12->(opL.getD n []).length<=100:=by decide +kernel
 unfold opT
 split
 ·simp
 ·exact h _ (by omega)
theorem BjW{a:Arr}(ho:a.ok):(OD a).length<=157286700:=by
 unfold OD
 split
 ·rename_i h;exact Bo8 ho h
 ·simp
theorem Rh(s:Sm):szM s=if s.kd=3 then szN s.te+szN s.nd else szN s.nd:=by
 cases s
 simp only[szM]
 rfl
theorem Bfk(n:Nd):szN n=1+szL n.ki+szB n.bo:=by
 cases n
 simp only[szN]
 rfl
theorem Mw(n : Nd) : BD n=if n.kd=1 then OD n.va else if n.kd=2 then n.tx else if n.kd=6 then [88] else if n.kd=7 then [89] else if n.kd=8 then [97, 114, 103] else if n.kd=11 then [115, 101, 108, 102]
  else if n.kd=12 then [70] else if n.kd=13 then [71] else if n.kd=9 then Ci n.pr else if n.kd=17 then opT n.op
  else if n.kd=3 then Lib.join (n.ki.map (BQ [3,4,5])) [32]
  else if n.kd=4 then Er [16] (kAt n.ki 0) ((BO n.ki).getD 0 [])++[32]++(BO n.ki).getD 1 []
  else if n.kd=5 then Er [4,5] (kAt n.ki 1) ((BO n.ki).getD 1 [])++[32]++Er [16] (kAt n.ki 0) ((BO n.ki).getD 0 [])++[32]++(BO n.ki).getD 2 []
  else if n.kd=16 then Lib.join (n.ki.map (BQ [4,5,16])) [32]
  else if n.kd=14 then Er [16] (kAt n.ki 1) ((BO n.ki).getD 1 [])++[32]++(BO n.ki).getD 0 []
  else if n.kd=15 then Er [16] (kAt n.ki 1) ((BO n.ki).getD 1 [])++[32]++(BO n.ki).getD 0 []++[32]++Er [3,4,5,16,14,15] (kAt n.ki 2) ((BO n.ki).getD 2 [])
  else [123,32]++Lib.join (n.bo.map EM) [32,59,32]++[32,125]:=by
 cases n
 simp only[BD,Bcg,Baa]
 rfl
theorem Mk{n:Nd}(h:BL n=true):((n.kd=4\/n.kd=14)->n.ki.length=2)/\((n.kd=5\/n.kd=15)->n.ki.length=3)/\(n.kd=2->n.tx.length<=32):=by
 refine⟨fun hk=>?_,fun hk=>?_,fun hk=>?_⟩
 ·rcases CR h (by omega) with hc | ⟨hc,_⟩
  ·unfold C9 at hc
   rcases hk with hk | hk<;>simp[hk] at hc
  ·unfold C4 at hc
   rcases hk with hk | hk<;>simp[hk] at hc<;>exact Us hc.2
 ·rcases CR h (by omega) with hc | ⟨hc,_⟩
  ·unfold C9 at hc
   rcases hk with hk | hk<;>simp[hk] at hc
  ·unfold C4 at hc
   rcases hk with hk | hk<;>simp[hk] at hc<;>exact Us hc.2
 ·rcases CR h (by omega) with hc | ⟨hc,_⟩
  ·unfold C9 at hc
   simp[hk] at hc
   exact (BS hc.2.2).2.1
  ·unfold C4 at hc
   simp[hk] at hc
theorem Wr(l:List Nd)(i:Nat)(h:∀b∈l,(BD b).length+100<=200000000*szN b)(hi:i<l.length):((BO l).getD i []).length+100<=200000000*szN (l.getD i default):=by
 rw[Oz hi]
 exact h _ (CY hi)
theorem Bgn{l:List Nd}(h:l.length=2):szL l=szN (l.getD 0 default)+szN (l.getD 1 default):=by
 match l,h with
 | [a,b],_=>simp[szL]
theorem BaH{l:List Nd}(h:l.length=3):szL l=szN (l.getD 0 default)+szN (l.getD 1 default)+szN (l.getD 2 default):=by
 match l,h with
 | [a,b,c],_=>simp[szL];omega
theorem GL(n:Nd)(h:BL n=true)(ho:n.ok):(BD n).length+100<=200000000*szN n:=by
 have ih:∀b∈n.ki,(BD b).length+100<=200000000*szN b:=fun b hb=>GL b ((GU h).1 b hb) (Baq ho b hb)
 have ihs:n.kd=10->∀s∈n.bo,(EM s).length+60<=200000000*szM s:=fun hk s hs=>by
  have h1:=h
  rw[Ea,Bool.and_eq_true,if_pos hk,Bool.and_eq_true] at h1
  have hb:=h1.2.2
  unfold CL at hb
  rw[Bool.and_eq_true] at hb
  obtain ⟨q1,q2⟩:=EQ hb.2 s hs
  obtain ⟨nm,q3⟩:=Iy hb.2 s hs
  have o:=EH (T8 ho s hs)
  have r1:=GL s.nd q1 o.2
  rw[RG,Rh]
  by_cases k2:s.kd=2
  ·have:=BhJ q3 k2
   rw[if_pos k2,if_neg (by omega)]
   simp only[List.length_append,List.length_cons,List.length_nil]
   omega
  ·rw[if_neg k2]
   by_cases k3:s.kd=3
   ·rw[if_pos k3,if_pos k3]
    have hv:BL s.te=true:=by
     rcases q2 with ⟨_,q,_⟩ | ⟨q,_⟩
     ·exact q
     ·exact (q k3).elim
    have r2:=GL s.te hv o.1
    simp only[List.length_append,List.length_cons,List.length_nil]
    omega
   ·rw[if_neg k3,if_neg k3]
    omega
 obtain ⟨h2,h3,htx⟩:=Mk h
 rw[Mw,Bfk]
 have g0:=fun hi=>Wr n.ki 0 ih hi
 have g1:=fun hi=>Wr n.ki 1 ih hi
 have g2:=fun hi=>Wr n.ki 2 ih hi
 by_cases e1:n.kd=1
 ·rw[if_pos e1];have:=BjW (BaY ho);omega
 rw[if_neg e1]
 by_cases e2:n.kd=2
 ·rw[if_pos e2];have:=htx e2;omega
 rw[if_neg e2]
 by_cases e6:n.kd=6
 ·rw[if_pos e6];simp only[List.length_cons,List.length_nil];omega
 rw[if_neg e6]
 by_cases e7:n.kd=7
 ·rw[if_pos e7];simp only[List.length_cons,List.length_nil];omega
 rw[if_neg e7]
 by_cases e8:n.kd=8
 ·rw[if_pos e8];simp only[List.length_cons,List.length_nil];omega
 rw[if_neg e8]
 by_cases e11:n.kd=11
 ·rw[if_pos e11];simp only[List.length_cons,List.length_nil];omega
 rw[if_neg e11]
 by_cases e12:n.kd=12
 ·rw[if_pos e12];simp only[List.length_cons,List.length_nil];omega
 rw[if_neg e12]
 by_cases e13:n.kd=13
 ·rw[if_pos e13];simp only[List.length_cons,List.length_nil];omega
 rw[if_neg e13]
 by_cases e9:n.kd=9
 ·rw[if_pos e9];have:=BhB n.pr;omega
 rw[if_neg e9]
 by_cases e17:n.kd=17
 ·rw[if_pos e17];have:=Bm3 n.op;omega
 rw[if_neg e17]
 by_cases e3:n.kd=3
 ·rw[if_pos e3]
  have q1:=Tl [32] (n.ki.map (BQ [3,4,5]))
  have q2:=WZ [3,4,5] n.ki ih
  simp only[List.length_map,List.length_cons,List.length_nil] at q1
  omega
 rw[if_neg e3]
 by_cases e4:n.kd=4
 ·rw[if_pos e4]
  have hl:=h2 (.inl e4)
  have:=Bgn hl
  have:=g0 (by omega)
  have:=g1 (by omega)
  have:=CV [16] (kAt n.ki 0) ((BO n.ki).getD 0 [])
  simp only[List.length_append,List.length_cons,List.length_nil]
  omega
 rw[if_neg e4]
 by_cases e5:n.kd=5
 ·rw[if_pos e5]
  have hl:=h3 (.inl e5)
  have:=BaH hl
  have:=g0 (by omega)
  have:=g1 (by omega)
  have:=g2 (by omega)
  have:=CV [16] (kAt n.ki 0) ((BO n.ki).getD 0 [])
  have:=CV [4,5] (kAt n.ki 1) ((BO n.ki).getD 1 [])
  simp only[List.length_append,List.length_cons,List.length_nil]
  omega
 rw[if_neg e5]
 by_cases e16:n.kd=16
 ·rw[if_pos e16]
  have q1:=Tl [32] (n.ki.map (BQ [4,5,16]))
  have q2:=WZ [4,5,16] n.ki ih
  simp only[List.length_map,List.length_cons,List.length_nil] at q1
  omega
 rw[if_neg e16]
 by_cases e14:n.kd=14
 ·rw[if_pos e14]
  have hl:=h2 (.inr e14)
  have:=Bgn hl
  have:=g0 (by omega)
  have:=g1 (by omega)
  have:=CV [16] (kAt n.ki 1) ((BO n.ki).getD 1 [])
  simp only[List.length_append,List.length_cons,List.length_nil]
  omega
 rw[if_neg e14]
 by_cases e15:n.kd=15
 ·rw[if_pos e15]
  have hl:=h3 (.inr e15)
  have:=BaH hl
  have:=g0 (by omega)
  have:=g1 (by omega)
  have:=g2 (by omega)
  have:=CV [16] (kAt n.ki 1) ((BO n.ki).getD 1 [])
  have:=CV [3,4,5,16,14,15] (kAt n.ki 2) ((BO n.ki).getD 2 [])
  simp only[List.length_append,List.length_cons,List.length_nil]
  omega
 rw[if_neg e15]
 have hk:n.kd=10:=by
  have h:=h
  rw[Ea,Bool.and_eq_true] at h
  by_cases hk:n.kd=10
  ·exact hk
  ·rcases CR (n:=n) (by rw[Ea,Bool.and_eq_true];exact h) hk with hc | ⟨hc,_⟩
   ·unfold C9 at hc
    simp[e1,e2,e6,e7,e8,e9,e11,e12,e13,e17] at hc
   ·unfold C4 at hc
    simp[e3,e4,e5,e14,e15,e16] at hc
 have q1:=Tl [32,59,32] (n.bo.map EM)
 have q2:=BaF n.bo (ihs hk)
 simp only[List.length_map,List.length_cons,List.length_nil] at q1
 simp only[List.length_append,List.length_cons,List.length_nil]
 omega
termination_by SizeOf.sizeOf n
decreasing_by
 ·exact Nd.size_kid hb
 ·have:=Nd.size_stmt hs
  have:=Sm.size_nd s
  omega
 ·have:=Nd.size_stmt hs
  have:=Sm.size_te s
  omega
def okS(l:List Sm):Prop:=l.length<=By/\(∀s∈l,s.ok)/\∀s∈l,s.sm
noncomputable def Eidk(l:List Int)(v:Int):Senv:={ EC E5 19 2 [4,5,7,8,9,16] (fun _=>([],[])) with
 ann:=fun b _ _=>match b with
  |0=>some (Bpw (fun d=>v==d) l [0,1,6,7])
  |_=>none }
def Qc8(a:Int)(b:List Int)(c:Nat):Prop:=IdxHead (fun (d:Int)=>a==d) b c
def QvP(a:List Int):D:=SI a
theorem Bpv(l:List Int)(v:Int)(hl:l.length<=maxLen):CD 182 [isl l .any,.int .i64 v] (.int .i64 (GM (fun d=>v==d) l 0)):=by
 refine Bf (A:=sC _ _) (x:=()) (E:=Eidk l v) (eOk BJ rfl) Tryz.func182 rfl (by kernel_rfl) rfl (by simp[sC,Eidk,EC,E0]) ?_
 refine Bk (T :=
  (∃(x:Nat),Qc8 v l x/\(Z0=(↑x:Int)/\True)/\True/\True)/\∀(x:Nat),Qc8 v l x->ifB (decide ((↑x:Int)<(LI l))) (Be (Z0<=(↑x:Int)/\(↑x:Int)<(LI l)) (ifB (v==GI l (Int.toNat (↑x:Int))) (RT ((↑x:Int)=GM (fun (d:Int)=>v==d) l N0)) ((SM (QvP l)/\SM (ZI v)/\SM D.unk/\SM (ZI (LI l))/\True)/\∃(y:Nat),Qc8 v l y/\LN l-y<LN l-x/\(IntKind.wrap IntKind.i64 ((↑x:Int)+Z1)=(↑y:Int)/\True)/\True/\True))) (RT ((-1:Int)=GM (fun (d:Int)=>v==d) l N0))) (by kernel_rfl) ?_
 delta GI LI LN N0 N1 SI SM Z0 Z1 ZI Qc8 QvP RT
 simp only[Int.toNat_natCast,Bh,Bc,decide_eq_true_eq,decide_eq_false_iff_not,true_and,and_true,exists_const]
 simp only[maxLen] at hl
 refine⟨⟨0,⟨Nat.zero_le _,by simp⟩,rfl⟩,fun i hh=>⟨fun hlt=>?_,fun hge=>(hh.done hge).symm⟩⟩
 have hlt':i<l.length:=by omega
 obtain ⟨s1,s2⟩:=hh.step hlt'
 exact⟨by omega,fun h=>(s1 h).symm,fun h=>⟨i+1,s2 h,by omega,Bb (by omega) (by omega)⟩⟩
noncomputable def Bjo(l:List Int)(v:Int):Con:=fun k ds S=>match k with
 |182=>some (pA ds S (.int .i64 (GM (fun d=>v==d) l 0)) (wkL ds [isl l .any,.int .i64 v]))
 |_=>none
noncomputable def Ectk(l:List Int)(v:Int):Senv:=EC (Bjo l v) 9 2 [4] (fun _=>([],[]))
def Qnw(a:List Int)(b:Int):List D:=[SI a,ZI b]
theorem BoE(l:List Int)(v:Int)(hl:l.length<=maxLen):CD 159 [isl l .any,.int .i64 v] (.bool (l.contains v)):=by
 refine Bf (A:=sC _ _) (x:=()) (E:=Ectk l v) (eOk ?_ rfl) Tryz.func159 rfl (by kernel_rfl) rfl (by simp[sC,Ectk,EC,E0]) ?_
 ·intro k ds S A hh
  try unfold Bjo at hh
  try dsimp only at hh
  split at hh
  ·injection hh with hh;subst hh
   exact Bv fun e=>CD.at_ (CD.wk (Bpv l v hl) e) _
  ·cases hh
 refine Bk (T :=
  ∃(x:Unit),wkL (Qnw l v) (Qnw l v)/\∀(y:Unit),True->RT (decide (Z0<=GM (fun (d:Int)=>v==d) l N0)=List.contains l v)) (by kernel_rfl) ?_
 delta GI LN N0 N1 SI Z0 ZI Qnw RT
 simp only[true_and,and_true,exists_const,forall_const]
 have e:=OG (fun d=>v==d) l 0
 have e2:(l.any fun d=>v==d)=l.contains v:=by rw[Bool.eq_iff_iff,List.any_eq_true,List.contains_eq_mem,decide_eq_true_eq];simp
 rw[e2] at e
 first
  |exact⟨Bi _,e⟩
  |exact⟨Bi _,e,fun _ _=>trivial⟩
def RShow(n:Nd):Prop:=CD 105 [.agg n.row2] (.str (BD n))/\(BD n).length<=20000000000000
def Bos(n:Nd):Con:=fun k ds S=>match k with
 |105=>some (pA ds S (.str (BD n)) (isN n ds []))
 |159=>match ds with
  | [.sl 1 m f _,.int .i64 v]=>some (pA ds S (.bool ((Bp m f).contains v)) (wkL ds [isl (Bp m f) .any,.int .i64 v]/\m<=maxLen))
  |_=>none
 |_=>none
noncomputable def Ewi(n:Nd):Senv:=EC (Bos n) 15 3 [4,8] (fun _=>([],[]))
def Qnx(a:List Int):List Int:=Bp (LN a) fun i=>[ZI (GI a i)]
def QnA(a:Nd):Prop:=isN a [D.agg (Nd.rowE a)] []
def ZW(a:Nd):List UInt8:=BD a
theorem Bqp(n:Nd)(ks:List Int)(hn:RShow n)(hk:ks.length<=maxLen):CD 129 [.agg n.row1,isl ks .any] (.str (BQ ks n)):=by
 refine Bf (A:=sC _ _) (x:=()) (E:=Ewi n) (eOk ?_ rfl) Tryz.func129 rfl (by kernel_rfl) rfl (by simp[sC,Ewi,EC,E0]) ?_
 ·intro k ds S A hh
  try unfold Bos at hh
  try dsimp only at hh
  split at hh
  ·injection hh with hh;subst hh
   exact Bv fun e=>CD.at_ (CD.isN hn.1 e) _
  ·split at hh
   ·injection hh with hh;subst hh
    exact Bv fun ⟨e,hm⟩=>CD.at_ (CD.wk (BoE _ _ (by rw[B3];exact hm)) e) _
   ·cases hh
  ·cases hh
 refine Bk (T :=
  ∀(x:Nat),True->SM x/\∃(x_1:Unit),(wkL [SI ks,ZI (Nd.kd n)] [SI (Qnx ks),ZI (Nd.kd n)]/\LN ks<=9223372036854775807)/\∀(y:Unit),True->ifB (List.contains (Qnx ks) (Nd.kd n)) (SM x/\∃(x:Unit),QnA n/\∀(y:Unit),True->Be (N2+LN (ZW n)<=9223372036854775807) (Be (LN ((40:UInt8)::(32:UInt8)::List.append [] (ZW n))+N2<=9223372036854775807) (RT ((40:UInt8)::(32:UInt8)::List.append (List.append [] (ZW n)) [(32:UInt8),(41:UInt8)]=BQ ks n)))) (SM x/\∃(x:Unit),QnA n/\∀(y:Unit),True->RT (ZW n=BQ ks n))) (by kernel_rfl) ?_
 delta DA GI LN N1 N2 N4 SI SM Z0 ZI QnA ZW Qnx RT
 try simp only[<- dm]
 try simp only[<- dn]
 simp only[Bh,Bc,true_and,and_true,exists_const,forall_const]
 simp only[Cl]
 have hl:=hn.2
 unfold maxLen at hk
 refine⟨⟨Bi _,hk⟩,fun h=>⟨BB _ _,by omega,?_,?_⟩,fun h=>⟨BB _ _,?_⟩⟩
 ·simp only[List.length_cons,List.append_eq,List.nil_append];omega
 ·unfold BQ Er;rw[if_pos h];rfl
 ·unfold BQ Er;rw[if_neg (by rw[h];exact Bool.false_ne_true)]
def BaS(q:Nd->Prop):Con:=fun k ds S=>match k with
 |129=>match ds with
  | [_,.sl 1 m f _]=>some (pE (β:=Nd) ds S (fun b=>.str (BQ (Bp m f) b)) (fun b=>wkL ds [.agg b.row1,isl (Bp m f) .any]/\m<=maxLen/\q b))
  |_=>none
 |105=>some (pE (β:=Nd) ds S (fun b=>.str (BD b)) (fun b=>isN b ds []/\q b))
 |k=>WJ k ds S
theorem O9{q:Nd->Prop}(h:∀b,q b->RShow b):ConOk Tryz.prog (BaS q):=by
 intro k ds S A hh
 unfold BaS at hh
 split at hh
 ·split at hh
  ·injection hh with hh;subst hh
   exact EJ fun b ⟨e,hm,hb⟩=>CD.at_ (CD.wk (Bqp b _ (h b hb) (by rw[B3];exact hm)) e) _
  ·cases hh
 ·injection hh with hh;subst hh
  exact EJ fun b ⟨e,hb⟩=>CD.at_ (CD.isN (h b hb).1 e) _
 ·exact Mh _ _ _ _ hh
noncomputable def Ewd(q:Nd->Prop)(l:List Nd)(ks:List Int):Senv:={ EC (BaS q) 23 2 [4,5,7,8,9,10,11] (fun _=>([],[])) with
 gh:=fun b=>match b with
  |0=>[.slot 5]
  |_=>[]
 ann:=fun b _ S=>match b with
  |0=>some { slots:=[10,5],keep:=[0,1,8,9],α:=Nat×Nat×List (List UInt8),st:=fun y=>([.int .i64 y.1,ssl y.2.2 (.tok 0 y.2.1)],⟨S.objs,[(0,y.2.1)]⟩),inv:=fun y=>y.1<=l.length/\y.2.2=(l.take y.1).map (BQ ks),mu:=fun y=>l.length-y.1 }
  |_=>none }
def Qda(a:Nat)(b:List Nd)(c:List (List UInt8))(d:List Int):Prop:=a<=LN b/\c=List.map (BQ d) (List.take a b)
def Xj(a:List (List UInt8))(b:Nat):List D:=[D.str (List.getD a b [])]
def ZX:Arr:=DA
def JK:Nd:=Nd.mk Z0 Z0 Z0 [] Z0 Z0 ZX [] [] Z0 Z0 Z0
def Q7(a:List Nd)(b:Nat):Nd:=List.getD a (Int.toNat (↑b:Int)) JK
def QnE(a:List Int):D:=SI a
def QnG(a:List Int):List Int:=Bp (LN a) fun i=>[ZI (GI a i)]
def Q8(a:List Nd)(b:Nat):Nd:=List.getD a b JK
def QvY(a:List Nd):D:=D.sl 15 (LN a) (fun i=>(Nd.rowE (Q8 a i))) Mode.any
def QnK(a:List Nd):Prop:=SM (QvY a)
def QnL(a:List (List UInt8)):List (List UInt8):=BF (LN a) fun i=>Xj a i
theorem Bqr(q : Nd -> Prop)(l : List Nd)(ks : List Int)(h : ∀b, q b -> RShow b)(hq : ∀b∈l, q b)(hl : l.length<=1000000)(hk : ks.length<=maxLen)(hj : (Lib.join (l.map (BQ ks)) [32]).length<=20000000000000) :
  CD 128 [gsl 15 Nd.row1 l,isl ks .any] (.str (Lib.join (l.map (BQ ks)) [32])):=by
 refine Bf (A:=sC _ _) (x:=()) (E:=Ewd q l ks) (eOk (O9 h) rfl) Tryz.func128 rfl (by kernel_rfl) rfl (by simp[sC,Ewd,EC,E0]) ?_
 refine Bk (T :=
  ∀(t:Nat),(∃(x:Nat×Nat×List (List UInt8)),Qda x.1 l x.2.2 ks/\(Z0=(NI x.1)/\(N0=LN x.2.2/\(∀(i:Nat),i<N0->CN (List D) [] (Xj x.2.2 i))/\t=x.2.1)/\True)/\True/\t=x.2.1/\True)/\∀(x:Nat×Nat×List (List UInt8)),Qda x.1 l x.2.2 ks->ifB (decide ((NI x.1)<(LI l))) (Be (Z0<=(NI x.1)/\(NI x.1)<(LI l)) (∀(x_1:Nat),True->SM x_1/\SM x_1/\∃(x_2:Nd),(wkL [D.agg (Nd.rowE (Q7 l x.1)),QnE ks] [D.agg (Nd.rowE x_2),SI (QnG ks)]/\LN ks<=9223372036854775807/\q x_2)/\∀(y:Unit),True->SM x.2.1/\Be ((LN x.2.2+N1)*16<=140737488355328/\LN x.2.2+N1<=9223372036854775807) (∀(t:Nat),(QnK l/\SM (QnE ks)/\QnK l/\SM (ZI (LI l))/\True)/\∃(y:Nat×Nat×List (List UInt8)),Qda y.1 l y.2.2 ks/\LN l-y.1<LN l-x.1/\(IntKind.wrap IntKind.i64 ((NI x.1)+Z1)=(NI y.1)/\(LN x.2.2+N1=LN y.2.2/\(∀(i:Nat),i<LN x.2.2+N1->BW (LN x.2.2) (fun i=>Xj x.2.2 i) (fun i=>[D.str (List.getD [BQ (QnG ks) x_2] i [])]) i=Xj y.2.2 i)/\t=y.2.1)/\True)/\True/\t=y.2.1/\True))) (((C3 (LN x.2.2) fun i=>Xj x.2.2 i)=true/\Gf (QnL x.2.2) [(32:UInt8)])/\∀(y:Unit),True->RT (Lib.join (QnL x.2.2) [(32:UInt8)]=Lib.join (List.map (BQ ks) l) [(32:UInt8)]))) (by kernel_rfl) ?_
 delta DA GI LI LN N0 N1 N4 NI SI SM Z0 Z1 ZI Qda Xj ZX JK Q7 QnE QnG Q8 QvY QnK QnL RT
 try simp only[<- dm]
 try simp only[<- dn]
 simp only[Int.toNat_natCast,Bh,Bc,decide_eq_true_eq,decide_eq_false_iff_not,true_and,and_true,exists_const,forall_const,Prod.exists]
 simp only[Cl]
 unfold maxLen at hk
 refine fun t=>⟨⟨0,t,[],⟨Nat.zero_le _,rfl⟩,⟨rfl,rfl,fun i hi=>absurd hi (Nat.not_lt_zero _),rfl⟩,rfl⟩,?_⟩
 rintro ⟨i,tk,out⟩ ⟨hi,ho⟩
 simp only at hi ho ⊢
 have hlen:out.length=i:=by rw[ho,List.length_map,List.length_take];omega
 refine⟨fun hlt=>?_,fun hge=>?_⟩
 ·have hlt':i<l.length:=by omega
  refine⟨⟨by omega,hlt⟩,l.getD i default,⟨Bi _,hk,hq _ (CY hlt')⟩,⟨by omega,by omega⟩,fun t2=>⟨i+1,t2,out++[BQ ks (l.getD i default)],⟨hlt',?_⟩,by omega,⟨?_,by simp,fun j hj=>Ta j hj,rfl⟩,rfl⟩⟩
  ·rw[CC hlt',List.map_append,ho];rfl
  ·rw[Bb (by omega) (by omega)];rfl
 ·have e:i=l.length:=by omega
  rw[e,List.take_length] at ho
  have e1:BF out.length (fun i=>[D.str (out.getD i [])])=out:=Iw rfl fun _ _=>rfl
  have e2:C3 out.length (fun i=>[D.str (out.getD i [])])=true:=Md rfl fun _ _=>rfl
  rw[e1,ho]
  rw[ho] at e2
  refine⟨⟨?_,?_,?_⟩,rfl⟩
  ·exact e2
  ·rw[List.length_map];omega
  ·omega
noncomputable def Estm(q:Nd->Prop):Senv:=EC (BaS q) 27 3 [4,5,14] (fun id=>match id with | 3=>([0,1,2,3,4,5,6,7],[5]) | 5=>([0,1,4,5,2,3,6,7,8],[2,6]) | _=>([],[]))
def Qdc(a:Sm):List UInt8:=Sm.nm a
def Q9(a:Sm):Nd:=Sm.nd a
def QnQ(a:Sm):D:=D.agg (Nd.rowE (Q9 a))
def Qde(a:Nd)(b:Sm)(c:Nd->Prop):Prop:=isN a [QnQ b] []/\c a
def QnR(a:Sm):List UInt8:=Qdc a++[32,60,45,32]
def Xk(a:Nd):List UInt8:=BD a
def Qdf(a:Nd):Nat:=LN (Xk a)
def Qdg(a:Sm):List UInt8:=EM a
def Ka(a:Sm):Nd:=Sm.te a
def QnV(a:Nd):List UInt8:=Xk a++[32,58,32]
theorem BpK(q:Nd->Prop)(s:Sm)(h:∀b,q b->RShow b)(h1:q s.nd)(h2:s.kd=3->q s.te)(hn:s.nm.length<=By):CD 131 [.agg s.row1] (.str (EM s)):=by
 refine Bf (A:=sC _ _) (x:=()) (E:=Estm q) (eOk (O9 h) rfl) Tryz.func131 rfl (by kernel_rfl) rfl (by simp[sC,Estm,EC,E0]) ?_
 refine Bk (T :=
  ∀(x:Nat),True->SM x/\ifB (Sm.kd s==2) (SM x/\Be (LN (Qdc s)+N4<=9223372036854775807) (SM x/\∃(x_1:Nd),Qde x_1 s q/\∀(y:Unit),True->(SM x/\SM (D.str (Qdc s)))/\Be (LN (QnR s)+Qdf x_1<=9223372036854775807) (RT (QnR s++Xk x_1=Qdg s)))) (ifB (Sm.kd s==3) (SM x/\SM x/\∃(x_1:Nd),(isN x_1 [D.agg (Nd.rowE (Ka s))] []/\q x_1)/\∀(y:Unit),True->(SM x/\SM (QnQ s))/\Be (Qdf x_1+3<=9223372036854775807) (∃(x:Nd),Qde x s q/\∀(y:Unit),True->Be (LN (QnV x_1)+Qdf x<=9223372036854775807) (RT (QnV x_1++Xk x=Qdg s)))) (SM x/\∃(x:Nd),Qde x s q/\∀(y:Unit),True->RT (Xk x=Qdg s)))) (by kernel_rfl) ?_
 delta DA GI LN N1 N4 SI SM Z0 ZI Qdc Q9 QnQ Qde QnR Xk Qdf Qdg Ka QnV RT
 try simp only[<- dm]
 try simp only[<- dn]
 simp only[ne_eq,Bh,Bc,true_and,and_true,beq_iff_eq,beq_eq_false_iff_ne,exists_const,forall_const]
 unfold By at hn
 have l1:=(h _ h1).2
 rw[RG]
 refine⟨fun a=>⟨by omega,s.nd,⟨BB _ _,h1⟩,?_,?_⟩,fun a=>⟨fun b=>?_,fun b=>⟨s.nd,⟨BB _ _,h1⟩,?_⟩⟩⟩
 ·simp only[List.length_append,List.length_cons,List.length_nil];omega
 ·rw[if_pos a]
 ·have l2:=(h _ (h2 b)).2
  refine⟨s.te,⟨BB _ _,h2 b⟩,by omega,s.nd,⟨BB _ _,h1⟩,?_,?_⟩
  ·simp only[List.length_append,List.length_cons,List.length_nil];omega
  ·rw[if_neg a,if_pos b]
 ·rw[if_neg a,if_neg b]
def Tc(n:Nd):List UInt8 :=
 let x:=BQ [16] (n.ki.getD 1 default)++[32]++BD (n.ki.getD 0 default)
 if n.kd=15 then x++([32]++BQ [3,4,5,16,14,15] (n.ki.getD 2 default)) else x
noncomputable def Edv(q:Nd->Prop):Senv:=EC (BaS q) 30 4 [19] (fun id=>match id with | 1=>([0,1,2,3,7,8,9,10,4,5,6,11,12,13],[4,5,11]) | _=>([],[]))
def Vk(a:Nd):List Nd:=Nd.ki a
def Qdh(a:Nd):Int:=(LI (Vk a))
def Z6:Arr:=DA
def K1:Nd:=Nd.mk Z0 Z0 Z0 [] Z0 Z0 Z6 [] [] Z0 Z0 Z0
def Qv3(a:Nd):D:=D.sl 15 (LN (Vk a)) (fun i=>Nd.row1 (List.getD (Vk a) i K1)) Mode.any
def Qdi(a:Nat)(b:Nd):Prop:=SM a/\SM (Qv3 b)
def Kb(a:Nd):Nd:=List.getD (Vk a) N1 K1
def QnZ:List Int:=Bp N1 fun i=>List.getD [[ZI 16]] i []
def Qn0(a:Nd):List UInt8:=BQ QnZ a
def Kc(a:Nd):Nd:=List.getD (Vk a) N0 K1
def Qn4(a:Nd):List UInt8:=Qn0 a++[32]
def Kd(a:Nd):Nd:=List.getD (Vk a) N2 K1
def Qn8(a:Nat):List D:=List.getD [[ZI 3],[ZI 4],[ZI 5],[ZI 16],[ZI 14],[ZI 15]] a []
def Qn9:List Int:=Bp N6 fun i=>Qn8 i
def Qoa(a:Nd):List UInt8:=BQ Qn9 a
def Qdk(a b:Nd):List UInt8:=Qn4 a++BD b
def Qob(a:Nd):List UInt8:=(32:UInt8)::List.append [] (Qoa a)
theorem Bqc(q:Nd->Prop)(n:Nd)(h:∀b,q b->RShow b)(hq:∀b∈n.ki,q b)(h2:2<=n.ki.length)(h3:n.kd=15->n.ki.length=3):CD 130 [.agg n.row2] (.str (Tc n)):=by
 refine Bf (A:=sC _ _) (x:=()) (E:=Edv q) (eOk (O9 h) rfl) Tryz.func130 rfl (by kernel_rfl) rfl (by simp[sC,Edv,EC,E0]) ?_
 refine Bk (T :=
  ∀(x:Nat),True->SM x/\Be (Z0<=Z1/\Z1<Qdh n) (SM x/\Be (Z0<=Z0/\Z0<Qdh n) (Qdi x n/\Qdi x n/\∃(x_1:Nd),(wkL [D.agg (Nd.rowE (Kb n)),D.sl N1 N1 (fun i=>List.getD [[ZI 16]] i []) Mode.full] [D.agg (Nd.row1 x_1),SI QnZ]/\N1<=9223372036854775807/\q x_1)/\∀(y:Unit),True->Qdi x n/\Be (LN (Qn0 x_1)+N1<=9223372036854775807) (∃(x_2:Nd),(isN x_2 [D.agg (Nd.rowE (Kc n))] []/\q x_2)/\∀(y:Unit),True->Be (LN (Qn4 x_1)+LN (BD x_2)<=9223372036854775807) (SM x/\ifB (Nd.kd n==15) (SM x/\Be (Z0<=2/\(2:Int)<Qdh n) (∃(x:Nd),(wkL [D.agg (Nd.rowE (Kd n)),D.sl N1 N6 (fun i=>Qn8 i) Mode.full] [D.agg (Nd.row1 x),SI Qn9]/\N6<=9223372036854775807/\q x)/\∀(y:Unit),True->Be (N1+LN (Qoa x)<=9223372036854775807) (Be (LN (Qdk x_1 x_2)+LN (Qob x)<=9223372036854775807) (RT (Qdk x_1 x_2++Qob x=Tc n))))) (RT (Qdk x_1 x_2=Tc n))))))) (by kernel_rfl) ?_
 delta DA GI LI LN N0 N1 N2 N4 N6 SI SM Z0 Z1 ZI Qob Vk Qdh Z6 K1 Qv3 Qdi Kb QnZ Qn0 Kc Qn4 Kd Qn8 Qn9 Qoa Qdk RT
 try simp only[<- dm]
 try simp only[<- dn]
 simp only[ne_eq,Bh,Bc,true_and,and_true,beq_iff_eq,beq_eq_false_iff_ne,exists_const,forall_const]
 have i1:Bp 1 (fun i=>[[D.int IntKind.i64 16]].getD i [])=[16]:=rfl
 have i6:Bp 6 (fun i=>[[D.int IntKind.i64 3],[D.int IntKind.i64 4],[D.int IntKind.i64 5],[D.int IntKind.i64 16],[D.int IntKind.i64 14],[D.int IntKind.i64 15]].getD i [])=[3,4,5,16,14,15]:=rfl
 have p1:IntsP 1 (fun i=>[[D.int IntKind.i64 16]].getD i []):=fun i hi=>by
  match i,hi with
  |0,_=>rfl
 have p6:IntsP 6 (fun i=>[[D.int IntKind.i64 3],[D.int IntKind.i64 4],[D.int IntKind.i64 5],[D.int IntKind.i64 16],[D.int IntKind.i64 14],[D.int IntKind.i64 15]].getD i []):=fun i hi=>by
  match i,hi with
  |0,_=>rfl
  |1,_=>rfl
  |2,_=>rfl
  |3,_=>rfl
  |4,_=>rfl
  |5,_=>rfl
 have q0:=hq _ (CY (l:=n.ki) (i:=0) (by omega))
 have q1:=hq _ (CY (l:=n.ki) (i:=1) (by omega))
 have wl:∀(ks:List Int) (b:Nd),q b->(BQ ks b).length<=20000000000004:=fun ks b hb=>by
  have h1:=CV ks b.kd (BD b)
  have h2:=(h b hb).2
  unfold BQ
  omega
 have r0:=(h _ q0).2
 have r1:=wl [16] _ q1
 refine⟨⟨by omega,by omega⟩,⟨by omega,by omega⟩,n.ki.getD 1 default,⟨Gl (r:=(n.ki.getD 1 default).row1) p1,by omega,q1⟩,?_,n.ki.getD 0 default,⟨BB _ _,q0⟩,?_,fun hk=>?_,fun hk=>?_⟩
 ·rw[i1];omega
 ·rw[i1];simp only[List.length_append,List.length_cons,List.length_nil];omega
 ·have hl:=h3 hk
  have q2:=hq _ (CY (l:=n.ki) (i:=2) (by omega))
  have r2:=wl [3,4,5,16,14,15] _ q2
  refine⟨⟨by omega,by omega⟩,n.ki.getD 2 default,⟨Gl (r:=(n.ki.getD 2 default).row1) p6,by omega,q2⟩,?_,?_,?_⟩
  ·rw[i6];omega
  ·rw[i1,i6];simp only[List.length_append,List.length_cons,List.length_nil,List.append_eq];omega
  ·rw[i1,i6]
   unfold Tc
   rw[if_pos hk]
   rfl
 ·rw[i1]
  unfold Tc
  rw[if_neg hk]
def Bet(n:Nd)(q:Nd->Prop)(qs:Sm->Prop):Con:=fun k ds S=>match k with
 |127=>some (pA ds S (.str (OD n.va)) (wkL ds [.agg n.va.row1]))
 |98=>some (pA ds S (.str (Ci n.pr)) (wkL ds [.int .i64 n.pr]))
 |99=>some (pA ds S (.str (opT n.op)) (wkL ds [.int .i64 n.op]))
 |128=>match ds with
  | [_,.sl 1 m f _]=>some (pA ds S (.str (Lib.join (n.ki.map (BQ (Bp m f))) [32])) (wkL ds [gsl 15 Nd.row1 n.ki,isl (Bp m f) .any]/\m<=maxLen/\n.ki.length<=1000000/\(Lib.join (n.ki.map (BQ (Bp m f))) [32]).length<=20000000000000))
  |_=>none
 |130=>some (pA ds S (.str (Tc n)) (isN2 n ds []/\2<=n.ki.length/\(n.kd=15->n.ki.length=3)))
 |131=>some (pE (β:=Sm) ds S (fun s=>.str (EM s)) (fun s=>isS s ds []/\qs s))
 |k=>BaS q k ds S
theorem Bid{n:Nd}{q:Nd->Prop}{qs:Sm->Prop}(ho:n.ok)(h:∀b,q b->RShow b)(hq:∀b∈n.ki,q b)(hs:∀s,qs s->q s.nd/\(s.kd=3->q s.te)/\s.nm.length<=By):ConOk Tryz.prog (Bet n q qs):=by
 intro k ds S A hh
 unfold Bet at hh
 split at hh
 ·injection hh with hh;subst hh
  exact Bv fun e=>CD.at_ (CD.wk (show CD _ [.agg n.va.row1] _ from (Bnt n.va (BaY ho)).mono fun _ _ ⟨_,h1,h2,h3⟩=>⟨(),trivial,h2,h3⟩) e) _
 ·injection hh with hh;subst hh
  exact Bv fun e=>CD.at_ (CD.wk (Biy n.pr) e) _
 ·injection hh with hh;subst hh
  exact Bv fun e=>CD.at_ (CD.wk (Bjn n.op) e) _
 ·split at hh
  ·injection hh with hh;subst hh
   exact Bv fun ⟨e,hm,hl,hj⟩=>CD.at_ (CD.wk (Bqr q n.ki _ h hq hl (by rw[B3];exact hm) hj) e) _
  ·cases hh
 ·injection hh with hh;subst hh
  exact Bv fun ⟨e,h2,h3⟩=>CD.at_ (CD.wk (Bqc q n h hq h2 h3) e) _
 ·injection hh with hh;subst hh
  exact EJ fun s ⟨e,hb⟩=>CD.at_ (CD.wk (BpK q s h (hs s hb).1 (hs s hb).2.1 (hs s hb).2.2) e) _
 ·exact O9 h _ _ _ _ hh
theorem BdS{d:D}{m:Nat}{f:Nat->List D}{md:Ab.Mode}(h:IntsP m f):wkL [d,.sl 1 m f md] [d,isl (Bp m f) .any]:=by
 simp only[wkL]
 refine⟨Bl _,?_,trivial⟩
 simp only[isl,wkD,Ba]
 refine⟨by simp,by simp[B3],fun i hi=>?_,by simp[BE]⟩
 have e:(Bp m f).getD i 0=Bih (f i):=by simp[Bp,List.getD_eq_getElem?_getD,hi]
 rw[e,h i hi]
 exact Bi _
noncomputable def Eshn(n:Nd)(q:Nd->Prop)(qs:Sm->Prop):Senv:={ EC (Bet n q qs) 111 4 [5,7,8,13,17,19,21,23,25,27,29,34,39,45,60,83,89,95,96,97,98] (fun id=>match id with | 25=>([0,1,2,3,7,8,9,10,4,5,6,11,12,13],[4,5,11]) | 27=>([0,1,2,3,7,8,9,10,15,16,17,18,4,5,6,11,12,13,14,19,20,21],[4,5,11,12,19]) | _=>([],[])) with
 mg:=fun _=>2
 gh:=fun b=>match b with
  |1=>[.slot 3]
  |_=>[]
 ann:=fun b _ S=>match b with
  |1=>some { slots:=[97,3],keep:=[0,1,95,96],α:=Nat×Nat×List (List UInt8),st:=fun y=>([.int .i64 y.1,ssl y.2.2 (.tok 0 y.2.1)],⟨S.objs,[(0,y.2.1)]⟩),inv:=fun y=>y.1<=n.bo.length/\y.2.2=(n.bo.take y.1).map EM,mu:=fun y=>n.bo.length-y.1 }
  |_=>none }
def Ql(a:Nd):Int:=Nd.kd a
def Xl(a:Nd):Arr:=Nd.va a
def Qoc(a:Nd):Int:=Arr.k (Xl a)
def Qod(a:Nd):D:=ZI (Qoc a)
def Qoe(a:Nd):List Int:=Arr.sh (Xl a)
def Qdl(a:Nd):Nat:=LN (Qoe a)
def Qof(a:Nd)(b:Nat):List D:=[ZI (GI (Qoe a) b)]
def Qog(a:Nd):D:=D.sl N1 (Qdl a) (fun i=>Qof a i) Mode.any
def Qoh(a:Nd):List Int:=Arr.nu (Xl a)
def Qdm(a:Nd):Nat:=LN (Qoh a)
def Qoi(a:Nd)(b:Nat):List D:=[ZI (GI (Qoh a) b)]
def Qoj(a:Nd):D:=D.sl N1 (Qdm a) (fun i=>Qoi a i) Mode.any
def Qok(a:Nd):List Arr:=Arr.it (Xl a)
def Qdn(a:Nd):Nat:=LN (Qok a)
def K2:Arr:=DA
def Qol(a:Nd)(b:Nat):List D:=Arr.row (List.getD (Qok a) b K2)
def Qom(a:Nd):D:=D.sl N4 (Qdn a) (fun i=>Qol a i) Mode.any
def Qon(a:Nd):List D:=[D.agg [Qod a,Qog a,Qoj a,Qom a]]
def Qm(a:Nd):List UInt8:=BD a
def Qt:Prop:=True/\True
def Qdo(a:Nd):List UInt8:=Nd.tx a
def Xm(a:Nd):Int:=Nd.pr a
def Xn(a:Nd):Int:=Nd.op a
def JL(a:Nd):List Nd:=Nd.ki a
def Jh(a:Nd):Nat:=LN (JL a)
def QC:Nd:=Nd.mk Z0 Z0 Z0 [] Z0 Z0 K2 [] [] Z0 Z0 Z0
def Qoo(a:Nd)(b:Nat):List D:=Nd.row1 (List.getD (JL a) b QC)
def Vl(a:Nd):D:=D.sl 15 (Jh a) (fun i=>Qoo a i) Mode.any
def Qop:List (List D):=[[ZI 4],[ZI 5]]
def Qoq(a:Nat):List D:=List.getD ([ZI 3]::Qop) a []
def Qor:List Int:=Bp (3:Nat) fun i=>Qoq i
def Qos(a:Nd):List UInt8:=Lib.join (List.map (BQ Qor) (JL a)) [(32:UInt8)]
def Xo(a:Nd):Int:=(NI (Jh a))
def Qo(a:Nat)(b:Nd):Prop:=SM a/\SM (Vl b)
def Ke(a:Nd):Nd:=List.getD (JL a) N0 QC
def K3:Sm:=Sm.mk Z0 Z0 [] Z0 QC QC
def Qow:List Int:=Bp N1 fun i=>List.getD [[ZI 16]] i []
def Qox(a b:Nd)(c:Nd->Prop):Prop:=wkL [D.agg (Nd.rowE (Ke a)),D.sl N1 N1 (fun i=>List.getD [[ZI 16]] i []) Mode.full] [D.agg (Nd.row1 b),SI Qow]/\N1<=9223372036854775807/\c b
def Qdp(a:Nd):List UInt8:=BQ Qow a
def Qoy(a:Nd):Nat:=LN (Qdp a)
def Kf(a:Nd):Nd:=List.getD (JL a) N1 QC
def QoC(a:Nd):D:=D.agg (Nd.rowE (Kf a))
def QoD(a:Nd):List UInt8:=Qdp a++[32]
def QoE(a:Nat):List D:=List.getD Qop a []
def QoF:List Int:=Bp N2 fun i=>QoE i
def QoG(a b:Nd)(c:Nd->Prop):Prop:=wkL [QoC a,D.sl N1 N2 (fun i=>QoE i) Mode.full] [D.agg (Nd.row1 b),SI QoF]/\N2<=9223372036854775807/\c b
def QoH(a:Nd):List UInt8:=BQ QoF a
def QoI(a:Nd):Nat:=LN (QoH a)+N1
def QoJ(a:Nd):List UInt8:=QoH a++[32]
def QoK(a b:Nd):List UInt8:=QoJ a++Qdp b
def Kg(a:Nd):Nd:=List.getD (JL a) N2 QC
def QoO(a b:Nd):List UInt8:=QoK a b++[32]
def QoP(a:Nd)(b:Nd->Prop)(c:Nat)(d:Nd):Prop:=∃(x:Nd),Qox a x b/\∀(_y:Unit),True->Qo c a/\Be (LN (QoJ d)+Qoy x<=9223372036854775807) (Be (LN (QoK d x)+N1<=9223372036854775807) (∃(x_1:Nd),(isN x_1 [D.agg (Nd.rowE (Kg a))] []/\b x_1)/\∀(_y:Unit),True->Be (LN (QoO d x)+LN (Qm x_1)<=9223372036854775807) (True/\∃(_y:Unit),True/\QoO d x++Qm x_1=Qm a/\Qt)))
def QoQ(a:Nat)(b:Nd)(c:Nd->Prop):Prop:=Qo a b/\Qo a b/\Qo a b/\∃(x:Nd),QoG b x c/\∀(_y:Unit),True->Qo a b/\Qo a b/\Be (QoI x<=9223372036854775807) (QoP b c a x)
def QoR(a:Nat):List D:=List.getD [[ZI 4],[ZI 5],[ZI 16]] a []
def QoS:List Int:=Bp (3:Nat) fun i=>QoR i
def QoT(a:Nd):List UInt8:=Lib.join (List.map (BQ QoS) (JL a)) [(32:UInt8)]
def QoU(a:Nd):Int:=Nd.at_ a
def QoV(a:Nd):Int:=Nd.cl a
def Hd(a:Nd):List Sm:=Nd.bo a
def JM(a:Nd):Nat:=LN (Hd a)
def Vm(a:Nd)(b:Nat):Sm:=List.getD (Hd a) b K3
def Qo2(a:Nd)(b:Nat):List D:=(Sm.row1 (Vm a b))
def Qo3(a:Nd):D:=D.sl 34 (JM a) (fun i=>Qo2 a i) Mode.any
def Qo4(a:Nd):Int:=Nd.de a
def Qo5(a:Nd):Int:=Nd.sl a
def Qo6(a:Nd):Int:=Nd.ss a
def Qo7(a:Nd):D:=D.agg [ZI (Ql a),ZI (QoU a),ZI (QoV a),D.str (Qdo a),ZI (Xm a),ZI (Xn a),Qod a,Qog a,Qoj a,Qom a,Vl a,Qo3 a,ZI (Qo4 a),ZI (Qo5 a),ZI (Qo6 a)]
def Qo8(a:Nat)(b:Nd):Prop:=SM a/\∃(_x:Unit),(isN2 b [Qo7 b] []/\N2<=Jh b/\(Ql b=15->Jh b=3))/\∀(_y:Unit),True->True/\∃(_y:Unit),True/\Tc b=Qm b/\Qt
def Qdq(a:Nat)(b:Nd)(c:List (List UInt8)):Prop:=a<=JM b/\c=List.map EM (List.take a (Hd b))
def Xp(a:List (List UInt8))(b:Nat):List D:=[D.str (List.getD a b [])]
def Qo9(a:Nat)(b:Nd)(c d:Nat):Prop:=(SM a/\(SM (Ql b)/\SM (QoU b)/\SM (QoV b)/\SM (Qdo b)/\SM (Xm b)/\SM (Xn b)/\SM (Qoc b)/\(SM (Qdl b)/\(∀(i:Nat),i<Qdl b->SM (Qof b i))/\True)/\(SM (Qdm b)/\(∀(i:Nat),i<Qdm b->SM (Qoi b i))/\True)/\(SM (Qdn b)/\(∀(i:Nat),i<Qdn b->SM (Qol b i))/\True)/\(SM (Jh b)/\(∀(i:Nat),i<Jh b->SM (Qoo b i))/\True)/\(SM (JM b)/\(∀(i:Nat),i<JM b->SM (Qo2 b i))/\True)/\SM (Qo4 b)/\SM (Qo5 b)/\SM (Qo6 b)/\True)/\True)/\c=d/\True
def Qdr(a:Nd):Int:=(NI (JM a))
def Vn(a:Nd)(b:Nat):Sm:=List.getD (Hd a) (Int.toNat (↑b:Int)) K3
def Qpg(a:List (List UInt8)):List (List UInt8):=BF (LN a) fun i=>Xp a i
def Qph(a:List (List UInt8)):List UInt8:=Lib.join (Qpg a) [(32:UInt8),(59:UInt8),(32:UInt8)]
def Qpi(a:List (List UInt8)):List UInt8:=List.append [] (Qph a)
def Qpj(a:Nat)(b:Nd)(c:Sm->Prop):Prop:=SM a/\∀(t:Nat),(∃(x:Nat×Nat×List (List UInt8)),Qdq x.1 b x.2.2/\(Z0=(NI x.1)/\(N0=LN x.2.2/\(∀(i:Nat),i<N0->CN (List D) [] (Xp x.2.2 i))/\t=x.2.1)/\True)/\Qo9 a b t x.2.1)/\∀(x:Nat×Nat×List (List UInt8)),Qdq x.1 b x.2.2->ifB (decide ((NI x.1)<Qdr b)) (Be (Z0<=(NI x.1)/\(NI x.1)<Qdr b) (∀(x_1:Nat),a≠x_1/\True->SM x_1/\SM x_1/\∃(x_2:Sm),(isS x_2 [D.agg (Sm.row1 (Vn b x.1))] []/\c x_2)/\∀(_y:Unit),True->SM x.2.1/\Be ((LN x.2.2+N1)*16<=140737488355328/\LN x.2.2+N1<=9223372036854775807) (∀(t:Nat),(SM (Qo7 b)/\SM (D.ref N0 a N0)/\SM (Qo3 b)/\SM (ZI (Qdr b))/\True)/\∃(y:Nat×Nat×List (List UInt8)),Qdq y.1 b y.2.2/\JM b-y.1<JM b-x.1/\(IntKind.wrap IntKind.i64 ((NI x.1)+Z1)=(NI y.1)/\(LN x.2.2+N1=LN y.2.2/\(∀(i:Nat),i<LN x.2.2+N1->BW (LN x.2.2) (fun i=>Xp x.2.2 i) (fun i=>[D.str (List.getD [EM x_2] i [])]) i=Xp y.2.2 i)/\t=y.2.1)/\True)/\Qo9 a b t y.2.1))) (((C3 (LN x.2.2) fun i=>Xp x.2.2 i)=true/\Gf (Qpg x.2.2) [(32:UInt8),(59:UInt8),(32:UInt8)])/\∀(_y:Unit),True->Be (N2+LN (Qph x.2.2)<=9223372036854775807) (Be (LN ((123:UInt8)::(32:UInt8)::Qpi x.2.2)+N2<=9223372036854775807) (True/\∃(_y:Unit),True/\(123:UInt8)::(32:UInt8)::List.append (Qpi x.2.2) [(32:UInt8),(125:UInt8)]=Qm b/\Qt)))
theorem Bm9(n : Nd)(q : Nd -> Prop)(qs : Sm -> Prop)(hv : BL n=true)(ho : n.ok)(hz : szN n<=16384)(h : ∀b, q b -> RShow b)(hq : ∀b∈n.ki, q b)(hs : ∀s, qs s -> q s.nd /\ (s.kd=3 -> q s.te) /\ s.nm.length<=By)(hqs : n.kd=10 -> ∀s∈n.bo, qs s) :
  CD 105 [.agg n.row2] (.str (BD n)):=by
 refine Bf (A:=sC _ _) (x:=()) (E:=Eshn n q qs) (eOk (Bid ho h hq hs) rfl) Tryz.func105 rfl (by kernel_rfl) rfl (by simp[sC,Eshn,EC,E0]) ?_
 refine Bk (T :=
  ∀(x:Nat),True->SM x/\ifB (Ql n==Z1) (SM x/\∃(x:Unit),wkL (Qon n) (Qon n)/\∀(y:Unit),True->True/\∃(y:Unit),True/\OD (Xl n)=Qm n/\Qt) (ifB (Ql n==2) (SM x/\True/\∃(y:Unit),True/\Qdo n=Qm n/\Qt) (ifB (Ql n==6) (True/\∃(y:Unit),True/\[(88:UInt8)]=Qm n/\Qt) (ifB (Ql n==7) (True/\∃(y:Unit),True/\[(89:UInt8)]=Qm n/\Qt) (ifB (Ql n==8) (True/\∃(y:Unit),True/\[(97:UInt8),(114:UInt8),(103:UInt8)]=Qm n/\Qt) (ifB (Ql n==11) (True/\∃(y:Unit),True/\[(115:UInt8),(101:UInt8),(108:UInt8),(102:UInt8)]=Qm n/\Qt) (ifB (Ql n==12) (True/\∃(y:Unit),True/\[(70:UInt8)]=Qm n/\Qt) (ifB (Ql n==13) (True/\∃(y:Unit),True/\[(71:UInt8)]=Qm n/\Qt) (ifB (Ql n==9) (SM x/\∃(x:Unit),wkL [ZI (Xm n)] [ZI (Xm n)]/\∀(y:Unit),True->True/\∃(y:Unit),True/\Ci (Xm n)=Qm n/\Qt) (ifB (Ql n==17) (SM x/\∃(x:Unit),wkL [ZI (Xn n)] [ZI (Xn n)]/\∀(y:Unit),True->True/\∃(y:Unit),True/\opT (Xn n)=Qm n/\Qt) (ifB (Ql n==3) (SM x/\∃(x:Unit),(wkL [Vl n,D.sl N1 (3:Nat) (fun i=>Qoq i) Mode.full] [Vl n,SI Qor]/\(3:Nat)<=9223372036854775807/\Jh n<=1000000/\LN (Qos n)<=20000000000000)/\∀(y:Unit),True->True/\∃(y:Unit),True/\Qos n=Qm n/\Qt) (ifB (Ql n==4) (SM x/\Be (Z0<=Z0/\Z0<Xo n) (SM x/\Be (Z0<=Z1/\Z1<Xo n) (Qo x n/\Qo x n/\∃(x_1:Nd),Qox n x_1 q/\∀(y:Unit),True->Qo x n/\Be (Qoy x_1+N1<=9223372036854775807) (∃(x:Nd),(isN x [QoC n] []/\q x)/\∀(y:Unit),True->Be (LN (QoD x_1)+LN (Qm x)<=9223372036854775807) (True/\∃(y:Unit),True/\QoD x_1++Qm x=Qm n/\Qt))))) (ifB (Ql n==5) (SM x/\Be (Z0<=Z1/\Z1<Xo n) (SM x/\Be (Z0<=Z0/\Z0<Xo n) (SM x/\Be (Z0<=2/\(2:Int)<Xo n) ((Qo x n/\Qo x n/\Qo x n/\(∃(x_1:Nd),QoG n x_1 q/\∀(y:Unit),True->Qo x n/\Qo x n/\Be (QoI x_1<=9223372036854775807) (Qo x n/\Qo x n/\QoP n q x x_1))/\QoQ x n q)/\Qo x n/\Qo x n/\Qo x n/\QoQ x n q)))) (ifB (Ql n==16) (SM x/\∃(x:Unit),(wkL [Vl n,D.sl N1 (3:Nat) (fun i=>QoR i) Mode.full] [Vl n,SI QoS]/\(3:Nat)<=9223372036854775807/\Jh n<=1000000/\LN (QoT n)<=20000000000000)/\∀(y:Unit),True->True/\∃(y:Unit),True/\QoT n=Qm n/\Qt) (ifB (Ql n==14) (ifB (Ql n==14) (Qo8 x n) (Qpj x n qs)) (ifB (Ql n==15) (Qo8 x n) (Qpj x n qs))))))))))))))))) (by kernel_rfl) ?_
 delta DA GI LN N0 N1 N2 N4 NI SI SM Z0 Z1 ZI Ql Xl Qoi Qo8 Qdq Xp Qo9 Qdr Vn Qoj Qok Qpg Qph Qpi Qpj Qdn K2 Qol Qom Qon Qm Qt Qoc Qdo Xm Xn JL Jh QC Qoo Vl Qop Qoq Qod Qor Qos Xo Qo Ke Qoe K3 Qow Qox Qdp Qoy Kf Qdl QoC QoD QoE QoF QoG QoH QoI Qof QoJ QoK Kg QoO Qog QoP QoQ QoR QoS QoT QoU QoV Hd JM Vm Qoh Qdm Qo2 Qo3 Qo4 Qo5 Qo6 Qo7
 try simp only[<- dm]
 try simp only[<- dn]
 simp only[ne_eq,implies_true,Int.toNat_natCast,Bh,Bc,decide_eq_true_eq,decide_eq_false_iff_not,true_and,and_true,beq_iff_eq,beq_eq_false_iff_ne,exists_const,forall_const,Prod.exists]
 have i1:Bp 1 (fun i=>[[D.int IntKind.i64 16]].getD i [])=[16]:=rfl
 have i2:Bp 2 (fun i=>[[D.int IntKind.i64 4],[D.int IntKind.i64 5]].getD i [])=[4,5]:=rfl
 have i3:∀a b c:Int,Bp 3 (fun i=>[[D.int IntKind.i64 a],[D.int IntKind.i64 b],[D.int IntKind.i64 c]].getD i [])=[a,b,c]:=fun _ _ _=>rfl
 have p1:IntsP 1 (fun i=>[[D.int IntKind.i64 16]].getD i []):=fun i hi=>by
  match i,hi with
  |0,_=>rfl
 have p2:IntsP 2 (fun i=>[[D.int IntKind.i64 4],[D.int IntKind.i64 5]].getD i []):=fun i hi=>by
  match i,hi with
  |0,_=>rfl
  |1,_=>rfl
 have p3:∀a b c:Int,IntsP 3 (fun i=>[[D.int IntKind.i64 a],[D.int IntKind.i64 b],[D.int IntKind.i64 c]].getD i []):=fun _ _ _ i hi=>by
  match i,hi with
  |0,_=>rfl
  |1,_=>rfl
  |2,_=>rfl
 obtain ⟨L2,L3,_⟩:=Mk hv
 have kq:∀i,i<n.ki.length->q (n.ki.getD i default):=fun i hi=>hq _ (CY hi)
 have wl:∀(ks:List Int) (b:Nd),q b->(BQ ks b).length<=20000000000004:=fun ks b hb=>by
  have h1:=CV ks b.kd (BD b)
  have h2:=(h b hb).2
  unfold BQ
  omega
 have sg:∀i,i<n.ki.length->(BO n.ki).getD i []=BD (n.ki.getD i default):=fun i hi=>Oz hi
 have hlen:=GL n hv ho
 have hkl:n.ki.length<=szL n.ki:=by
  have:∀l:List Nd,l.length<=szL l:=fun l=>by
   induction l with
   |nil=>simp[szL]
   |cons a r ih=>have:=Bbh a;simp only[List.length_cons,szL];omega
  exact this _
 have hsz:=Bfk n
 have hbl:n.bo.length<=szB n.bo:=by
  have:∀l:List Sm,l.length<=szB l:=fun l=>by
   induction l with
   |nil=>simp[szB]
   |cons a r ih =>
    have:=Bbh a.nd
    have e:=Rh a
    simp only[List.length_cons,szB]
    split at e<;>omega
  exact this _
 simp only[i1,i2,i3]
 rw[Mw] at hlen ⊢
 refine fun x=>⟨fun k=>?_,fun n1=>⟨fun k=>?_,fun n2=>⟨fun k=>?_,fun n6=>⟨fun k=>?_,fun n7=>⟨fun k=>?_,fun n8=>⟨fun k=>?_,fun n11=>⟨fun k=>?_,fun n12=>⟨fun k=>?_,fun n13=>⟨fun k=>?_,fun n9=>⟨fun k=>?_,fun n17=>⟨fun k=>?_,fun n3=>⟨fun k=>?_,fun n4=>⟨fun k=>?_,fun n5=>⟨fun k=>?_,fun n16=>⟨fun k=>⟨fun _=>?_,fun e=>(e k).elim⟩,fun n14=>⟨fun k=>?_,fun n15=>?_⟩⟩⟩⟩⟩⟩⟩⟩⟩⟩⟩⟩⟩⟩⟩⟩
 ·exact⟨Bi _,by rw[if_pos k]⟩
 ·rw[if_neg n1,if_pos k]
 ·rw[if_neg n1,if_neg n2,if_pos k]
 ·rw[if_neg n1,if_neg n2,if_neg n6,if_pos k]
 ·rw[if_neg n1,if_neg n2,if_neg n6,if_neg n7,if_pos k]
 ·rw[if_neg n1,if_neg n2,if_neg n6,if_neg n7,if_neg n8,if_pos k]
 ·rw[if_neg n1,if_neg n2,if_neg n6,if_neg n7,if_neg n8,if_neg n11,if_pos k]
 ·rw[if_neg n1,if_neg n2,if_neg n6,if_neg n7,if_neg n8,if_neg n11,if_neg n12,if_pos k]
 ·exact⟨Bi _,by rw[if_neg n1,if_neg n2,if_neg n6,if_neg n7,if_neg n8,if_neg n11,if_neg n12,if_neg n13,if_pos k]⟩
 ·exact⟨Bi _,by rw[if_neg n1,if_neg n2,if_neg n6,if_neg n7,if_neg n8,if_neg n11,if_neg n12,if_neg n13,if_neg n9,if_pos k]⟩
 ·rw[if_neg n1,if_neg n2,if_neg n6,if_neg n7,if_neg n8,if_neg n11,if_neg n12,if_neg n13,if_neg n9,if_neg n17,if_pos k] at hlen ⊢
  exact⟨⟨BdS (p3 _ _ _),by omega,by omega,by omega⟩,rfl⟩
 ·rw[if_neg n1,if_neg n2,if_neg n6,if_neg n7,if_neg n8,if_neg n11,if_neg n12,if_neg n13,if_neg n9,if_neg n17,if_neg n3,if_pos k]
  have hL:n.ki.length=2:=L2 (.inl k)
  have q0:=kq 0 (by omega)
  have q1:=kq 1 (by omega)
  have r0:=(h _ q0).2
  have r1:=(h _ q1).2
  have w0:=wl [16] _ q0
  have w1:=wl [4,5] _ q1
  rw[sg 0 (by omega),sg 1 (by omega)]
  repeat' (first
   |refine⟨n.ki.getD 0 default,⟨Gl (r:=(n.ki.getD 0 default).row1) p1,by omega,q0⟩,?_⟩
   |refine⟨n.ki.getD 1 default,⟨Gl (r:=(n.ki.getD 1 default).row1) p2,by omega,q1⟩,?_⟩
   |refine⟨n.ki.getD 0 default,⟨BB _ _,q0⟩,?_⟩
   |refine⟨n.ki.getD 1 default,⟨BB _ _,q1⟩,?_⟩
   |refine And.intro ?_ ?_)
  all_goals first
   |rfl
   |omega
   |(simp only[List.length_append,List.length_cons,List.length_nil];omega)
 ·rw[if_neg n1,if_neg n2,if_neg n6,if_neg n7,if_neg n8,if_neg n11,if_neg n12,if_neg n13,if_neg n9,if_neg n17,if_neg n3,if_neg n4,if_pos k]
  have hL:n.ki.length=3:=L3 (.inl k)
  have q0:=kq 0 (by omega)
  have q1:=kq 1 (by omega)
  have r0:=(h _ q0).2
  have r1:=(h _ q1).2
  have w0:=wl [16] _ q0
  have w1:=wl [4,5] _ q1
  have q2:=kq 2 (by omega)
  have r2:=(h _ q2).2
  rw[sg 0 (by omega),sg 1 (by omega),sg 2 (by omega)]
  repeat' (first
   |refine⟨n.ki.getD 0 default,⟨Gl (r:=(n.ki.getD 0 default).row1) p1,by omega,q0⟩,?_⟩
   |refine⟨n.ki.getD 1 default,⟨Gl (r:=(n.ki.getD 1 default).row1) p2,by omega,q1⟩,?_⟩
   |refine⟨n.ki.getD 0 default,⟨BB _ _,q0⟩,?_⟩
   |refine⟨n.ki.getD 1 default,⟨BB _ _,q1⟩,?_⟩
   |refine⟨n.ki.getD 2 default,⟨BB _ _,q2⟩,?_⟩
   |refine And.intro ?_ ?_)
  all_goals first
   |rfl
   |omega
   |(simp only[List.length_append,List.length_cons,List.length_nil];omega)
 ·rw[if_neg n1,if_neg n2,if_neg n6,if_neg n7,if_neg n8,if_neg n11,if_neg n12,if_neg n13,if_neg n9,if_neg n17,if_neg n3,if_neg n4,if_neg n5,if_pos k] at hlen ⊢
  exact⟨⟨BdS (p3 _ _ _),by omega,by omega,by omega⟩,rfl⟩
 ·rw[if_neg n1,if_neg n2,if_neg n6,if_neg n7,if_neg n8,if_neg n11,if_neg n12,if_neg n13,if_neg n9,if_neg n17,if_neg n3,if_neg n4,if_neg n5,if_neg n16,if_pos k]
  have hL:=(L2 (.inr k))
  refine⟨⟨Mg n _,by omega,fun e=>L3 (.inr e)⟩,?_⟩
  unfold Tc
  rw[sg 0 (by omega),sg 1 (by omega),if_neg (by omega)]
  rfl
 ·rw[if_neg n1,if_neg n2,if_neg n6,if_neg n7,if_neg n8,if_neg n11,if_neg n12,if_neg n13,if_neg n9,if_neg n17,if_neg n3,if_neg n4,if_neg n5,if_neg n16,if_neg n14,if_pos k]
  have hL:=(L3 (.inr k))
  refine⟨⟨Mg n _,by omega,fun e=>L3 (.inr e)⟩,?_⟩
  unfold Tc
  rw[sg 0 (by omega),sg 1 (by omega),sg 2 (by omega),if_pos k]
  simp only[List.append_assoc]
  rfl
 ·have k10:n.kd=10:=by
   by_cases hk:n.kd=10
   ·exact hk
   ·rcases CR hv hk with hc | ⟨hc,_⟩
    ·unfold C9 at hc
     simp[n1,n2,n6,n7,n8,n9,n11,n12,n13,n17] at hc
    ·unfold C4 at hc
     simp[n3,n4,n5,n14,n15,n16] at hc
  rw[if_neg n1,if_neg n2,if_neg n6,if_neg n7,if_neg n8,if_neg n11,if_neg n12,if_neg n13,if_neg n9,if_neg n17,if_neg n3,if_neg n4,if_neg n5,if_neg n16,if_neg n14,if_neg n15] at hlen ⊢
  refine fun t=>⟨⟨0,t,[],⟨Nat.zero_le _,rfl⟩,⟨rfl,rfl,fun i hi=>absurd hi (Nat.not_lt_zero _),rfl⟩,rfl⟩,?_⟩
  rintro ⟨i,tk,out⟩ ⟨hi,hout⟩
  simp only at hi hout ⊢
  have hol:out.length=i:=by rw[hout,List.length_map,List.length_take];omega
  refine⟨fun hlt=>?_,fun hge=>?_⟩
  ·have hlt':i<n.bo.length:=by omega
   refine⟨⟨by omega,hlt⟩,fun _ _=>⟨n.bo.getD i default,⟨Ie _ _,hqs k10 _ (IR hlt')⟩,⟨by omega,by omega⟩,fun t2=>⟨i+1,t2,out++[EM (n.bo.getD i default)],⟨hlt',?_⟩,by omega,⟨?_,by simp,fun j hj=>Ta j hj,rfl⟩,rfl⟩⟩⟩
   ·rw[CC hlt',List.map_append,hout];rfl
   ·rw[Bb (by omega) (by omega)];rfl
  ·have e:i=n.bo.length:=by omega
   rw[e,List.take_length] at hout
   have e1:BF out.length (fun i=>[D.str (out.getD i [])])=out:=Iw rfl fun _ _=>rfl
   have e2:C3 out.length (fun i=>[D.str (out.getD i [])])=true:=Md rfl fun _ _=>rfl
   rw[e1,hout]
   rw[hout] at e2
   simp only[List.length_append,List.length_cons,List.length_nil] at hlen
   refine⟨⟨e2,?_,by omega⟩,by omega,?_,?_⟩
   ·rw[List.length_map];omega
   ·simp only[List.length_cons,List.append_eq,List.nil_append];omega
   ·rfl
theorem Oy{n:Nd}:Ek n=0↔dpN n<=60/\szN n<=16384/\BL n=true:=by
 unfold Ek
 by_cases h1:60<dpN n
 ·rw[if_pos h1];exact⟨fun h=>by omega,fun h=>by omega⟩
 rw[if_neg h1]
 by_cases h2:16384<szN n
 ·rw[if_pos h2];exact⟨fun h=>by omega,fun h=>by omega⟩
 rw[if_neg h2]
 by_cases h3:BL n=true
 ·rw[if_pos h3];exact⟨fun _=>⟨by omega,by omega,h3⟩,fun _=>rfl⟩
 ·rw[if_neg h3];exact⟨fun h=>by omega,fun h=>(h3 h.2.2).elim⟩
theorem Bp7{s:Sm}(h:s.sm):s.nm.length<=By:=by
 cases s with
 |mk kd at_ nm sl te nd =>
  simp only[Sm.sm] at h
  exact h.1
theorem Bf0(n:Nd)(hv:BL n=true)(ho:n.ok)(hn:n.sm)(hz:szN n<=16384):RShow n:=by
 have hl:=GL n hv ho
 refine⟨Bm9 n RShow (fun s=>RShow s.nd/\(s.kd=3->RShow s.te)/\s.nm.length<=By) hv ho hz (fun _ h=>h) (fun b hb=>?_) (fun _ h=>h) (fun hk s hs=>?_),by omega⟩
 ·have:=IB (GC hb)
  exact Bf0 b ((GU hv).1 b hb) (Baq ho b hb) (Tw hn (GC hb)) (by omega)
 ·have h1:=hv
  rw[Ea,Bool.and_eq_true,if_pos hk,Bool.and_eq_true] at h1
  have hb:=h1.2.2
  unfold CL at hb
  rw[Bool.and_eq_true] at hb
  obtain ⟨q1,q2⟩:=EQ hb.2 s hs
  have o:=EH (T8 ho s hs)
  have m:=ME (Bar hn s hs)
  have i1:s.nd∈BH n:=List.mem_append.2 (.inr (List.mem_flatMap.2 ⟨s,hs,by unfold Bn;split<;>simp⟩))
  have z1:=IB i1
  refine⟨Bf0 s.nd q1 o.2 m.2 (by omega),fun h3=>?_,Bp7 (Bar hn s hs)⟩
  have i2:s.te∈BH n:=List.mem_append.2 (.inr (List.mem_flatMap.2 ⟨s,hs,by unfold Bn;rw[if_pos h3];simp⟩))
  have z2:=IB i2
  have hv2:BL s.te=true:=by
   rcases q2 with ⟨_,q,_⟩ | ⟨q,_⟩
   ·exact q
   ·exact (q h3).elim
  exact Bf0 s.te hv2 o.1 m.1 (by omega)
termination_by szN n
decreasing_by all_goals omega
def Boi(n:Nd):Con:=fun k ds S=>match k with
 |104=>some (pA ds S (.int .i64 (Ek n)) (isN n ds []))
 |105=>some (pA ds S (.str (BD n)) (isN n ds []/\Ek n=0))
 |_=>none
noncomputable def Esw(n:Nd):Senv:=EC (Boi n) 8 3 [5] (fun _=>([],[]))
def Qpm(a:Nd):Prop:=isN a [D.agg (Nd.rowE a)] []
theorem Bpf(n:Nd)(ho:n.ok)(hn:n.sm):CD 70 [.agg n.row1] (.str (Oh n)):=by
 refine Bf (A:=sC _ _) (x:=()) (E:=Esw n) (eOk ?_ rfl) Tryz.func70 rfl (by kernel_rfl) rfl (by simp[sC,Esw,EC,E0]) ?_
 ·intro k ds S A hh
  try unfold Boi at hh
  try dsimp only at hh
  split at hh
  ·injection hh with hh;subst hh
   exact Bv fun e=>CD.at_ (CD.wk (BpI n ho hn) e) _
  ·injection hh with hh;subst hh
   refine Bv fun ⟨e,h0⟩=>?_
   obtain ⟨_,h2,h3⟩:=Oy.1 h0
   exact CD.at_ (CD.isN (Bf0 n h3 ho hn h2).1 e) _
  ·cases hh
 refine Bk (T :=
  ∀(x:Nat),True->SM x/\∃(x_1:Unit),Qpm n/\∀(y:Unit),True->ifB (Ek n != Z0) (RT (CN (List UInt8) [] (Oh n))) (SM x/\∃(x:Unit),(Qpm n/\Ek n=Z0)/\∀(y:Unit),True->RT (BD n=Oh n))) (by kernel_rfl) ?_
 delta DA GI LN N1 N4 SI SM Z0 ZI Qpm RT
 try simp only[<- dm]
 try simp only[<- dn]
 simp only[ne_eq,Bh,true_and,and_true,bne_iff_ne,bne_eq_false_iff_eq,exists_const,forall_const]
 unfold Oh
 refine⟨BB _ _,fun h=>?_,fun h=>⟨⟨BB _ _,h⟩,?_⟩⟩
 ·rw[if_neg h]
 ·rw[if_pos h]
theorem Bo9(sep:List UInt8)(a b:List (List UInt8)):jT sep (a++b)=jT sep a++jT sep b:=by
 unfold jT
 rw[List.flatMap_append]
theorem Blx(sep:List UInt8)(a b:List (List UInt8))(h:a≠[]):Lib.join (a++b) sep=Lib.join a sep++jT sep b:=by
 cases a with
 |nil=>exact (h rfl).elim
 |cons x r=>rw[List.cons_append,BY,BY,Bo9,List.append_assoc]
inductive Pt where
 |tx (x:List UInt8)
 |op
 |cl
 |sp
def prT:Pt->List UInt8
 |.tx x=>x
 |.op=>[123]
 |.cl=>[125]
 |.sp=>[59]
def ptW(ks:List Int)(k:Int)(l:List Pt):List Pt:=if ks.contains k=true then .tx [40]::(l++[.tx [41]]) else l
def ptZ(ks:List Int):List Nd->List (List Pt)->List Pt
 |n::l,x::r=>ptW ks n.kd x++ptZ ks l r
 |_,_=>[]
def ptJ:List (List Pt)->List Pt
 | []=>[]
 |x::r=>x++r.flatMap fun y=>.sp::y
mutual
def ptN:Nd->List Pt
 |.mk kd at_ cl tx pr op va ki bo de sl ss =>
  if kd=3 then ptZ [3,4,5] ki (ptL ki)
  else if kd=4 then ptW [16] (kAt ki 0) ((ptL ki).getD 0 [])++(ptL ki).getD 1 []
  else if kd=5 then ptW [4,5] (kAt ki 1) ((ptL ki).getD 1 [])++(ptW [16] (kAt ki 0) ((ptL ki).getD 0 [])++(ptL ki).getD 2 [])
  else if kd=16 then ptZ [4,5,16] ki (ptL ki)
  else if kd=14 then ptW [16] (kAt ki 1) ((ptL ki).getD 1 [])++(ptL ki).getD 0 []
  else if kd=15 then ptW [16] (kAt ki 1) ((ptL ki).getD 1 [])++((ptL ki).getD 0 []++ptW [3,4,5,16,14,15] (kAt ki 2) ((ptL ki).getD 2 []))
  else if kd=10 then .op::(ptJ (ptS bo)++[.cl])
  else [.tx (BD (.mk kd at_ cl tx pr op va ki bo de sl ss))]
def ptL:List Nd->List (List Pt)
 | []=>[]
 |x::r=>ptN x::ptL r
def ptS:List Sm->List (List Pt)
 | []=>[]
 |x::r=>ptM x::ptS r
def ptM:Sm->List Pt
 |.mk kd _ nm _ te nd=>if kd=2 then .tx nm::.tx [60,45]::ptN nd else if kd=3 then ptN te++(.tx [58]::ptN nd) else ptN nd
end
theorem BbI:∀l:List Nd,ptL l=l.map ptN
 | []=>by simp only[ptL,List.map_nil]
 |x::r=>by simp only[ptL,List.map_cons,BbI r]
theorem BgQ:∀l:List Sm,ptS l=l.map ptM
 | []=>by simp only[ptS,List.map_nil]
 |x::r=>by simp only[ptS,List.map_cons,BgQ r]
def UA(ks:List Int)(n:Nd):List Pt:=ptW ks n.kd (ptN n)
theorem BgD(ks:List Int):∀l:List Nd,ptZ ks l (ptL l)=l.flatMap (UA ks)
 | []=>by simp only[ptZ,List.flatMap_nil]
 |x::r=>by simp only[ptL,ptZ,List.flatMap_cons,BgD ks r];rfl
theorem RB{l:List Nd}{i:Nat}(h:i<l.length):(ptL l).getD i []=ptN (l.getD i default):=by
 rw[BbI]
 simp[List.getD_eq_getElem?_getD,h]
theorem GN(s:Sm):ptM s=if s.kd=2 then .tx s.nm::.tx [60,45]::ptN s.nd else if s.kd=3 then ptN s.te++(.tx [58]::ptN s.nd) else ptN s.nd:=by
 cases s
 simp only[ptM]
 rfl
theorem WB(n : Nd) : ptN n=if n.kd=3 then n.ki.flatMap (UA [3, 4, 5])
  else if n.kd=4 then ptW [16] (kAt n.ki 0) ((ptL n.ki).getD 0 [])++(ptL n.ki).getD 1 []
  else if n.kd=5 then ptW [4,5] (kAt n.ki 1) ((ptL n.ki).getD 1 [])++(ptW [16] (kAt n.ki 0) ((ptL n.ki).getD 0 [])++(ptL n.ki).getD 2 [])
  else if n.kd=16 then n.ki.flatMap (UA [4,5,16])
  else if n.kd=14 then ptW [16] (kAt n.ki 1) ((ptL n.ki).getD 1 [])++(ptL n.ki).getD 0 []
  else if n.kd=15 then ptW [16] (kAt n.ki 1) ((ptL n.ki).getD 1 [])++((ptL n.ki).getD 0 []++ptW [3,4,5,16,14,15] (kAt n.ki 2) ((ptL n.ki).getD 2 []))
  else if n.kd=10 then .op::(ptJ (n.bo.map ptM)++[.cl])
  else [.tx (BD n)]:=by
 cases n
 simp only[ptN,BgD,BgQ]
 rfl
theorem neA{α:Type}{a b:List α}(h:a≠[]):a++b≠[]:=fun e=>h (List.append_eq_nil_iff.1 e).1
def txP(l:List Pt):List UInt8:=Lib.join (l.map prT) [32]
theorem Bbp(y:List UInt8)(r:List (List UInt8))(sep:List UInt8):jT sep (y::r)=sep++Lib.join (y::r) sep:=by
 rw[BY]
 simp[jT]
theorem CW{a b:List Pt}(ha:a≠[])(hb:b≠[]):txP (a++b)=txP a++(32::txP b):=by
 unfold txP
 rw[List.map_append,Blx _ _ _ (by simpa using ha)]
 cases b with
 |nil=>exact (hb rfl).elim
 |cons y r =>
  rw[List.map_cons,Bbp]
  rfl
theorem UE(x:Pt):txP [x]=prT x:=by
 unfold txP
 rw[List.map_cons,List.map_nil,BY]
 simp[jT]
theorem ED{x:Pt}{b:List Pt}(hb:b≠[]):txP (x::b)=prT x++(32::txP b):=by
 have:=CW (a:=[x]) (by simp) hb
 rw[UE] at this
 exact this
theorem RC(ks:List Int)(k:Int)(l:List Pt)(h:l≠[]):txP (ptW ks k l)=Er ks k (txP l)/\ptW ks k l≠[]:=by
 unfold ptW Er
 split
 ·refine⟨?_,by simp⟩
  rw[ED (by simp),CW h (by simp),UE]
  simp[prT,Bkn]
 ·exact⟨rfl,h⟩
theorem BdL{α:Type}(f:α->List Pt)(g:α->List UInt8):∀l:List α,l≠[]->(∀x∈l,txP (f x)=g x/\f x≠[])->txP (l.flatMap f)=Lib.join (l.map g) [32]/\l.flatMap f≠[]
 | [],h,_=>(h rfl).elim
 | [x],_,hx=>by
  have:=hx x (by simp)
  rw[List.flatMap_cons,List.flatMap_nil,List.append_nil,List.map_cons,List.map_nil,BY]
  exact⟨by rw[this.1];simp[jT],this.2⟩
 |x::y::r,_,hx=>by
  have h1:=hx x (by simp)
  have h2:=BdL f g (y::r) (by simp) fun z hz=>hx z (by simp[List.mem_cons.1 hz])
  rw[List.flatMap_cons]
  refine⟨?_,by simp[h1.2]⟩
  rw[CW h1.2 h2.2,h1.1,h2.1]
  rw[List.map_cons (a:=x),BY (g x),List.map_cons,Bbp]
  rfl
theorem BqD{α:Type}(f:α->List Pt)(g:α->List UInt8):∀l:List α,l≠[]->(∀x∈l,txP (f x)=g x/\f x≠[])->txP (ptJ (l.map f))=Lib.join (l.map g) [32,59,32]/\ptJ (l.map f)≠[]
 | [],h,_=>(h rfl).elim
 |x::r,_,hx=>by
  have h1:=hx x (by simp)
  have hr:∀l:List α,(∀x∈l,txP (f x)=g x/\f x≠[])->∀a:List Pt,a≠[]->txP (a++(l.map f).flatMap fun y=>.sp::y)=txP a++jT [32,59,32] (l.map g):=by
   intro l
   induction l with
   |nil=>intro _ a _;simp[jT]
   |cons y l ih =>
    intro hl a ha
    have hy:=hl y (by simp)
    rw[List.map_cons,List.flatMap_cons,<- List.append_assoc,ih (fun z hz=>hl z (by simp[hz])) _ (by simp[ha]),CW ha (by simp),ED hy.2,hy.1,List.map_cons]
    simp[jT,prT]
  rw[List.map_cons,ptJ,List.map_cons,BY,hr r (fun z hz=>hx z (by simp[hz])) _ h1.2,h1.1]
  exact⟨rfl,by simp[h1.2]⟩
theorem Bau(n:Nd)(hv:BL n=true):txP (ptN n)=BD n/\ptN n≠[]:=by
 obtain ⟨L2,L3,_⟩:=Mk hv
 have vk:=(GU hv).1
 have kid:∀i,i<n.ki.length->txP (ptN (n.ki.getD i default))=BD (n.ki.getD i default)/\ptN (n.ki.getD i default)≠[]:=fun i hi =>
  have hm:n.ki.getD i default∈n.ki:=CY hi
  Bau _ (vk _ hm)
 have kids:∀ks:List Int,n.ki≠[]->txP (n.ki.flatMap (UA ks))=Lib.join (n.ki.map (BQ ks)) [32]/\n.ki.flatMap (UA ks)≠[]:=fun ks hne =>
  BdL (UA ks) (BQ ks) n.ki hne fun x hx=>by
   have h:=Bau x (vk x hx)
   have h2:=RC ks x.kd (ptN x) h.2
   unfold UA BQ
   rw[h2.1,h.1]
   exact⟨rfl,h2.2⟩
 have sg:∀i,i<n.ki.length->(BO n.ki).getD i []=BD (n.ki.getD i default):=fun i hi=>Oz hi
 have pg:∀i,i<n.ki.length->(ptL n.ki).getD i []=ptN (n.ki.getD i default):=fun i hi=>RB hi
 have ne3:(n.kd=3\/n.kd=16)->n.ki≠[]:=fun h e=>by
  rcases CR hv (by omega) with hc | ⟨hc,_⟩
  ·unfold C9 at hc
   rcases h with h | h<;>simp[h] at hc
  ·unfold C4 at hc
   rcases h with h | h<;>simp[h,e,BA] at hc
 rw[WB,Mw]
 by_cases k3:n.kd=3
 ·simp only[k3]
  exact kids _ (ne3 (.inl k3))
 by_cases k4:n.kd=4
 ·have hL:n.ki.length=2:=L2 (.inl k4)
  obtain ⟨a1,a2⟩:=kid 0 (by omega)
  obtain ⟨b1,b2⟩:=kid 1 (by omega)
  obtain ⟨w1,w2⟩:=RC [16] (kAt n.ki 0) _ a2
  simp only[k4,Int.reduceEq,if_false,if_true]
  rw[sg 0 (by omega),sg 1 (by omega),pg 0 (by omega),pg 1 (by omega)]
  refine⟨?_,neA w2⟩
  rw[CW w2 b2,w1,a1,b1]
  simp only[List.append_assoc,List.cons_append,List.nil_append]
  try rfl
 by_cases k5:n.kd=5
 ·have hL:n.ki.length=3:=L3 (.inl k5)
  obtain ⟨a1,a2⟩:=kid 0 (by omega)
  obtain ⟨b1,b2⟩:=kid 1 (by omega)
  obtain ⟨c1,c2⟩:=kid 2 (by omega)
  obtain ⟨w1,w2⟩:=RC [16] (kAt n.ki 0) _ a2
  obtain ⟨v1,v2⟩:=RC [4,5] (kAt n.ki 1) _ b2
  simp only[k5,Int.reduceEq,if_false,if_true]
  rw[sg 0 (by omega),sg 1 (by omega),sg 2 (by omega),pg 0 (by omega),pg 1 (by omega),pg 2 (by omega)]
  refine⟨?_,neA v2⟩
  rw[CW v2 (neA w2),CW w2 c2,v1,w1,a1,b1,c1]
  simp only[List.append_assoc,List.cons_append,List.nil_append]
  try rfl
 by_cases k16:n.kd=16
 ·simp only[k16]
  exact kids _ (ne3 (.inr k16))
 by_cases k14:n.kd=14
 ·have hL:n.ki.length=2:=L2 (.inr k14)
  obtain ⟨a1,a2⟩:=kid 0 (by omega)
  obtain ⟨b1,b2⟩:=kid 1 (by omega)
  obtain ⟨v1,v2⟩:=RC [16] (kAt n.ki 1) _ b2
  simp only[k14,Int.reduceEq,if_false,if_true]
  rw[sg 0 (by omega),sg 1 (by omega),pg 0 (by omega),pg 1 (by omega)]
  refine⟨?_,neA v2⟩
  rw[CW v2 a2,v1,a1,b1]
  simp only[List.append_assoc,List.cons_append,List.nil_append]
  try rfl
 by_cases k15:n.kd=15
 ·have hL:n.ki.length=3:=L3 (.inr k15)
  obtain ⟨a1,a2⟩:=kid 0 (by omega)
  obtain ⟨b1,b2⟩:=kid 1 (by omega)
  obtain ⟨c1,c2⟩:=kid 2 (by omega)
  obtain ⟨v1,v2⟩:=RC [16] (kAt n.ki 1) _ b2
  obtain ⟨w1,w2⟩:=RC [3,4,5,16,14,15] (kAt n.ki 2) _ c2
  simp only[k15,Int.reduceEq,if_false,if_true]
  rw[sg 0 (by omega),sg 1 (by omega),sg 2 (by omega),pg 0 (by omega),pg 1 (by omega),pg 2 (by omega)]
  refine⟨?_,neA v2⟩
  rw[CW v2 (neA a2),CW a2 w2,v1,w1,a1,b1,c1]
  simp only[List.append_assoc,List.cons_append,List.nil_append]
  try rfl
 by_cases k10:n.kd=10
 ·have h1:=hv
  rw[Ea,Bool.and_eq_true,if_pos k10,Bool.and_eq_true] at h1
  have hb:=h1.2.2
  unfold CL at hb
  rw[Bool.and_eq_true] at hb
  have hbn:n.bo≠[]:=fun e=>by
   have:=h1.2.1
   unfold Wv at this
   simp[e] at this
  have st:∀s∈n.bo,txP (ptM s)=EM s/\ptM s≠[]:=fun s hs=>by
   obtain ⟨q1,q2⟩:=EQ hb.2 s hs
   have z1:=Nd.size_stmt hs
   have z2:=Sm.size_nd s
   have z3:=Sm.size_te s
   have hn:=Bau s.nd q1
   rw[GN,RG]
   by_cases c2:s.kd=2
   ·rw[if_pos c2,if_pos c2,ED (by simp),ED hn.2,hn.1]
    simp[prT]
   ·rw[if_neg c2,if_neg c2]
    by_cases c3:s.kd=3
    ·have hv2:BL s.te=true:=by
      rcases q2 with ⟨_,q,_⟩ | ⟨q,_⟩
      ·exact q
      ·exact (q c3).elim
     have ht:=Bau s.te hv2
     rw[if_pos c3,if_pos c3,CW ht.2 (by simp),ED hn.2,hn.1,ht.1]
     simp[prT]
    ·rw[if_neg c3,if_neg c3]
     exact hn
  obtain ⟨j1,j2⟩:=BqD ptM EM n.bo hbn st
  simp only[k10]
  refine⟨?_,by simp⟩
  simp only[Int.reduceEq,if_false,if_true]
  rw[ED (by simp),CW j2 (by simp),UE,j1]
  simp[prT]
 ·rw[if_neg k3,if_neg k4,if_neg k5,if_neg k16,if_neg k14,if_neg k15,if_neg k10]
  refine⟨?_,by simp⟩
  rw[UE,prT]
termination_by SizeOf.sizeOf n
decreasing_by
 ·exact Nd.size_kid hm
 ·exact Nd.size_kid hx
 ·omega
 ·omega
def Bo5(l:List UInt8):Nat:=l.foldl (fun v b=>v*10+(b.toNat-48)) 0
def BhV(b:UInt8):Bool:=decide (48<=b.toNat)&&decide (b.toNat<=57)
theorem BbU{k:Nat}(h:k<10):(UInt8.ofNat (48+k)).toNat=48+k:=by
 rw[UInt8.toNat_ofNat'];omega
theorem W4(u:Nat):(∀b∈Lib.decDigits u,BhV b=true)/\Bo5 (Lib.decDigits u)=u/\Lib.decDigits u≠[]:=by
 induction u using Nat.strongRecOn with
 |_ u ih =>
  rw[Lib.decDigits]
  by_cases h:u<10
  ·rw[dif_pos h]
   refine⟨fun b hb=>?_,?_,by simp⟩
   ·rw[List.mem_singleton.1 hb,BhV,BbU h]
    simp only[Bool.and_eq_true,decide_eq_true_eq];omega
   ·simp only[Bo5,List.foldl_cons,List.foldl_nil,BbU h];omega
  ·rw[dif_neg h]
   obtain ⟨h1,h2,h3⟩:=ih (u / 10) (by omega)
   have hm:u % 10<10:=by omega
   refine⟨fun b hb=>?_,?_,by simp⟩
   ·rcases List.mem_append.1 hb with hb | hb
    ·exact h1 b hb
    ·rw[List.mem_singleton.1 hb,BhV,BbU hm]
     simp only[Bool.and_eq_true,decide_eq_true_eq];omega
   ·unfold Bo5 at h2 ⊢
    rw[List.foldl_append,h2]
    simp only[List.foldl_cons,List.foldl_nil,BbU hm];omega
def BfU(b:UInt8):Bool:=BhV b||b==95
theorem Bfp(z:Int):∃b t,Bu z=b::t/\BfU b=true:=by
 unfold Bu
 split
 ·exact⟨95,_,rfl,rfl⟩
 ·obtain ⟨h1,_,h3⟩:=W4 z.toNat
  cases hd:Lib.decDigits z.toNat with
  |nil=>exact (h3 hd).elim
  |cons b t=>exact⟨b,t,rfl,by rw[BfU,h1 b (by rw[hd];exact List.mem_cons_self)];rfl⟩
def WY(c:Nat):List UInt8 :=
 if c<0x80 then [UInt8.ofNat c]
 else if c<0x800 then [UInt8.ofNat (0xC0+c / 64),UInt8.ofNat (0x80+c % 64)]
 else if c<0x10000 then [UInt8.ofNat (0xE0+c / 4096),UInt8.ofNat (0x80+c / 64 % 64),UInt8.ofNat (0x80+c % 64)]
 else [UInt8.ofNat (0xF0+c / 262144),UInt8.ofNat (0x80+c / 4096 % 64),UInt8.ofNat (0x80+c / 64 % 64),UInt8.ofNat (0x80+c % 64)]
theorem Bnq{n:Nat}(h1:n<=1114111)(h2:n<55296\/57343<n):utf8 (n:Int)=WY n:=by
 have hv:Utf8.valid (n:Int)=true:=by
  simp only[Utf8.valid,Bool.or_eq_true,Bool.and_eq_true,decide_eq_true_eq]
  omega
 have key : ∀c : Nat, ((if c<0x80 then ⟨#[UInt8.ofNat c]⟩
   else if c<0x800 then ⟨#[UInt8.ofNat (0xC0+c / 64),UInt8.ofNat (0x80+c % 64)]⟩
   else if c<0x10000 then ⟨#[UInt8.ofNat (0xE0+c / 4096),UInt8.ofNat (0x80+c / 64 % 64),UInt8.ofNat (0x80+c % 64)]⟩
   else ⟨#[UInt8.ofNat (0xF0+c / 262144),UInt8.ofNat (0x80+c / 4096 % 64),UInt8.ofNat (0x80+c / 64 % 64),UInt8.ofNat (0x80+c % 64)]⟩:ByteArray).data.toList)=WY c:=fun c=>by
  unfold WY
  (repeat' split)<;>rfl
 unfold utf8 Utf8.encode
 rw[if_pos hv,Int.toNat_natCast]
 exact key n
theorem b8{k:Nat}(h:k<256):(UInt8.ofNat k).toNat=k:=by rw[UInt8.toNat_ofNat'];omega
def ES(q:UInt8):List UInt8->Nat
 | []=>0
 | [c]=>if c=q then 0 else 1
 |c::d::r=>if c=q then 0 else if c=92 then 2+ES q r else 1+ES q (d::r)
def Is(r:List UInt8):Nat:=r.findIdx (·==32)
def TB:List UInt8->Nat
 | []=>0
 |q::t=>if q=34\/q=39 then min (ES q t+2) (t.length+1) else Is (q::t)
theorem R4{q c:UInt8}(h1:c≠q)(h2:c≠92)(r:List UInt8):ES q (c::r)=1+ES q r:=by
 cases r with
 |nil=>simp[ES,h1]
 |cons d r=>rw[ES,if_neg h1,if_neg h2]
theorem Ou{q:UInt8}:∀(l r:List UInt8),(∀b∈l,b≠q/\b≠92)->ES q (l++r)=l.length+ES q r
 | [],r,_=>by simp
 |c::l,r,h=>by
  rw[List.cons_append,R4 (h c (by simp)).1 (h c (by simp)).2,Ou l r fun b hb=>h b (by simp[hb]),List.length_cons]
  omega
theorem II{q d:UInt8}(h:(92:UInt8)≠q)(r:List UInt8):ES q (92::d::r)=2+ES q r:=by
 rw[ES,if_neg h,if_pos rfl]
theorem Bc5{q:UInt8}(r:List UInt8):ES q (q::r)=0:=by
 cases r with
 |nil=>simp[ES]
 |cons d r=>rw[ES,if_pos rfl]
theorem Bav{m:Nat}(hm:m<=1114111)(h128:128<=m):∀b∈WY m,128<=b.toNat:=by
 intro b hb
 have big:∀x:Nat,128<=x->x<256->128<=(UInt8.ofNat x).toNat:=fun x h1 h2=>by rw[b8 h2];exact h1
 unfold WY at hb
 rw[if_neg (by omega)] at hb
 split at hb
 ·simp only[List.mem_cons,List.not_mem_nil,or_false] at hb
  rcases hb with rfl | rfl<;>exact big _ (by omega) (by omega)
 ·split at hb
  ·simp only[List.mem_cons,List.not_mem_nil,or_false] at hb
   rcases hb with rfl | rfl | rfl<;>exact big _ (by omega) (by omega)
  ·simp only[List.mem_cons,List.not_mem_nil,or_false] at hb
   rcases hb with rfl | rfl | rfl | rfl<;>exact big _ (by omega) (by omega)
theorem OE{c:Int}(h0:0<=c)(h1:c<=1114111):(c<128->utf8 c=[UInt8.ofNat c.toNat])/\(128<=c->∀b∈utf8 c,128<=b.toNat):=by
 obtain ⟨n,rfl⟩:∃n:Nat,c=n:=⟨c.toNat,by omega⟩
 by_cases h2:n<55296\/57343<n
 ·rw[Bnq (by omega) h2]
  refine⟨fun h=>?_,fun h=>Bav (by omega) (by omega)⟩
  unfold WY
  rw[if_pos (by omega)]
  rfl
 ·refine⟨fun h=>by omega,fun _=>?_⟩
  have hv:¬Utf8.valid (n:Int)=true:=by
   simp only[Utf8.valid,Bool.or_eq_true,Bool.and_eq_true,decide_eq_true_eq]
   omega
  have e:utf8 (n:Int)=WY 65533:=by
   unfold utf8 Utf8.encode
   rw[if_neg hv]
   decide +kernel
  rw[e]
  exact Bav (by omega) (by omega)
theorem Bd8{n:Nat}(h:n<128):∀b∈B6 n,b≠34/\b≠39/\b≠92:=by
 have:∀n,n<128->∀b∈B6 n,b≠34/\b≠39/\b≠92:=by decide +kernel
 exact this n h
theorem Blc{q:Nat}(hq:q=34\/q=39){c:Int}(h0:0<=c)(h1:c<=1114111)(r:List UInt8):ES (UInt8.ofNat q) (Cw c q++r)=(Cw c q).length+ES (UInt8.ofNat q) r:=by
 have q92:(92:UInt8)≠UInt8.ofNat q:=by rcases hq with rfl | rfl<;>decide
 have hb:=OE h0 h1
 unfold Cw
 by_cases c1:c=10
 ·rw[if_pos c1];exact II q92 r
 rw[if_neg c1]
 by_cases c2:c=9
 ·rw[if_pos c2];exact II q92 r
 rw[if_neg c2]
 by_cases c3:c=13
 ·rw[if_pos c3];exact II q92 r
 rw[if_neg c3]
 by_cases c4:c=92\/c=q
 ·rw[if_pos c4,hb.1 (by omega)]
  exact II q92 r
 rw[if_neg c4]
 by_cases c5:c<32\/c=127
 ·rw[if_pos c5]
  have hx:=Bd8 (n:=c.toNat) (by omega)
  have e:([92,117,123]++B6 c.toNat++[125]++r:List UInt8)=92::117::((123::B6 c.toNat++[125])++r):=by simp
  rw[e,II q92,Ou]
  ·simp;omega
  ·intro b hbm
   simp only[List.cons_append,List.mem_cons,List.mem_append,List.not_mem_nil,or_false] at hbm
   rcases hbm with rfl | hbm | rfl
   ·rcases hq with rfl | rfl<;>decide
   ·obtain ⟨x1,x2,x3⟩:=hx b hbm
    rcases hq with rfl | rfl
    ·exact⟨x1,x3⟩
    ·exact⟨x2,x3⟩
   ·rcases hq with rfl | rfl<;>decide
 ·rw[if_neg c5]
  refine Ou _ _ fun b hbm=>?_
  by_cases c6:c<128
  ·rw[hb.1 c6,List.mem_singleton] at hbm
   obtain ⟨n,rfl⟩:∃n:Nat,c=n:=⟨c.toNat,by omega⟩
   have e:b.toNat=n:=by rw[hbm,Int.toNat_natCast];exact b8 (by omega)
   constructor
   ·intro e2
    have:=congrArg UInt8.toNat e2
    rw[e,b8 (by omega)] at this
    omega
   ·intro e2
    rw[e2] at e
    have e:(92:Nat)=n:=e
    omega
  ·have:=hb.2 (by omega) b hbm
   constructor
   ·intro e2
    rw[e2,b8 (by omega)] at this
    omega
   ·intro e2
    rw[e2] at this
    exact absurd this (by decide)
theorem Bdi{q:Nat}(hq:q=34\/q=39):∀(l:List Int) (r:List UInt8),(∀c∈l,0<=c/\c<=1114111)->ES (UInt8.ofNat q) (ET q l++r)=(ET q l).length+ES (UInt8.ofNat q) r
 | [],r,_=>by simp[ET]
 |c::l,r,h=>by
  rw[MQ,List.append_assoc,Blc hq (h c (by simp)).1 (h c (by simp)).2,Bdi hq l r fun x hx=>h x (by simp[hx]),List.length_append]
  omega
def Bco(x:List UInt8):Prop:=x≠[]/\∀r:List UInt8,(r=[]\/∃t,r=32::t)->TB (x++r)=x.length
theorem Wb:∀(x r:List UInt8),(∀b∈x,b≠32)->(r=[]\/∃t,r=32::t)->Is (x++r)=x.length
 | [],r,_,hr=>by
  rcases hr with rfl | ⟨t,rfl⟩
  ·rfl
  ·simp[Is,List.findIdx_cons]
 |b::x,r,h,hr=>by
  have:=Wb x r (fun c hc=>h c (by simp[hc])) hr
  unfold Is at this ⊢
  rw[List.cons_append,List.findIdx_cons,this]
  have hb:(b==32)=false:=by simpa using h b (by simp)
  rw[hb]
  simp
theorem IM{x:List UInt8}(hx:x≠[])(h:∀b∈x,b≠32)(hq:x.getD 0 0≠34/\x.getD 0 0≠39):Bco x:=by
 refine⟨hx,fun r hr=>?_⟩
 have e:=Wb x r h hr
 cases x with
 |nil=>exact (hx rfl).elim
 |cons b x =>
  have hq:b≠34/\b≠39:=hq
  rw[List.cons_append,TB,if_neg (by rintro (h | h);exact hq.1 h;exact hq.2 h)]
  exact e
theorem Bcd{q:Nat}(hq:q=34\/q=39){l:List Int}(h:∀c∈l,0<=c/\c<=1114111):Bco (Gn q l):=by
 have e:Gn q l=UInt8.ofNat q::(ET q l++[UInt8.ofNat q]):=by
  unfold Gn
  rw[(OE (c:=(q:Int)) (by omega) (by omega)).1 (by omega)]
  rfl
 rw[e]
 refine⟨by simp,fun r hr=>?_⟩
 have hq2:UInt8.ofNat q=34\/UInt8.ofNat q=39:=by rcases hq with rfl | rfl<;>decide
 rw[List.cons_append,TB,if_pos hq2,List.append_assoc,Bdi hq l _ h,List.cons_append,List.nil_append,Bc5]
 simp only[List.length_append,List.length_cons,List.length_nil]
 omega
def okT(x:List UInt8):Prop:=x.getD 0 0≠10/\x.getD 0 0≠59/\x.getD 0 0≠123/\x.getD 0 0≠125
def WC(x:List UInt8):Prop:=Bco x/\okT x
def okP:Pt->Prop
 |.tx x=>WC x
 |_=>True
theorem Ed{x:List UInt8}(hx:x≠[])(h:∀b∈x,b≠32)(hq:∀b∈([34,39,10,59,123,125]:List UInt8),x.getD 0 0≠b):WC x :=
 ⟨IM hx h ⟨hq 34 (by simp),hq 39 (by simp)⟩,hq 10 (by simp),hq 59 (by simp),hq 123 (by simp),hq 125 (by simp)⟩
theorem OM{q:Nat}(hq:q=34\/q=39){l:List Int}(h:∀c∈l,0<=c/\c<=1114111):WC (Gn q l):=by
 refine⟨Bcd hq h,?_⟩
 have e:(Gn q l).getD 0 0=UInt8.ofNat q:=by
  unfold Gn
  rw[(OE (c:=(q:Int)) (by omega) (by omega)).1 (by omega)]
  rfl
 unfold okT
 rw[e]
 rcases hq with rfl | rfl<;>decide
theorem Uf(z:Int):∀b∈Bu z,BhV b=true\/b=95:=by
 intro b hb
 unfold Bu at hb
 split at hb
 ·rcases List.mem_cons.1 hb with rfl | hb
  ·exact .inr rfl
  ·exact .inl ((W4 _).1 b hb)
 ·exact .inl ((W4 _).1 b hb)
theorem BhK(z:Int):WC (Bu z):=by
 obtain ⟨b,t,e,hb⟩:=Bfp z
 have key:∀b:UInt8,BfU b=true->∀c∈([34,39,10,59,123,125]:List UInt8),b≠c:=fun b hb c hc e=>by
  subst e
  have k:∀c∈([34,39,10,59,123,125]:List UInt8),BfU c=false:=by decide +kernel
  rw[k b hc] at hb;cases hb
 refine Ed (by rw[e];simp) (fun c hc e2=>?_) ?_
 ·rcases Uf z c hc with h | h
  ·rw[e2] at h;exact absurd h (by decide)
  ·rw[e2] at h;exact absurd h (by decide)
 ·rw[e];exact key b hb
theorem Bhl:∀n:Nat,n<56->1<=n->(primL.getD n [])≠[]/\(∀b∈primL.getD n [],b≠32)/\∀c∈([34,39,10,59,123,125]:List UInt8),(primL.getD n []).getD 0 0≠c:=by decide +kernel
theorem Bmz:∀n:Nat,n<12->1<=n->(opL.getD n [])≠[]/\(∀b∈opL.getD n [],b≠32)/\∀c∈([34,39,10,59,123,125]:List UInt8),(opL.getD n []).getD 0 0≠c:=by decide +kernel
theorem TA{s:List UInt8}(h:Cz s=true):WC s:=by
 obtain ⟨h1,_,_,_,h5,h6,_,_⟩:=BS h
 have key:∀b:UInt8,97<=b.toNat/\b.toNat<=122->∀c∈([34,39,10,59,123,125]:List UInt8),b≠c:=fun b hb c hc e=>by
  subst e
  have k:∀c∈([34,39,10,59,123,125]:List UInt8),¬(97<=c.toNat/\c.toNat<=122):=by decide +kernel
  exact k b hc hb
 refine Ed h1 (fun b hb e=>?_) (key _ h5)
 obtain ⟨i,hi,e2⟩:=List.getElem_of_mem hb
 have:=h6 i hi
 rw[List.getD_eq_getElem?_getD,List.getElem?_eq_getElem hi,Option.getD_some,e2,e] at this
 exact absurd this (by decide)
theorem BhA{n:Nd}(hl:C9 n=true)(ho:n.ok):WC (BD n):=by
 rw[Mw]
 unfold C9 at hl
 rw[Bool.and_eq_true] at hl
 have hl:=hl.2
 have lit:∀x:List UInt8,x∈([[88],[89],[97,114,103],[115,101,108,102],[70],[71]]:List (List UInt8))->WC x:=fun x hx=>by
  have key:∀x∈([[88],[89],[97,114,103],[115,101,108,102],[70],[71]]:List (List UInt8)),x≠[]/\(∀b∈x,b≠32)/\∀c∈([34,39,10,59,123,125]:List UInt8),x.getD 0 0≠c:=by decide +kernel
  obtain ⟨k1,k2,k3⟩:=key x hx
  exact Ed k1 k2 k3
 by_cases k1:n.kd=1
 ·rw[if_pos k1] at hl ⊢
  simp only[Bool.and_eq_true,Bool.or_eq_true,beq_iff_eq,bne_iff_ne,ne_eq,List.isEmpty_iff] at hl
  obtain ⟨⟨_,hc⟩,hs⟩:=hl
  have lo:=Bfb (BaY ho) hc
  unfold OD
  rw[if_pos hc,BbC]
  unfold TG
  rcases hs with ⟨hs,hk⟩ | ⟨hs,hk⟩
  ·have hs0:n.va.sh.length=0:=by rw[hs];rfl
   rw[if_pos hs0]
   unfold G7
   have hsc:=lo.sc hs0
   rw[lo.no hk] at hsc
   have hn:n.va.nu.length=1:=by simpa using hsc
   by_cases q1:n.va.k=1
   ·rw[if_pos q1];exact BhK _
   ·rw[if_neg q1]
    have q2:n.va.k=2:=by have:=lo.kd;omega
    rw[if_pos q2]
    refine OM (q:=39) (.inr rfl) fun c hcm=>lo.chr q2 c ?_
    rw[List.mem_singleton.1 hcm,List.getD_eq_getElem?_getD,List.getElem?_eq_getElem (show 0<n.va.nu.length by omega)]
    exact List.getElem_mem _
  ·rw[if_neg (by omega),if_pos ⟨hs,.inl hk⟩]
   unfold M5
   rw[if_pos hk]
   exact OM (q:=34) (.inl rfl) (lo.chr hk)
 rw[if_neg k1] at hl ⊢
 by_cases k2:n.kd=2
 ·rw[if_pos k2] at hl ⊢
  rw[Bool.and_eq_true] at hl
  exact TA hl.2
 rw[if_neg k2] at hl ⊢
 by_cases k6:n.kd=6
 ·rw[if_pos k6];exact lit _ (by simp)
 rw[if_neg k6]
 by_cases k7:n.kd=7
 ·rw[if_pos k7];exact lit _ (by simp)
 rw[if_neg k7]
 by_cases k8:n.kd=8
 ·rw[if_pos k8];exact lit _ (by simp)
 rw[if_neg k8]
 by_cases k11:n.kd=11
 ·rw[if_pos k11];exact lit _ (by simp)
 rw[if_neg k11]
 by_cases k12:n.kd=12
 ·rw[if_pos k12];exact lit _ (by simp)
 rw[if_neg k12]
 by_cases k13:n.kd=13
 ·rw[if_pos k13];exact lit _ (by simp)
 rw[if_neg k13]
 rw[if_neg (by omega)] at hl
 by_cases k9:n.kd=9
 ·rw[if_pos k9] at hl ⊢
  rw[Bool.and_eq_true,BcQ] at hl
  have h2:=hl.2
  simp only[Bool.not_not,Bool.and_eq_true,decide_eq_true_eq] at h2
  unfold Ci
  rw[if_neg (by omega)]
  obtain ⟨p1,p2,p3⟩:=Bhl n.pr.toNat (by omega) (by omega)
  exact Ed p1 p2 p3
 rw[if_neg k9] at hl ⊢
 rw[if_neg (by omega)] at hl
 by_cases k17:n.kd=17
 ·rw[if_pos k17] at hl ⊢
  rw[Bool.and_eq_true,BlR] at hl
  have h2:=hl.2
  simp only[Bool.not_not,Bool.and_eq_true,decide_eq_true_eq] at h2
  unfold opT
  rw[if_neg (by omega)]
  obtain ⟨p1,p2,p3⟩:=Bmz n.op.toNat (by omega) (by omega)
  exact Ed p1 p2 p3
 rw[if_neg k17] at hl
 cases hl
theorem okW{ks:List Int}{k:Int}{l:List Pt}(h:∀p∈l,okP p):∀p∈ptW ks k l,okP p:=by
 unfold ptW
 split
 ·intro p hp
  simp only[List.mem_cons,List.mem_append,List.not_mem_nil,or_false] at hp
  rcases hp with rfl | hp | rfl
  ·exact Ed (by simp) (by decide) (by decide)
  ·exact h p hp
  ·exact Ed (by simp) (by decide) (by decide)
 ·exact h
theorem okJ{l:List (List Pt)}(h:∀x∈l,∀p∈x,okP p):∀p∈ptJ l,okP p:=by
 cases l with
 |nil=>intro p hp;cases hp
 |cons x r =>
  intro p hp
  rw[ptJ] at hp
  rcases List.mem_append.1 hp with hp | hp
  ·exact h x (by simp) p hp
  ·obtain ⟨y,hy,hp⟩:=List.mem_flatMap.1 hp
   rcases List.mem_cons.1 hp with rfl | hp
   ·trivial
   ·exact h y (by simp[hy]) p hp
theorem okN(n:Nd)(hv:BL n=true)(ho:n.ok):∀p∈ptN n,okP p:=by
 obtain ⟨L2,L3,_⟩:=Mk hv
 have vk:=(GU hv).1
 have kk:∀x∈n.ki,∀p∈ptN x,okP p:=fun x hx=>okN x (vk x hx) (Baq ho x hx)
 have kid:∀i,i<n.ki.length->∀p∈ptN (n.ki.getD i default),okP p:=fun i hi=>kk _ (CY hi)
 have kids:∀ks:List Int,∀p∈n.ki.flatMap (UA ks),okP p:=fun ks p hp=>by
  obtain ⟨x,hx,hp⟩:=List.mem_flatMap.1 hp
  exact okW (kk x hx) p hp
 have pg:∀i,i<n.ki.length->(ptL n.ki).getD i []=ptN (n.ki.getD i default):=fun i hi=>RB hi
 have cat:∀ {a b:List Pt},(∀p∈a,okP p)->(∀p∈b,okP p)->∀p∈a++b,okP p:=fun ha hb p hp=>by
  rcases List.mem_append.1 hp with hp | hp
  ·exact ha p hp
  ·exact hb p hp
 rw[WB]
 by_cases k3:n.kd=3
 ·rw[if_pos k3];exact kids _
 rw[if_neg k3]
 by_cases k4:n.kd=4
 ·have hL:n.ki.length=2:=L2 (.inl k4)
  rw[if_pos k4,pg 0 (by omega),pg 1 (by omega)]
  exact cat (okW (kid 0 (by omega))) (kid 1 (by omega))
 rw[if_neg k4]
 by_cases k5:n.kd=5
 ·have hL:n.ki.length=3:=L3 (.inl k5)
  rw[if_pos k5,pg 0 (by omega),pg 1 (by omega),pg 2 (by omega)]
  exact cat (okW (kid 1 (by omega))) (cat (okW (kid 0 (by omega))) (kid 2 (by omega)))
 rw[if_neg k5]
 by_cases k16:n.kd=16
 ·rw[if_pos k16];exact kids _
 rw[if_neg k16]
 by_cases k14:n.kd=14
 ·have hL:n.ki.length=2:=L2 (.inr k14)
  rw[if_pos k14,pg 0 (by omega),pg 1 (by omega)]
  exact cat (okW (kid 1 (by omega))) (kid 0 (by omega))
 rw[if_neg k14]
 by_cases k15:n.kd=15
 ·have hL:n.ki.length=3:=L3 (.inr k15)
  rw[if_pos k15,pg 0 (by omega),pg 1 (by omega),pg 2 (by omega)]
  exact cat (okW (kid 1 (by omega))) (cat (kid 0 (by omega)) (okW (kid 2 (by omega))))
 rw[if_neg k15]
 by_cases k10:n.kd=10
 ·rw[if_pos k10]
  have h1:=hv
  rw[Ea,Bool.and_eq_true,if_pos k10,Bool.and_eq_true] at h1
  have hb:=h1.2.2
  unfold CL at hb
  rw[Bool.and_eq_true] at hb
  have st:∀s∈n.bo,∀p∈ptM s,okP p:=fun s hs=>by
   obtain ⟨q1,q2⟩:=EQ hb.2 s hs
   have z1:=Nd.size_stmt hs
   have z2:=Sm.size_nd s
   have z3:=Sm.size_te s
   have o:=EH (T8 ho s hs)
   have hn:=okN s.nd q1 o.2
   rw[GN]
   by_cases c2:s.kd=2
   ·rw[if_pos c2]
    obtain ⟨names,hst⟩:=Iy hb.2 s hs
    rw[Iz,Bool.and_eq_true,if_neg (by omega),if_pos c2] at hst
    simp only[Bool.and_eq_true] at hst
    intro p hp
    simp only[List.mem_cons] at hp
    rcases hp with rfl | rfl | hp
    ·exact TA hst.2.1.1.1.1
    ·exact Ed (by simp) (by decide) (by decide)
    ·exact hn p hp
   ·rw[if_neg c2]
    by_cases c3:s.kd=3
    ·rw[if_pos c3]
     have hv2:BL s.te=true:=by
      rcases q2 with ⟨_,q,_⟩ | ⟨q,_⟩
      ·exact q
      ·exact (q c3).elim
     refine cat (okN s.te hv2 o.1) fun p hp=>?_
     rcases List.mem_cons.1 hp with rfl | hp
     ·exact Ed (by simp) (by decide) (by decide)
     ·exact hn p hp
    ·rw[if_neg c3];exact hn
  intro p hp
  rcases List.mem_cons.1 hp with rfl | hp
  ·trivial
  ·refine cat (okJ fun x hx=>?_) (fun p hp=>?_) p hp
   ·obtain ⟨s,hs,rfl⟩:=List.mem_map.1 hx
    exact st s hs
   ·rw[List.mem_singleton.1 hp];trivial
 ·rw[if_neg k10]
  intro p hp
  rw[List.mem_singleton.1 hp]
  rcases CR hv k10 with hc | ⟨hc,_⟩
  ·exact BhA hc ho
  ·unfold C4 at hc
   simp[k3,k4,k5,k14,k15,k16] at hc
termination_by SizeOf.sizeOf n
decreasing_by
 ·exact Nd.size_kid hx
 ·omega
 ·omega
def lvP(l:Int):Pt->Int
 |.op=>l+1
 |.cl=>l-1
 |_=>l
def lvL(l:Int)(ps:List Pt):Int:=ps.foldl lvP l
theorem Bmt(a b:Int)(p:Pt):lvP (a+b) p=a+lvP b p:=by
 cases p<;>simp only[lvP]<;>omega
theorem US(l:Int)(a b:List Pt):lvL l (a++b)=lvL (lvL l a) b:=by
 unfold lvL;rw[List.foldl_append]
theorem Bbc:∀(ps:List Pt) (a b:Int),lvL (a+b) ps=a+lvL b ps
 | [],_,_=>rfl
 |p::ps,a,b=>by
  have:=Bbc ps a (lvP b p)
  unfold lvL at this ⊢
  rw[List.foldl_cons,List.foldl_cons,Bmt,this]
def I4(ps:List Pt):Prop:=lvL 0 ps=0/\∀k,0<=lvL 0 (ps.take k)
theorem BbJ:I4 []:=⟨rfl,fun k=>by simp[lvL]⟩
theorem EZ{p:Pt}(h:lvP 0 p=0):I4 [p]:=by
 refine⟨h,fun k=>?_⟩
 cases k with
 |zero=>simp[lvL]
 |succ k=>simp[lvL,h]
theorem B1{a b:List Pt}(ha:I4 a)(hb:I4 b):I4 (a++b):=by
 refine⟨by rw[US,ha.1,hb.1],fun k=>?_⟩
 rw[List.take_append,US]
 by_cases h:k<=a.length
 ·rw[show k-a.length=0 by omega,List.take_zero]
  exact ha.2 k
 ·rw[List.take_of_length_le (by omega),ha.1]
  exact hb.2 _
theorem Bkq{a:List Pt}(ha:I4 a):I4 (.op::(a++[.cl])):=by
 have e1:lvL 0 (.op::(a++[.cl]))=0:=by
  show lvL (lvP 0 .op) (a++[.cl])=0
  rw[US]
  have:=Bbc a 1 0
  rw[ha.1] at this
  have e:lvP 0 .op=1+0:=rfl
  rw[e,this]
  rfl
 refine⟨e1,fun k=>?_⟩
 cases k with
 |zero=>simp[lvL]
 |succ k =>
  show 0<=lvL (lvP 0 .op) ((a++[Pt.cl]).take k)
  have e:lvP 0 .op=1+0:=rfl
  rw[e,Bbc,List.take_append,US]
  by_cases h:k<=a.length
  ·rw[show k-a.length=0 by omega,List.take_zero]
   have:=ha.2 k
   have e2:lvL (lvL 0 (a.take k)) []=lvL 0 (a.take k):=rfl
   omega
  ·rw[List.take_of_length_le (by omega),ha.1]
   obtain ⟨j,hj⟩:∃j,k-a.length=j+1:=⟨k-a.length-1,by omega⟩
   rw[hj]
   simp[lvL,lvP]
theorem Uo{ks:List Int}{k:Int}{l:List Pt}(h:I4 l):I4 (ptW ks k l):=by
 unfold ptW
 split
 ·exact B1 (a:=[.tx [40]]) (EZ rfl) (B1 h (EZ rfl))
 ·exact h
theorem OV{α:Type}{f:α->List Pt}:∀ {l:List α},(∀x∈l,I4 (f x))->I4 (l.flatMap f)
 | [],_=>BbJ
 |x::r,h=>by
  rw[List.flatMap_cons]
  exact B1 (h x (by simp)) (OV fun y hy=>h y (by simp[hy]))
theorem Bn6{l:List (List Pt)}(h:∀x∈l,I4 x):I4 (ptJ l):=by
 cases l with
 |nil=>exact BbJ
 |cons x r =>
  rw[ptJ]
  exact B1 (h x (by simp)) (OV fun y hy=>B1 (a:=[.sp]) (EZ rfl) (h y (by simp[hy])))
theorem BnF{α:Type}{p:List α->Prop}(h0:p []){l:List (List α)}(h:∀x∈l,p x)(i:Nat):p (l.getD i []):=by
 rw[List.getD_eq_getElem?_getD]
 by_cases hi:i<l.length
 ·rw[List.getElem?_eq_getElem hi];exact h _ (List.getElem_mem hi)
 ·rw[List.getElem?_eq_none (by omega)];exact h0
theorem BeR(n:Nd):I4 (ptN n):=by
 have kk:∀x∈n.ki,I4 (ptN x):=fun x hx=>BeR x
 have kg:∀i,I4 ((ptL n.ki).getD i []):=fun i=>BnF BbJ (fun x hx=>by
  rw[BbI] at hx
  obtain ⟨y,hy,rfl⟩:=List.mem_map.1 hx
  exact kk y hy) i
 rw[WB]
 split
 ·exact OV fun x hx=>Uo (kk x hx)
 split
 ·exact B1 (Uo (kg 0)) (kg 1)
 split
 ·exact B1 (Uo (kg 1)) (B1 (Uo (kg 0)) (kg 2))
 split
 ·exact OV fun x hx=>Uo (kk x hx)
 split
 ·exact B1 (Uo (kg 1)) (kg 0)
 split
 ·exact B1 (Uo (kg 1)) (B1 (kg 0) (Uo (kg 2)))
 split
 ·refine Bkq (Bn6 fun x hx=>?_)
  obtain ⟨s,hs,rfl⟩:=List.mem_map.1 hx
  have z1:=Nd.size_stmt hs
  have z2:=Sm.size_nd s
  have z3:=Sm.size_te s
  have h1:=BeR s.nd
  have h2:=BeR s.te
  rw[GN]
  split
  ·exact B1 (a:=[.tx s.nm]) (EZ rfl) (B1 (a:=[.tx [60,45]]) (EZ rfl) h1)
  split
  ·exact B1 h2 (B1 (a:=[.tx [58]]) (EZ rfl) h1)
  ·exact h1
 ·exact EZ rfl
termination_by SizeOf.sizeOf n
decreasing_by
 ·exact Nd.size_kid hx
 ·omega
 ·omega
theorem balM(s:Sm):I4 (ptM s):=by
 rw[GN]
 split
 ·exact B1 (a:=[.tx s.nm]) (EZ rfl) (B1 (a:=[.tx [60,45]]) (EZ rfl) (BeR s.nd))
 split
 ·exact B1 (BeR s.te) (B1 (a:=[.tx [58]]) (EZ rfl) (BeR s.nd))
 ·exact BeR s.nd
def Mc(l:Int):List UInt8:=10::List.replicate (2*l.toNat) 32
def CP(c:UInt8):Bool:=(decide (97<=c.toNat)&&decide (c.toNat<=122))||(decide (65<=c.toNat)&&decide (c.toNat<=90))||(decide (48<=c.toNat)&&decide (c.toNat<=57))||c==95
def CA(a b:List UInt8):Bool :=
 (CP (a.getD (a.length-1) 0)&&CP (b.getD 0 0))||(a.getD (a.length-1) 0==60&&(b.getD 0 0==61||b.getD 0 0==45))||(a.getD (a.length-1) 0==62&&b.getD 0 0==61)
def BeS:Pt->Bool
 |.sp=>true
 |_=>false
def blB(cmp:Bool)(a b:List UInt8):List UInt8:=bif !a.isEmpty&&(!cmp||CA a b) then [32] else []
def wrS(cmp:Bool)(s:List UInt8×List UInt8×Int)(p:Pt):List UInt8×List UInt8×Int :=
 if BeS p then (s.1++(bif cmp then [59] else Mc s.2.2),[],s.2.2) else (s.1++blB cmp s.2.1 (prT p)++prT p,prT p,lvP s.2.2 p)
def wrF(cmp:Bool)(ps:List Pt):List UInt8×List UInt8×Int:=ps.foldl (wrS cmp) ([],[],0)
theorem Wi(cmp:Bool){ps:List Pt}{i:Nat}(h:i<ps.length):wrF cmp (ps.take (i+1))=wrS cmp (wrF cmp (ps.take i)) (ps.getD i .sp):=by
 unfold wrF
 rw[List.take_add_one,List.getElem?_eq_getElem h,List.foldl_append,List.getD_eq_getElem?_getD,List.getElem?_eq_getElem h]
 rfl
theorem BlC{ps:List Pt}{i:Nat}(h:i<ps.length):lvL 0 (ps.take (i+1))=lvP (lvL 0 (ps.take i)) (ps.getD i .sp):=by
 unfold lvL
 rw[List.take_add_one,List.getElem?_eq_getElem h,List.foldl_append,List.getD_eq_getElem?_getD,List.getElem?_eq_getElem h]
 rfl
theorem TD(cmp:Bool)(ps:List Pt):∀i,i<=ps.length->(wrF cmp (ps.take i)).2.2=lvL 0 (ps.take i)/\(wrF cmp (ps.take i)).2.1=if 0<i/\BeS (ps.getD (i-1) .sp)=false then prT (ps.getD (i-1) .sp) else []
 |0,_=>by simp[wrF,lvL]
 |i+1,h=>by
  have hi:i<ps.length:=by omega
  obtain ⟨h1,h2⟩:=TD cmp ps i (by omega)
  rw[Wi cmp hi,BlC hi]
  simp only[Nat.add_sub_cancel]
  unfold wrS
  cases hp:ps.getD i .sp<;>simp[BeS,lvP,h1,prT]
theorem Bqv{p:Pt}(hp:okP p):prT p≠[]:=by
 cases p with
 |tx x=>exact hp.1.1
 |op=>simp[prT]
 |cl=>simp[prT]
 |sp=>simp[prT]
theorem BmK{ps:List Pt}(h:∀p∈ps,okP p)(i:Nat):okP (ps.getD i .sp):=by
 rw[List.getD_eq_getElem?_getD]
 by_cases hi:i<ps.length
 ·rw[List.getElem?_eq_getElem hi];exact h _ (List.getElem_mem hi)
 ·rw[List.getElem?_eq_none (by omega)];trivial
def ptB(l:List Sm):List Pt:=ptJ (l.map ptM)
theorem BlK{α:Type}[Inhabited α](f:α->List Pt){l:List α}{i:Nat}(h:i<l.length):ptJ ((l.take (i+1)).map f)=ptJ ((l.take i).map f)++((if 0<i then [.sp] else [])++f (l.getD i default)):=by
 rw[CC h,List.map_append]
 generalize l.getD i default=x
 cases hl:l.take i with
 |nil =>
  have:i=0:=by
   have:=congrArg List.length hl
   rw[List.length_take,List.length_nil] at this
   omega
  subst this
  simp[ptJ]
 |cons y r =>
  have:0<i:=by
   rcases Nat.eq_zero_or_pos i with rfl | h0
   ·simp at hl
   ·exact h0
  rw[if_pos this]
  simp[ptJ]
structure PrR (l:List Sm):Prop where
 hl:l.length<=1000
 hd:dpB l<=60
 hz:szB l<=16384
 hv:CL false l=true
theorem GJ{l:List Sm}(h:CI l=0):PrR l:=by
 unfold CI at h
 split at h
 ·omega
 split at h
 ·omega
 split at h
 ·omega
 split at h
 ·rename_i a b c d
  rw[Bool.and_eq_true] at d
  exact⟨by omega,by omega,by omega,d.1⟩
 ·omega
theorem BmB{l:List Sm}{s:Sm}(h:s∈l):dpM s<=dpB l:=by
 induction l with
 |nil=>cases h
 |cons x r ih =>
  simp only[dpB]
  rcases List.mem_cons.1 h with rfl | h
  ·omega
  ·have:=ih h;omega
theorem BmW{l:List Sm}{s:Sm}(h:s∈l):szM s<=szB l:=by
 induction l with
 |nil=>cases h
 |cons x r ih =>
  simp only[szB]
  rcases List.mem_cons.1 h with rfl | h
  ·omega
  ·have:=ih h;omega
theorem UV{l:List Sm}(h:PrR l){s:Sm}(hs:s∈l):BL s.nd=true/\Ek s.nd=0/\s.kd≠3/\(s.kd=2->Cz s.nm=true):=by
 have hb:=h.hv
 unfold CL at hb
 rw[Bool.and_eq_true] at hb
 obtain ⟨q1,q2⟩:=EQ hb.2 s hs
 obtain ⟨names,hst⟩:=Iy hb.2 s hs
 have hd:=BmB hs
 have hz:=BmW hs
 have k3:s.kd≠3:=by
  rcases q2 with ⟨_,_,g⟩ | ⟨k,_⟩
  ·cases g
  ·exact k
 have e1:dpM s=dpN s.nd:=by
  cases s with
  |mk kd at_ nm sl te nd=>simp only[dpM];exact if_neg k3
 have e2:szM s=szN s.nd:=by
  cases s with
  |mk kd at_ nm sl te nd=>simp only[szM];exact if_neg k3
 have:=h.hd
 have:=h.hz
 refine⟨q1,Oy.2 ⟨by omega,by omega,q1⟩,k3,fun k2=>?_⟩
 rw[Iz,Bool.and_eq_true,if_neg (by omega),if_pos k2] at hst
 simp only[Bool.and_eq_true] at hst
 exact hst.2.1.1.1.1
theorem okM{l:List Sm}(h:PrR l)(ho:∀s∈l,s.ok){s:Sm}(hs:s∈l):∀p∈ptM s,okP p:=by
 obtain ⟨q1,_,k3,k2⟩:=UV h hs
 have hn:=okN s.nd q1 (EH (ho s hs)).2
 rw[GN]
 split
 ·rename_i c2
  intro p hp
  simp only[List.mem_cons] at hp
  rcases hp with rfl | rfl | hp
  ·exact TA (k2 c2)
  ·exact Ed (by simp) (by decide) (by decide)
  ·exact hn p hp
 ·first
   |exact hn
   |(rw[if_neg k3];exact hn)
theorem okB{l:List Sm}(h:PrR l)(ho:∀s∈l,s.ok):∀p∈ptB l,okP p:=okJ fun x hx=>by
 obtain ⟨s,hs,rfl⟩:=List.mem_map.1 hx
 exact okM h ho hs
theorem balB(l:List Sm):I4 (ptB l):=Bn6 fun x hx=>by
 obtain ⟨s,_,rfl⟩:=List.mem_map.1 hx
 exact balM s
def Uy:Pt->Bool
 |.op=>true
 |.sp=>true
 |_=>false
def nbP(ps:List Pt):Nat:=ps.countP Uy
theorem Cd(a b:List Pt):nbP (a++b)=nbP a+nbP b:=by unfold nbP;rw[List.countP_append]
theorem Bd0(ks:List Int)(k:Int)(l:List Pt):nbP (ptW ks k l)=nbP l:=by
 unfold ptW
 split
 ·have e:Pt.tx [40]::(l++[.tx [41]])=[.tx [40]]++(l++[.tx [41]]):=rfl
  rw[e,Cd,Cd]
  simp[nbP,Uy]
 ·rfl
theorem nb_J{α:Type}(f:α->List Pt)(g:α->Nat):∀l:List α,(∀x∈l,nbP (f x)+1<=2*g x)->nbP (ptJ (l.map f))<=2*(l.map g).sum
 | [],_=>by simp[ptJ,nbP]
 |x::r,h=>by
  have hx:=h x (by simp)
  have key:∀r:List α,(∀x∈r,nbP (f x)+1<=2*g x)->nbP ((r.map f).flatMap fun y=>.sp::y)<=2*(r.map g).sum:=by
   intro r
   induction r with
   |nil=>intro _;simp[nbP]
   |cons y r ih =>
    intro hr
    have hy:=hr y (by simp)
    have:=ih fun z hz=>hr z (by simp[hz])
    rw[List.map_cons,List.flatMap_cons,List.map_cons,List.sum_cons]
    have e:Pt.sp::f y=[.sp]++f y:=rfl
    rw[e,Cd,Cd]
    have e1:nbP [.sp]=1:=rfl
    omega
  have:=key r fun z hz=>h z (by simp[hz])
  rw[List.map_cons,ptJ,Cd,List.map_cons,List.sum_cons]
  omega
theorem Bbg:∀l:List Sm,szB l=(l.map szM).sum
 | []=>by simp[szB]
 |s::r=>by simp only[szB,List.map_cons,List.sum_cons,Bbg r]
theorem BbE(ks:List Int):∀l:List Nd,(∀x∈l,nbP (ptN x)+1<=2*szN x)->nbP (l.flatMap (UA ks))<=2*szL l
 | [],_=>by simp[nbP]
 |x::r,h=>by
  have:=BbE ks r fun y hy=>h y (by simp[hy])
  have hx:=h x (by simp)
  have e:nbP (UA ks x)=nbP (ptN x):=by unfold UA;rw[Bd0]
  rw[List.flatMap_cons,Cd,e]
  simp only[szL]
  omega
theorem BoA(l:List Nd)(h:∀x∈l,nbP (ptN x)+1<=2*szN x):nbP ((ptL l).getD 0 [])+nbP ((ptL l).getD 1 [])+nbP ((ptL l).getD 2 [])<=2*szL l:=by
 rcases l with _ | ⟨a,_ | ⟨b,_ | ⟨c,r⟩⟩⟩
 ·simp[ptL,nbP]
 ·have ha:=h a (by simp)
  simp only[ptL,szL,List.getD_cons_zero,List.getD_cons_succ,List.getD_nil]
  have:nbP []=0:=rfl
  omega
 ·have ha:=h a (by simp)
  have hb:=h b (by simp)
  simp only[ptL,szL,List.getD_cons_zero,List.getD_cons_succ,List.getD_nil]
  have:nbP []=0:=rfl
  omega
 ·have ha:=h a (by simp)
  have hb:=h b (by simp)
  have hc:=h c (by simp)
  simp only[ptL,szL,List.getD_cons_zero,List.getD_cons_succ]
  omega
theorem nbN(n:Nd):nbP (ptN n)+1<=2*szN n:=by
 have kk:∀x∈n.ki,nbP (ptN x)+1<=2*szN x:=fun x hx=>nbN x
 have hg:=BoA n.ki kk
 have hz:=Bfk n
 rw[WB]
 split
 ·have:=BbE [3,4,5] n.ki kk;omega
 split
 ·rw[Cd,Bd0];omega
 split
 ·rw[Cd,Cd,Bd0,Bd0];omega
 split
 ·have:=BbE [4,5,16] n.ki kk;omega
 split
 ·rw[Cd,Bd0];omega
 split
 ·rw[Cd,Cd,Bd0,Bd0];omega
 split
 ·have st:∀s∈n.bo,nbP (ptM s)+1<=2*szM s:=fun s hs=>by
   have z1:=Nd.size_stmt hs
   have z2:=Sm.size_nd s
   have z3:=Sm.size_te s
   have h1:=nbN s.nd
   have h2:=nbN s.te
   rw[GN,Rh]
   by_cases c2:s.kd=2
   ·rw[if_pos c2,if_neg (by omega)]
    have e:Pt.tx s.nm::.tx [60,45]::ptN s.nd=[.tx s.nm,.tx [60,45]]++ptN s.nd:=rfl
    rw[e,Cd]
    have:nbP [.tx s.nm,.tx [60,45]]=0:=by simp[nbP,Uy]
    omega
   ·rw[if_neg c2]
    split
    ·have e:ptN s.te++(Pt.tx [58]::ptN s.nd)=ptN s.te++([.tx [58]]++ptN s.nd):=rfl
     rw[e,Cd,Cd]
     have:nbP [.tx [58]]=0:=by simp[nbP,Uy]
     omega
    ·exact h1
  have hj:=nb_J ptM szM n.bo st
  rw[<- Bbg] at hj
  have e:Pt.op::(ptJ (n.bo.map ptM)++[.cl])=[.op]++(ptJ (n.bo.map ptM)++[.cl]):=rfl
  rw[e,Cd,Cd]
  have e1:nbP [.op]=1:=rfl
  have e2:nbP [.cl]=0:=rfl
  omega
 ·have:nbP [.tx (BD n)]=0:=by simp[nbP,Uy]
  have:=Bbh n
  omega
termination_by SizeOf.sizeOf n
decreasing_by
 ·exact Nd.size_kid hx
 ·omega
 ·omega
theorem nbM(s:Sm):nbP (ptM s)+1<=2*szM s:=by
 have h1:=nbN s.nd
 have h2:=nbN s.te
 rw[GN,Rh]
 by_cases c2:s.kd=2
 ·rw[if_pos c2,if_neg (by omega)]
  have e:Pt.tx s.nm::.tx [60,45]::ptN s.nd=[.tx s.nm,.tx [60,45]]++ptN s.nd:=rfl
  rw[e,Cd]
  have:nbP [.tx s.nm,.tx [60,45]]=0:=by simp[nbP,Uy]
  omega
 ·rw[if_neg c2]
  split
  ·have e:ptN s.te++(Pt.tx [58]::ptN s.nd)=ptN s.te++([.tx [58]]++ptN s.nd):=rfl
   rw[e,Cd,Cd]
   have:nbP [.tx [58]]=0:=by simp[nbP,Uy]
   omega
  ·exact h1
theorem nbB(l:List Sm):nbP (ptB l)<=2*szB l:=by
 rw[Bbg]
 exact nb_J ptM szM l fun s _=>nbM s
theorem Bli:∀(ps:List Pt) (a:Int),lvL a ps<=a+nbP ps
 | [],a=>by simp[lvL,nbP]
 |p::r,a=>by
  have:=Bli r (lvP a p)
  have e:lvL a (p::r)=lvL (lvP a p) r:=rfl
  have e2:Pt.op::r=[.op]++r:=rfl
  cases p<;>simp only[lvP,nbP,List.countP_cons,Uy] at this e ⊢<;>simp at this ⊢<;>omega
theorem Bbo(ps:List Pt)(i:Nat):nbP (ps.take i)<=nbP ps:=by
 have h:=Cd (ps.take i) (ps.drop i)
 rw[List.take_append_drop] at h
 omega
def IF(ps:List Pt):Nat:=(ps.map fun p=>(prT p).length+1).sum
theorem Blt(ps:List Pt)(i:Nat):IF (ps.take i)<=IF ps:=by
 have h:IF ps=IF (ps.take i)+IF (ps.drop i):=by
  unfold IF
  rw[<- List.sum_append,<- List.map_append,List.take_append_drop]
 omega
theorem Ri(ps:List Pt):IF ps<=(txP ps).length+1:=by
 cases ps with
 |nil=>simp[IF]
 |cons p r =>
  unfold txP
  rw[List.map_cons,BY]
  have key:∀r:List Pt,(r.map fun p=>(prT p).length+1).sum=(jT [32] (r.map prT)).length:=by
   intro r
   induction r with
   |nil=>rfl
   |cons q r ih =>
    have e:(jT [32] (prT q::r.map prT)).length=1+(prT q).length+(jT [32] (r.map prT)).length:=by
     simp[jT];omega
    rw[List.map_cons,List.sum_cons,ih,List.map_cons,e]
    omega
  have:=key r
  unfold IF
  rw[List.map_cons,List.sum_cons,this,List.length_append]
  omega
theorem Bgk(cmp:Bool)(ps:List Pt)(M:Nat)(hM:nbP ps<=M):∀i,i<=ps.length->(wrF cmp (ps.take i)).1.length<=IF (ps.take i)+nbP (ps.take i)*(1+2*M)
 |0,_=>by simp[wrF]
 |i+1,h=>by
  have hi:i<ps.length:=by omega
  have ih:=Bgk cmp ps M hM i (by omega)
  obtain ⟨a1,a2⟩:=TD cmp ps i (by omega)
  have hl:=Bli (ps.take i) 0
  have ht:=Bbo ps i
  have e1:IF (ps.take (i+1))=IF (ps.take i)+((prT (ps.getD i .sp)).length+1):=by
   unfold IF
   rw[List.take_add_one,List.getElem?_eq_getElem hi,List.map_append,List.sum_append,List.getD_eq_getElem?_getD,List.getElem?_eq_getElem hi]
   simp
  have e2:nbP (ps.take (i+1))=nbP (ps.take i)+(if Uy (ps.getD i .sp) then 1 else 0):=by
   have e5:∀p:Pt,nbP [p]=if Uy p then 1 else 0:=fun p=>by cases p<;>rfl
   rw[List.take_add_one,List.getElem?_eq_getElem hi,Cd,List.getD_eq_getElem?_getD,List.getElem?_eq_getElem hi]
   exact congrArg _ (e5 _)
  rw[Wi cmp hi,e1,e2]
  unfold wrS
  split
  ·rename_i hs
   have e3:Uy (ps.getD i .sp)=true:=by
    cases hq:ps.getD i .sp<;>rw[hq] at hs<;>first | rfl | cases hs
   have e4:(prT (ps.getD i .sp)).length=1:=by
    cases hq:ps.getD i .sp<;>rw[hq] at hs<;>first | rfl | cases hs
   rw[e3,if_pos rfl,Nat.add_mul,e4]
   have:((bif cmp then [59] else Mc (wrF cmp (ps.take i)).2.2):List UInt8).length<=1+2*M:=by
    cases cmp
    ·simp only[cond_false,Mc,List.length_cons,List.length_replicate]
     rw[a1];omega
    ·simp only[cond_true,List.length_cons,List.length_nil];omega
   simp only[List.length_append]
   omega
  ·have:(blB cmp (wrF cmp (ps.take i)).2.1 (prT (ps.getD i .sp))).length<=1:=by
    unfold blB
    cases (!(wrF cmp (ps.take i)).2.1.isEmpty&&(!cmp||CA (wrF cmp (ps.take i)).2.1 (prT (ps.getD i .sp))))<;>simp
   simp only[List.length_append]
   have:nbP (ps.take i)*(1+2*M)<=(nbP (ps.take i)+if Uy (ps.getD i .sp)=true then 1 else 0)*(1+2*M):=Nat.mul_le_mul_right _ (Nat.le_add_right _ _)
   omega
theorem BbN{l:List Sm}(h:PrR l)(ho:∀s∈l,s.ok):(txP (ptB l)).length<=3300000000000:=by
 have st:∀s∈l,(txP (ptM s)).length+60<=200000000*szM s/\ptM s≠[]:=fun s hs=>by
  obtain ⟨q1,_,k3,k2⟩:=UV h hs
  have hl:=GL s.nd q1 (EH (ho s hs)).2
  have ht:=Bau s.nd q1
  rw[Rh,if_neg k3,GN]
  by_cases c2:s.kd=2
  ·rw[if_pos c2]
   have hn:=(BS (k2 c2)).2.1
   rw[ED (by simp),ED ht.2,ht.1]
   refine⟨?_,by simp⟩
   simp only[List.length_append,List.length_cons,prT,List.length_nil]
   omega
  ·rw[if_neg c2,if_neg k3,ht.1]
   exact⟨by omega,ht.2⟩
 have hz:=h.hz
 cases l with
 |nil=>simp[ptB,ptJ,txP,Lib.join]
 |cons x r =>
  have key:∀r:List Sm,(∀s∈r,(txP (ptM s)).length+60<=200000000*szM s/\ptM s≠[])->∀a:List Pt,a≠[]->(txP (a++(r.map ptM).flatMap fun y=>.sp::y)).length<=(txP a).length+200000000*szB r:=by
   intro r
   induction r with
   |nil=>intro _ a _;simp
   |cons y r ih =>
    intro hr a ha
    have hy:=hr y (by simp)
    have:=ih (fun z hz=>hr z (by simp[hz])) (a++(.sp::ptM y)) (neA ha)
    rw[CW ha (by simp),ED hy.2] at this
    simp only[List.length_append,List.length_cons,prT,List.length_nil] at this
    rw[List.map_cons,List.flatMap_cons,<- List.append_assoc]
    simp only[szB]
    omega
  have hx:=st x (by simp)
  have:=key r (fun z hz=>st z (by simp[hz])) (ptM x) hx.2
  unfold ptB
  rw[List.map_cons,ptJ]
  simp only[szB] at hz
  omega
theorem Bpr{l:List Sm}(h:PrR l)(ho:∀s∈l,s.ok)(cmp:Bool)(i:Nat)(hi:i<=(ptB l).length):(wrF cmp ((ptB l).take i)).1.length<=3400000000000:=by
 have h1:=Bgk cmp (ptB l) 32768 (by have:=nbB l;have:=h.hz;omega) i hi
 have h2:=Blt (ptB l) i
 have h3:=Ri (ptB l)
 have h4:=BbN h ho
 have h5:=Bbo (ptB l) i
 have h6:=nbB l
 have h7:=h.hz
 have:nbP ((ptB l).take i)*(1+2*32768)<=32768*(1+2*32768):=Nat.mul_le_mul_right _ (by omega)
 omega
def BT(l:List Sm):List UInt8:=if CI l=0/\l≠[] then (wrF false (ptB l)).1++[10] else []
def Cc(l:List Sm):List UInt8:=if CI l=0 then (wrF true (ptB l)).1 else []
theorem BnS(ps:List Pt):ps.length<=IF ps:=by
 induction ps with
 |nil=>simp
 |cons p r ih =>
  unfold IF at ih ⊢
  rw[List.map_cons,List.sum_cons,List.length_cons]
  omega
theorem OC{a : Nat}{F G : Nat -> List D}{L r : List (List UInt8)}(ha : a=L.length)(hF : ∀i, i<a -> F i=[D.str (L.getD i [])])(hG : ∀i, i<r.length -> G i=[D.str (r.getD i [])]) :
  ∀i,i<a+r.length->BW a F G i=[D.str ((L++r).getD i [])]:=by
 intro i hi
 subst ha
 simp only[BW]
 split
 ·rename_i h
  rw[hF i h]
  simp[List.getD_eq_getElem?_getD,List.getElem?_append_left h]
 ·rename_i h
  rw[hG _ (by omega)]
  simp[List.getD_eq_getElem?_getD,List.getElem?_append_right (Nat.le_of_not_lt h)]
theorem Bmx(s : ByteArray)(c : Int)(w : World) :
  Calls Tryz.prog 133 #[.string s,.int .u8 c] w fun e w'=>e=.returned (.int .i64 (Lib.indexByte s.data.toList c.toNat.toUInt8))/\w'=w:=by
 go_enter Tryz.func133,Tryz.ntmps133
 go_wp2
 rw[run_callFunc_extern Tryz.func160 (by kernel_rfl) (by kernel_rfl) (by kernel_rfl) (e:=Extern.BytealgIndexByte.indexByte) (by kernel_rfl),Lib.run_indexByteString]
 simp only[Result.andThen]
 rw[Oper.upon_value]
 go_wp2
 go_ret
 exact⟨rfl,rfl⟩
def ixT(r:List UInt8):Int:=if Is r<r.length then (Is r:Int) else -1
theorem BfO:∀r:List UInt8,Lib.indexByte r 32=ixT r
 | []=>rfl
 |b::r=>by
  have ih:=BfO r
  have e:Is (b::r)=bif b==32 then 0 else Is r+1:=by unfold Is;rw[List.findIdx_cons]
  rw[Lib.indexByte,ih]
  unfold ixT
  by_cases hb:b=32
  ·subst hb
   rw[e]
   simp
  ·have hb':(b==32)=false:=by simpa using hb
   rw[hb'] at e
   simp only[cond_false] at e
   rw[e,hb',List.length_cons]
   by_cases h:Is r<r.length
   ·have h2:((Is r:Int)==-1)=false:=by rw[beq_eq_false_iff_ne];omega
    rw[if_pos h,if_pos (show Is r+1<r.length+1 by omega),h2]
    simp
   ·rw[if_neg h,if_neg (show ¬Is r+1<r.length+1 by omega)]
    simp
theorem Bpn(s:List UInt8):CD 133 [.str s,.int .u8 32] (.int .i64 (ixT s)):=by
 refine ACalls.of_shelf ⟨_,Tryz.func133,by kernel_rfl,by kernel_rfl⟩ fun C args w ha=>?_
 obtain ⟨u,v,e,hu,hv⟩:=EO ha
 have e2:args=[u,v].toArray:=by rw[<- e]
 subst e2
 simp only[Rep] at hu hv;subst hu hv
 refine (Bmx ⟨s.toArray⟩ 32 w).mono fun e w' ⟨h1,h2⟩=>⟨⟨_,h1,?_⟩,by rw[h2];exact Go.RowKit.Below.refl _ _⟩
 have e:Lib.indexByte s 32=ixT s:=BfO s
 simp[Rep,e]
def BkX:Con:=fun k ds S=>match k with
 |133=>match ds with
  | [.str s,_]=>some (pA ds S (.int .i64 (ixT s)) (wkL ds [.str s,.int .u8 32]))
  |_=>none
 |_=>none
theorem Bkx:ConOk Tryz.prog BkX:=by
 intro k ds S A hh
 unfold BkX at hh
 split at hh
 ·split at hh
  ·injection hh with hh;subst hh
   exact Bv fun e=>CD.at_ (CD.wk (Bpn _) e) _
  ·cases hh
 ·cases hh
noncomputable def Esib:Senv:=EC BkX 8 2 [4] (fun _=>([],[]))
theorem BpE(s:List UInt8):CD 106 [.str s,.int .u8 32] (.int .i64 (ixT s)):=by
 refine Bf (A:=sC _ _) (x:=()) (E:=Esib) (eOk Bkx rfl) Tryz.func106 rfl (by kernel_rfl) rfl (by simp[sC,Esib,EC,E0]) ?_
 refine Bk (T :=
  ∃(x:Unit),(SM s/\SM (32:Int)/\True)/\∀(y:Unit),True->RT (SM (ixT s))) (by kernel_rfl) ?_
 delta SM RT
 simp only[eq_self,implies_true,and_true,exists_const]
 all_goals first
  |exact Bi _
  |exact⟨Bi _,rfl⟩
theorem BfH:∀r:List UInt8,Is r<=r.length
 | []=>by simp[Is]
 |b::r=>by
  have:=BfH r
  have e:Is (b::r)=bif b==32 then 0 else Is r+1:=by unfold Is;rw[List.findIdx_cons]
  rw[e]
  cases b==32<;>simp<;>omega
def Blr:Con:=fun k ds S=>match k with
 |106=>match ds with
  | [.str s,_]=>some (pA ds S (.int .i64 (ixT s)) (wkL ds [.str s,.int .u8 32]))
  |_=>none
 |_=>none
theorem BlW:ConOk Tryz.prog Blr:=by
 intro k ds S A hh
 unfold Blr at hh
 split at hh
 ·split at hh
  ·injection hh with hh;subst hh
   exact Bv fun e=>CD.at_ (CD.wk (BpE _) e) _
  ·cases hh
 ·cases hh
structure EdI (s:List UInt8) (q:UInt8) (a x:Nat):Prop where
 lo:a+1<=x
 ok:(x<=s.length/\(x-(a+1))+ES q (s.drop x)=ES q (s.drop (a+1)))\/(x=s.length+1/\s.length<=a+1+ES q (s.drop (a+1)))
noncomputable def Eed(s:List UInt8)(a:Nat):Senv:={ EC Blr 53 2 [4,5,6,15,21,39,45] (fun _=>([],[])) with
 mg:=fun _=>2
 ann:=fun b _ S=>match b with
  |0=>some { slots:=[1],keep:=[0,5],α:=Nat,st:=fun x=>([.int .i64 x],S),inv:=fun x=>EdI s (s.getD a 0) a x,mu:=fun x=>s.length+1-x }
  |_=>none }
def Vo(a:List UInt8)(b:Nat):Int:=(BI a (Int.toNat (↑b:Int)))
def Qpn(a:Nat)(b:List UInt8):List UInt8:=List.drop (Int.toNat (↑a:Int)) (List.take (TL b) b)
def Qpo(a:Nat)(b:List UInt8):Int:=ixT (Qpn a b)
def Qdt(a:Nat)(b:List UInt8):Int:=(NI (a+TB (List.drop a b)))
def Hj(a:List UInt8)(b c:Nat):Prop:=EdI a (List.getD a b U0) b c
def Hk(a:Nat):Int:=IntKind.wrap IntKind.i64 ((↑a:Int)+Z1)
def Qpp(a b:Nat):Prop:=(Hk a=(↑b:Int)/\True)/\True/\True
def Qpq(a:List UInt8)(b:Nat):Prop:=SM (D.str a)/\SM (ZB (Vo a b))/\True
def Qpr(a:List UInt8)(b c:Nat):Prop:=True/\∃(_y:Unit),True/\(if (LI a)<Hk b then (LI a) else Hk b)=Qdt c a/\True/\True
def Qps(a:List UInt8)(b:Nat):Prop:=(∃(x:Nat),Hj a b x/\Qpp b x)/\∀(x:Nat),Hj a b x->ifB (decide ((↑x:Int)<(LI a))) (Be (Z0<=(↑x:Int)/\(↑x:Int)<(LI a)) (ifB (Vo a x != Vo a b) (Be (Z0<=(↑x:Int)/\(↑x:Int)<(LI a)) (ifB (Vo a x==92) (Qpq a b/\∃(y:Nat),Hj a b y/\LN a+N1-y<LN a+N1-x/\(IntKind.wrap IntKind.i64 (Hk x+Z1)=(↑y:Int)/\True)/\True/\True) (Qpq a b/\∃(y:Nat),Hj a b y/\LN a+N1-y<LN a+N1-x/\Qpp x y))) (Qpr a x b))) (Qpr a x b)
theorem Bp3(s:List UInt8)(a:Nat)(ha:a<s.length)(hs:s.length<=100000000000000):CD 71 [.str s,.int .i64 a] (.int .i64 ((a+TB (s.drop a):Nat):Int)):=by
 refine Bf (A:=sC _ _) (x:=()) (E:=Eed s a) (eOk BlW rfl) Tryz.func71 rfl (by kernel_rfl) rfl (by simp[sC,Eed,EC,E0]) ?_
 refine Bk (T :=
  Be (Z0<=(↑a:Int)/\(↑a:Int)<(LI s)) (ifB (Vo s a != (34:Int)) (ifB (Vo s a != (39:Int)) (Be (Z0<=(↑a:Int)/\(↑a:Int)<=(LI s)/\(LI s)<=(LI s)) (∃(x:Unit),(SM (Qpn a s)/\SM (32:Int)/\True)/\∀(y:Unit),True->ifB (decide (Z0<=Qpo a s)) (RT (IntKind.wrap IntKind.i64 ((↑a:Int)+Qpo a s)=Qdt a s)) (RT ((LI s)=Qdt a s)))) (Qps s a)) (Qps s a))) (by kernel_rfl) ?_
 delta BI LI LN N1 NI SM TL U0 Z0 Z1 ZB Vo Qpn Qpo Qdt Hj Hk Qpp Qpq Qpr Qps RT
 simp only[eq_self,ne_eq,Int.toNat_natCast,Bh,Bc,decide_eq_true_eq,decide_eq_false_iff_not,true_and,and_true,beq_iff_eq,bne_iff_ne,bne_eq_false_iff_eq,beq_eq_false_iff_ne,exists_const,forall_const]
 have hd:s.drop a=s.getD a 0::s.drop (a+1):=by
  rw[List.drop_eq_getElem_cons ha,List.getD_eq_getElem?_getD,List.getElem?_eq_getElem ha];rfl
 have dl:(s.drop (a+1)).length=s.length-(a+1):=List.length_drop
 have key:∀(c:UInt8) (n:Nat) (z:Int),n<256->z=n->(((c.toNat:Nat):Int)=z↔c=UInt8.ofNat n):=fun c n z hn hz=>by
  constructor
  ·intro h
   have h:c.toNat=n:=by omega
   rw[<- h]
   exact (UInt8.ofNat_toNat).symm
  ·rintro rfl
   rw[UInt8.toNat_ofNat'];omega
 have k34:(((s.getD a 0).toNat:Nat):Int)=34↔s.getD a 0=34:=key (s.getD a 0) 34 34 (by omega) rfl
 have k39:(((s.getD a 0).toNat:Nat):Int)=39↔s.getD a 0=39:=key (s.getD a 0) 39 39 (by omega) rfl
 refine⟨⟨by omega,by omega⟩,fun n34=>⟨fun n39=>?_,fun q39=>?_⟩,fun q34=>?_⟩
 ·have hc:TB (s.drop a)=Is (s.drop a):=by
   rw[hd,TB,if_neg]
   rintro (h | h)
   ·exact n34 (k34.2 h)
   ·exact n39 (k39.2 h)
  have hl:=BfH (s.drop a)
  have dl2:(s.drop a).length=s.length-a:=List.length_drop
  rw[List.take_length,hc]
  unfold ixT
  refine⟨⟨by omega,by omega,by omega⟩,fun h=>?_,fun h=>?_⟩
  ·by_cases hi:Is (s.drop a)<(s.drop a).length
   ·rw[if_pos hi] at h ⊢
    rw[Bb (by omega) (by omega)];omega
   ·rw[if_neg hi] at h;omega
  ·by_cases hi:Is (s.drop a)<(s.drop a).length
   ·rw[if_pos hi] at h;omega
   ·omega
 all_goals
  have hq:s.getD a 0=34\/s.getD a 0=39:=by
   first
    |exact .inl (k34.1 q34)
    |exact .inr (k39.1 q39)
  have hc:TB (s.drop a)=min (ES (s.getD a 0) (s.drop (a+1))+2) (s.length-(a+1)+1):=by
   rw[hd,TB,if_pos hq,dl]
  have h92:(92:UInt8)≠s.getD a 0:=by rcases hq with h | h<;>rw[h]<;>decide
  clear k34 k39
  generalize s.getD a 0=q at *
  rw[hc]
  refine⟨⟨a+1,⟨Nat.le_refl _,.inl ⟨by omega,by rw[Nat.sub_self,Nat.zero_add]⟩⟩,Bb (by omega) (by omega)⟩,fun x hx=>⟨fun hlt=>?_,fun hge=>?_⟩⟩
  ·have hlt':x<s.length:=by omega
   obtain ⟨lo,hok⟩:=hx
   have hok:(x-(a+1))+ES q (s.drop x)=ES q (s.drop (a+1)):=by
    rcases hok with h | h
    ·exact h.2
    ·omega
   have hdx:s.drop x=s.getD x 0::s.drop (x+1):=by
    rw[List.drop_eq_getElem_cons hlt',List.getD_eq_getElem?_getD,List.getElem?_eq_getElem hlt'];rfl
   have w1:IntKind.i64.wrap ((x:Int)+1)=((x+1:Nat):Int):=by rw[Bb (by omega) (by omega)];rfl
   have w2:IntKind.i64.wrap (((x+1:Nat):Int)+1)=((x+2:Nat):Int):=by rw[Bb (by omega) (by omega)];rfl
   have kq:(((s.getD x 0).toNat:Nat):Int)=((q.toNat:Nat):Int)↔s.getD x 0=q:=by
    constructor
    ·intro h
     exact UInt8.toNat_inj.1 (by omega)
    ·intro h;rw[h]
   have k92:(((s.getD x 0).toNat:Nat):Int)=92↔s.getD x 0=92:=key (s.getD x 0) 92 92 (by omega) rfl
   rw[w1]
   refine⟨⟨by omega,hlt⟩,fun hne=>⟨⟨by omega,hlt⟩,fun h9=>⟨x+2,⟨by omega,?_⟩,by omega,w2⟩,fun h9=>⟨x+1,⟨by omega,.inl ⟨hlt',?_⟩⟩,by omega,rfl⟩⟩,fun he=>?_⟩
   ·have e92:s.getD x 0=92:=k92.1 h9
    rw[hdx,e92] at hok
    by_cases hl:x+1<s.length
    ·have hd2:s.drop (x+1)=s.getD (x+1) 0::s.drop (x+2):=by
      rw[List.drop_eq_getElem_cons hl,List.getD_eq_getElem?_getD,List.getElem?_eq_getElem hl];rfl
     rw[hd2,II h92] at hok
     exact .inl ⟨by omega,by omega⟩
    ·rw[List.drop_eq_nil_of_le (show s.length<=x+1 by omega),ES,if_neg h92] at hok
     exact .inr ⟨by omega,by omega⟩
   ·rw[hdx,R4 (fun h=>hne (kq.2 h)) (fun h=>h9 (k92.2 h))] at hok
    omega
   ·rw[hdx,kq.1 he,Bc5] at hok
    rw[if_neg (by omega)]
    omega
  ·obtain ⟨lo,hok⟩:=hx
   have wx:x<=s.length+1:=by rcases hok with h | h<;>omega
   have w1:IntKind.i64.wrap ((x:Int)+1)=((x+1:Nat):Int):=by rw[Bb (by omega) (by omega)];rfl
   rw[w1,if_pos (by omega)]
   rcases hok with ⟨h1,h2⟩ | ⟨h1,h2⟩
   ·rw[List.drop_eq_nil_of_le (show s.length<=x by omega),ES] at h2
    omega
   ·omega
def Bk3(n:Nd):Con:=fun k ds S=>match k with
 |71=>match ds with
  | [.str s,.int .i64 a]=>some (pA ds S (.int .i64 ((a.toNat+TB (s.drop a.toNat):Nat):Int)) (0<=a/\a<s.length/\s.length<=100000000000000))
  |_=>none
 |70=>some (pA ds S (.str (Oh n)) (isN n ds []))
 |_=>none
theorem Bkg{n:Nd}(ho:n.ok)(hn:n.sm):ConOk Tryz.prog (Bk3 n):=by
 intro k ds S A hh
 unfold Bk3 at hh
 split at hh
 ·split at hh
  ·rename_i s a
   injection hh with hh;subst hh
   refine Bv fun ⟨h0,h1,h2⟩=>CD.at_ ?_ _
   have e:a=((a.toNat:Nat):Int):=by omega
   have:=Bp3 s a.toNat (by omega) h2
   rw[<- e] at this
   exact this
  ·cases hh
 ·injection hh with hh;subst hh
  exact Bv fun e=>CD.at_ (CD.wk (Bpf n ho hn) e) _
 ·cases hh
def ptX(n:Nd):List (List UInt8):=(ptN n).map prT
structure PpI (X:List (List UInt8)) (T:List UInt8) (a:Int) (out:List (List UInt8)):Prop where
 ok:∃k,k<=X.length/\out=X.take k/\((k<X.length/\a=(T.length-(Lib.join (X.drop k) [32]).length:Nat)/\T.drop a.toNat=Lib.join (X.drop k) [32]/\a<T.length)\/(k=X.length/\a=T.length+1))
noncomputable def Epp(n:Nd):Senv:={ EC (Bk3 n) 27 7 [12] (fun _=>([],[])) with
 mg:=fun _=>2
 gh:=fun b=>match b with
  |0=>[.slot 3]
  |_=>[]
 ann:=fun b _ S=>match b with
  |0=>some { slots:=[5,3],keep:=[0,1,4],α:=Int×Nat×List (List UInt8),st:=fun y=>([.int .i64 y.1,ssl y.2.2 (.tok 0 y.2.1)],⟨S.objs,[(0,y.2.1)]⟩),inv:=fun y=>PpI (ptX n) (BD n) y.1 y.2.2,mu:=fun y=>(BD n).length+1-y.1.toNat }
  |_=>none }
def Qpt(a:Nd):Int:=Nd.kd a
def Qpu(a:Nd):Int:=Nd.at_ a
def Qpv(a:Nd):Int:=Nd.cl a
def Qpw(a:Nd):List UInt8:=Nd.tx a
def Qpx(a:Nd):Int:=Nd.pr a
def Qpy(a:Nd):Int:=Nd.op a
def Hl(a:Nd):Arr:=Nd.va a
def Qpz(a:Nd):Int:=Arr.k (Hl a)
def QpA(a:Nd):List Int:=Arr.sh (Hl a)
def Qdu(a:Nd):Nat:=LN (QpA a)
def QpB(a:Nd)(b:Nat):List D:=[ZI (GI (QpA a) b)]
def QpC(a:Nd):List Int:=Arr.nu (Hl a)
def Qdv(a:Nd):Nat:=LN (QpC a)
def QpD(a:Nd)(b:Nat):List D:=[ZI (GI (QpC a) b)]
def QpE(a:Nd):List Arr:=Arr.it (Hl a)
def Qdw(a:Nd):Nat:=LN (QpE a)
def QpF:Arr:=DA
def QpG(a:Nd)(b:Nat):List D:=Arr.row (List.getD (QpE a) b QpF)
def Qdx(a:Nd):Nat:=LN (Nd.ki a)
def Qdy:Nd:=Nd.mk Z0 Z0 Z0 [] Z0 Z0 QpF [] [] Z0 Z0 Z0
def QpH(a:Nd)(b:Nat):List D:=Nd.row (List.getD (Nd.ki a) b Qdy)
def Qdz(a:Nd):Nat:=LN (Nd.bo a)
def QpI(a:Nd)(b:Nat):List D:=Sm.row (List.getD (Nd.bo a) b (Sm.mk Z0 Z0 [] Z0 Qdy Qdy))
def QpJ(a:Nd):Int:=Nd.de a
def QpK(a:Nd):Int:=Nd.sl a
def QpL(a:Nd):Int:=Nd.ss a
def QpM(a:Nd):D:=D.agg [ZI (Qpt a),ZI (Qpu a),ZI (Qpv a),D.str (Qpw a),ZI (Qpx a),ZI (Qpy a),ZI (Qpz a),D.sl N1 (Qdu a) (fun i=>QpB a i) Mode.any,D.sl N1 (Qdv a) (fun i=>QpD a i) Mode.any,D.sl N4 (Qdw a) (fun i=>QpG a i) Mode.any,D.sl 15 (Qdx a) (fun i=>QpH a i) Mode.any,D.sl 34 (Qdz a) (fun i=>QpI a i) Mode.any,ZI (QpJ a),ZI (QpK a),ZI (QpL a)]
def QdA(a:Nd):List (List UInt8):=ptX a
def QdB(a:Nd)(b:Int)(c:List (List UInt8)):Prop:=PpI (QdA a) (BD a) b c
def Hm(a:List (List UInt8))(b:Nat):List D:=[D.str (List.getD a b [])]
def QpN(a:Nat)(b:Nd)(c d:Nat):Prop:=(SM a/\(SM (Qpt b)/\SM (Qpu b)/\SM (Qpv b)/\SM (Qpw b)/\SM (Qpx b)/\SM (Qpy b)/\SM (Qpz b)/\(SM (Qdu b)/\(∀(i:Nat),i<Qdu b->SM (QpB b i))/\True)/\(SM (Qdv b)/\(∀(i:Nat),i<Qdv b->SM (QpD b i))/\True)/\(SM (Qdw b)/\(∀(i:Nat),i<Qdw b->SM (QpG b i))/\True)/\(SM (Qdx b)/\(∀(i:Nat),i<Qdx b->SM (QpH b i))/\True)/\(SM (Qdz b)/\(∀(i:Nat),i<Qdz b->SM (QpI b i))/\True)/\SM (QpJ b)/\SM (QpK b)/\SM (QpL b)/\True)/\True)/\c=d/\True
def Xq(a:Nd):List UInt8:=Oh a
def QdC(a:Nd):Int:=(LI (Xq a))
def Hn(a:Int)(b:Nd):Int:=(NI (Int.toNat a+TB (List.drop (Int.toNat a) (Xq b))))
theorem BqT(n:Nd)(hv:Ek n=0)(ho:n.ok)(hn:n.sm):CD 38 [.agg n.row1] (ssl (ptX n) .any):=by
 refine Bf (A:=sC _ _) (x:=()) (E:=Epp n) (eOk (Bkg ho hn) rfl) Tryz.func38 rfl (by kernel_rfl) rfl (by simp[sC,Epp,EC,E0]) ?_
 refine Bk (T :=
  ∀(x:Nat),True->SM x/\∃(x_1:Unit),isN n [QpM n] []/\∀(y:Unit),True->∀(t:Nat),(∃(x_2:Int×Nat×List (List UInt8)),QdB n x_2.1 x_2.2.2/\(Z0=x_2.1/\(N0=LN x_2.2.2/\(∀(i:Nat),i<N0->CN (List D) [] (Hm x_2.2.2 i))/\t=x_2.2.1)/\True)/\QpN x n t x_2.2.1)/\∀(x_2:Int×Nat×List (List UInt8)),QdB n x_2.1 x_2.2.2->ifB (decide (x_2.1<QdC n)) (∃(x_3:Unit),(Z0<=x_2.1/\x_2.1<QdC n/\LN (Xq n)<=100000000000000)/\∀(y:Unit),True->Be (Z0<=x_2.1/\x_2.1<=Hn x_2.1 n/\Hn x_2.1 n<=QdC n) (SM x_2.2.1/\Be ((LN x_2.2.2+N1)*16<=140737488355328/\LN x_2.2.2+N1<=9223372036854775807) (∀(t:Nat),(SM (QpM n)/\SM (D.ref N0 x N0)/\SM (D.str (Xq n))/\True)/\∃(y:Int×Nat×List (List UInt8)),QdB n y.1 y.2.2/\LN (BD n)+N1-Int.toNat y.1<LN (BD n)+N1-Int.toNat x_2.1/\(IntKind.wrap IntKind.i64 (Hn x_2.1 n+Z1)=y.1/\(LN x_2.2.2+N1=LN y.2.2/\(∀(i:Nat),i<LN x_2.2.2+N1->BW (LN x_2.2.2) (fun i=>Hm x_2.2.2 i) (fun i=>[D.str (List.getD [List.drop (Int.toNat x_2.1) (List.take (Int.toNat (Hn x_2.1 n)) (Xq n))] i [])]) i=Hm y.2.2 i)/\t=y.2.1)/\True)/\QpN x n t y.2.1))) (True/\∃(y:Unit),True/\(LN x_2.2.2=LN (QdA n)/\(∀(i:Nat),i<LN x_2.2.2->Hm x_2.2.2 i=[D.str (List.getD (QdA n) i [])])/\True)/\True/\True)) (by kernel_rfl) ?_
 delta DA GI LI LN N0 N1 N4 NI SM Z0 Z1 ZI Qpt Qpu Qpv Qpw Qpx Qpy Hl Qpz QpA Qdu QpB QpC Qdv QpD QpE Qdw QpF QpG Qdx Qdy QpH Qdz QpI QpJ QpK QpL QpM QdA QdB Hm QpN Xq QdC Hn
 try simp only[<- dm]
 try simp only[<- dn]
 simp only[implies_true,Int.toNat_natCast,Bh,Bc,decide_eq_true_eq,decide_eq_false_iff_not,true_and,and_true,exists_const,forall_const,Prod.exists]
 obtain ⟨_,hz,hvn⟩:=Oy.1 hv
 have hsN:Oh n=BD n:=if_pos hv
 obtain ⟨ht,hne⟩:=Bau n hvn
 have hT:BD n=Lib.join (ptX n) [32]:=ht.symm
 have hln:=GL n hvn ho
 have hgood:∀x∈ptX n,Bco x:=fun x hx=>by
  obtain ⟨p,hp,rfl⟩:=List.mem_map.1 hx
  have:=okN n hvn ho p hp
  cases p with
  |tx y=>exact this.1
  |op=>exact IM (by simp[prT]) (by decide) ⟨by decide,by decide⟩
  |cl=>exact IM (by simp[prT]) (by decide) ⟨by decide,by decide⟩
  |sp=>exact IM (by simp[prT]) (by decide) ⟨by decide,by decide⟩
 have hX0:0<(ptX n).length:=by unfold ptX;rw[List.length_map];exact List.length_pos_iff.2 hne
 have hXl:(ptX n).length<=(BD n).length+1:=by
  have h1:=Ri (ptN n)
  have h2:(ptN n).length<=IF (ptN n):=by
   have:∀ps:List Pt,ps.length<=IF ps:=fun ps=>by
    induction ps with
    |nil=>simp
    |cons p r ih =>
     unfold IF at ih ⊢
     rw[List.map_cons,List.sum_cons,List.length_cons]
     omega
   exact this _
  unfold ptX
  rw[List.length_map]
  rw[ht] at h1
  omega
 rw[hsN]
 generalize ptX n=X at *
 generalize BD n=T at *
 have jcons:∀k,k<X.length->Lib.join (X.drop k) [32]=X.getD k []++(if k+1<X.length then 32::Lib.join (X.drop (k+1)) [32] else []):=fun k hk=>by
  have e:X.drop k=X.getD k []::X.drop (k+1):=by
   rw[List.drop_eq_getElem_cons hk,List.getD_eq_getElem?_getD,List.getElem?_eq_getElem hk];rfl
  rw[e,BY]
  congr 1
  by_cases h:k+1<X.length
  ·rw[if_pos h]
   cases hr:X.drop (k+1) with
   |nil=>have:=congrArg List.length hr;simp at this;omega
   |cons y r=>rw[Bbp];rfl
  ·rw[if_neg h,List.drop_eq_nil_of_le (by omega)]
   simp[jT]
 have gx:∀k,k<X.length->Bco (X.getD k []):=fun k hk=>hgood _ (by
  rw[List.getD_eq_getElem?_getD,List.getElem?_eq_getElem hk];exact List.getElem_mem hk)
 have jpos:∀k,k<X.length->0<(Lib.join (X.drop k) [32]).length:=fun k hk=>by
  rw[jcons k hk,List.length_append]
  have:=List.length_pos_iff.2 (gx k hk).1
  omega
 clear ht hne hgood hsN
 refine⟨BB _ _,fun t=>⟨⟨0,t,[],⟨⟨0,Nat.zero_le _,rfl,.inl ⟨hX0,?_,?_,?_⟩⟩⟩,⟨rfl,rfl,fun i hi=>absurd hi (Nat.not_lt_zero _),rfl⟩,rfl⟩,?_⟩⟩
 ·rw[List.drop_zero,<- hT];omega
 ·rw[List.drop_zero,<- hT];rfl
 ·have:=jpos 0 hX0
  rw[List.drop_zero,<- hT] at this
  omega
 rintro ⟨a,tk,out⟩ ⟨⟨k,hk,hout,hst⟩⟩
 simp only at hk hout hst ⊢
 have hol:out.length=k:=by rw[hout,List.length_take];omega
 refine⟨fun hlt=>?_,fun hge=>?_⟩
 ·obtain ⟨hk1,ha,hdr,_⟩:k<X.length/\a=(T.length-(Lib.join (X.drop k) [32]).length:Nat)/\T.drop a.toNat=Lib.join (X.drop k) [32]/\a<T.length:=by
   rcases hst with h | h
   ·exact h
   ·omega
  obtain ⟨m,rfl⟩:∃m:Nat,a=m:=⟨a.toNat,by omega⟩
  rw[Int.toNat_natCast] at hdr ⊢
  have hj:=jcons k hk1
  have hcut:TB (T.drop m)=(X.getD k []).length:=by
   rw[hdr,hj]
   refine (gx k hk1).2 _ ?_
   split
   ·exact .inr ⟨_,rfl⟩
   ·exact .inl rfl
  have hjl:(Lib.join (X.drop k) [32]).length=T.length-m:=by rw[<- hdr,List.length_drop]
  have hxl:(X.getD k []).length+(if k+1<X.length then 1+(Lib.join (X.drop (k+1)) [32]).length else 0)=T.length-m:=by
   rw[<- hjl,hj,List.length_append]
   split
   ·rw[List.length_cons];omega
   ·rfl
  have hsub:List.drop m (List.take (m+TB (T.drop m)) T)=X.getD k []:=by
   rw[List.drop_take,hcut,hdr,Nat.add_sub_cancel_left,hj]
   exact List.take_left' rfl
  rw[hsub,hcut]
  have wn:IntKind.i64.wrap (((m+(X.getD k []).length:Nat):Int)+1)=((m+(X.getD k []).length+1:Nat):Int):=by
   rw[Bb (by split at hxl<;>omega) (by split at hxl<;>omega)];rfl
  have hxp:=List.length_pos_iff.2 (gx k hk1).1
  refine⟨⟨by omega,by omega,by omega⟩,⟨by omega,by omega,by split at hxl<;>omega⟩,⟨by omega,by omega⟩,fun t2=>⟨((m+(X.getD k []).length+1:Nat):Int),t2,out++[X.getD k []],⟨⟨k+1,hk1,?_,?_⟩⟩,by omega,⟨wn,by simp,fun i hi=>Ta i hi,rfl⟩,rfl⟩⟩
  ·rw[hout,List.take_add_one,List.getElem?_eq_getElem hk1,List.getD_eq_getElem?_getD,List.getElem?_eq_getElem hk1];rfl
  ·by_cases h1:k+1<X.length
   ·rw[if_pos h1] at hxl
    have hp:=jpos (k+1) h1
    refine .inl ⟨h1,by omega,?_,by omega⟩
    rw[Int.toNat_natCast]
    have e:T.drop (m+(X.getD k []).length+1)=(T.drop m).drop ((X.getD k []).length+1):=by rw[List.drop_drop];congr 1
    rw[e,hdr,hj,if_pos h1,List.drop_append]
    simp
   ·rw[if_neg h1] at hxl
    exact .inr ⟨by omega,by omega⟩
 ·have hkl:k=X.length:=by
   rcases hst with h | h
   ·exact absurd h.2.2.2 hge
   ·exact h.1
  rw[hkl,List.take_length] at hout
  rw[hout]
  exact⟨rfl,fun _ _=>rfl⟩
theorem Bqm:liesAt Tryz.prog Tryz.prog.depth 60 (4 / Tryz.prog.cellsOf 60) 0 58 1=true:=by kernel_rfl
theorem Bio(b : Nat)(w : World)(h0 : w.cell? ⟨b, 0, none⟩=some (.pointer none))(hsh : w.shape? b=some (60, 4))(hfz : w.frozen? ⟨b, 0, none⟩=false) :
  Calls Tryz.prog 44 #[.pointer (some ⟨b,0,none⟩)] w fun e w'=>e=.returned (.tuple #[])/\w'=w.setCell ⟨b,0,none⟩ (.pointer (some ⟨b,0,none⟩)):=by
 obtain ⟨j,hj,hjs⟩:=Blu
 go_enter Tryz.func44,Tryz.ntmps44
 go_wp2
 rw[Lib.run_to_unsafe w ⟨b,0,none⟩ tyB tyU hj (by rw[hjs];decide) hsh (Nat.zero_lt_succ 3)]
 simp only[Result.andThen]
 rw[Oper.upon_value]
 go_wp2
 rw[run_callFunc_extern Tryz.func76 (by kernel_rfl) (by kernel_rfl) (by kernel_rfl) (e:=Extern.AbiNoEscape.same) (by kernel_rfl)]
 rw[Lib.run_noEscape]
 simp only[Result.andThen]
 rw[Oper.upon_value]
 go_wp2
 rw[Lib.run_from_unsafe w ⟨b,0,none⟩ tyU tyB hj hsh Bqm]
 simp only[Result.andThen]
 rw[Oper.upon_value]
 go_wp2
 go_end0
 exact⟨rfl,rfl⟩
def sCx(k x E:Nat)(d:D)(ds:List D):FnSpec where
 β:=Unit
 α:=Unit
 args:=fun _=>[.ref k x 0]
 st:=fun _=>⟨[(k,x,.bldx 60 E d ds)],[]⟩
 pre:=fun _=>True
 post:=fun _ _=>True
 res:=fun _ _=>.ret (.tup [])
 out:=fun _ _=>⟨[(k,x,.bldx 60 E d ds)],[]⟩
theorem Bpz(k x E:Nat)(d:D)(ds:List D)(hds:ds.length=2):ACalls Tryz.prog 44 ((sCx k x E d ds).args ()) ((sCx k x E d ds).st ()) (SpecR (sCx k x E d ds) ()):=by
 refine⟨⟨_,Tryz.func44,by kernel_rfl,by kernel_rfl⟩,fun C F args w ha hs=>?_⟩
 obtain ⟨u,e,hu⟩:=CE ha
 have e2:args=[u].toArray:=by rw[<- e]
 subst e2
 simp only[Rep] at hu
 subst hu
 have hg:Bt ((sCx k x E d ds).st ()).objs k=some (x,.bldx 60 E d ds):=by simp[sCx,Bt]
 obtain ⟨c1,c2,arr,v0,v1,vs,fz,h1,hl,h2,h3,h4,h5,h6⟩:=hs.obj_of hg
 have hvs:vs.length=2:=(RepL.length h5).trans hds
 have hsz:arr.size=4:=by have:=congrArg List.length hl;simpa[hvs] using this
 have fin:∀w',Sat C (((sCx k x E d ds).st ()).add F) w'->∃C' r S',C.le C'/\Sat C' (S'.add F) w'/\RepEnd C' r (.returned (.tuple #[]))/\SpecR (sCx k x E d ds) () r S':=fun w' h =>
  ⟨C,.ret (.tup []),_,.refl C,h,by simp[RepEnd,Rep,RepL],(),trivial,rfl,rfl⟩
 have hc0:w.cell? ⟨x,0,none⟩=some v0:=by rw[cell_of_heap h1,<- Array.getElem?_toList,hl];rfl
 rcases h3 with rfl | rfl
 ·have hsh:w.shape? x=some (60,4):=by simp[World.shape?,h1,hsz]
  have hfz:w.frozen? ⟨x,0,none⟩=false:=B8 h1 h2 (by omega)
  refine (Bio x w hc0 hsh hfz).mono fun e w' ⟨he,hw⟩=>?_
  subst he hw
  refine fin _ ?_
  have hr:=Cs h1 (o:=0) (.pointer (some ⟨x,0,none⟩))
  have:=hs.replace (o':=.bldx 60 E d ds) (w':=w.setCell ⟨x,0,none⟩ (.pointer (some ⟨x,0,none⟩))) hg (by simp) (fun j hj=>Go.RowKit.Below.heap_setCell _ _ _ _ hj) rfl rfl rfl ⟨_,_,v1,vs,fz,hr,by rw[Array.toList_setIfInBounds,hl];rfl,h2.set 0 _,.inr rfl,h4,h5,h6⟩
  simpa[sCx,St.set,Gu] using this
 ·refine (BfF x w hc0).mono fun e w' ⟨he,hw⟩=>?_
  subst he hw
  exact fin _ hs
def BfL:Con:=fun k ds S=>match k with
 |44=>match ds with
  | [.ref k x 0]=>match Bt S.objs k with
   |some (y,.bldx T E d ds)=>some ((sCx k x E d ds).fits () (y=x/\T=60/\Ot d=true/\ds.length=2))
   |_=>none
  |_=>none
 |_=>none
theorem Bct:ConOk Tryz.prog BfL:=by
 intro k ds S A h
 unfold BfL at h
 split at h
 ·split at h
  ·rename_i k x
   split at h
   ·rename_i y T E d ds hg
    injection h with h;subst h
    refine⟨fun _ hp=>Bpz k x E d ds hp.1.2.2.2,fun _ _ hy=>?_,fun h=>nomatch h⟩
    obtain ⟨⟨rfl,rfl,ht,_⟩,_⟩:=hy
    refine⟨⟨by simp[Bg,chk],trivial⟩,Ba.2 ⟨rfl,?_,trivial⟩⟩
    simp only[FnSpec.fits,sCx,leO,hg]
    exact⟨trivial,Ba.2 ⟨by simp[ht],Bd _,Bj _⟩,trivial⟩
   ·cases h
  ·cases h
 ·cases h
def sXs(e1:List UInt8)(e2:Int)(f:List UInt8)(E x t:Nat)(l:List UInt8)(r:AEnd)(ar:List D):FnSpec where
 β:=Unit
 α:=Nat
 args:=fun _=>.ref 0 x 0::ar
 st:=fun _=>⟨[(0,x,.bldx 60 E (bsl l (.tok 0 t)) [.str e1,.int .i64 e2])],[(0,t)]⟩
 pre:=fun _=>True
 post:=fun _ _=>True
 res:=fun _ _=>r
 out:=fun _ t'=>⟨[(0,x,.bldx 60 E (bsl (l++f) (.tok 0 t')) [.str e1,.int .i64 e2])],[(0,t')]⟩
noncomputable def Exws:Senv:={ EC BfL 19 2 [4,5] (fun _=>([],[])) with own:=fun t=>Nat.beq t 56 }
theorem BoC(e1 : List UInt8)(e2 : Int)(x t : Nat)(l s : List UInt8)(hl : l.length+s.length<=140737488355328) :
  ACalls Tryz.prog 39 ((sXs e1 e2 s 5 x t l (.ret (.tup [.int .i64 s.length,.nili])) [.str s]).args ()) ((sXs e1 e2 s 5 x t l (.ret (.tup [.int .i64 s.length,.nili])) [.str s]).st ()) (SpecR (sXs e1 e2 s 5 x t l (.ret (.tup [.int .i64 s.length,.nili])) [.str s]) ()):=by
 refine Bf (A:=sXs e1 e2 s 5 x t l (.ret (.tup [.int .i64 s.length,.nili])) [.str s]) (x:=()) (E:=Exws) (eOk Bct rfl) Tryz.func39 rfl (by kernel_rfl) rfl (by simp[sXs,Exws,EC,E0]) ?_
 refine Bk (T :=
  ((SM x/\SM (60:Nat)/\SM true/\SM N2)/\True)/\∀(y:Unit),True->SM x/\SM t/\Be ((LN l+LN s)*N1<=140737488355328/\LN l+LN s<=9223372036854775807) (∀(t1:Nat),(t % (1000003:Nat)=N6->t1 % (1000003:Nat)=N6)->SM x/\(t % (1000003:Nat)=N6->t1 % (1000003:Nat)=N6)/\True/\∃(y:Nat),True/\(SM (LI s)/\True/\True)/\(SM x/\((LN l+LN s=LN (l++s)/\(∀(i:Nat),i<LN l+LN s->BW (LN l) (fun i=>[ZB (BI l i)]) (fun i=>[ZB (BI s i)]) i=[ZB (BI (l++s) i)])/\t1=y)/\SM e1/\SM e2/\True)/\True)/\t1=y/\True)) (by kernel_rfl) ?_
 delta BI LI LN N1 N2 N6 SM U0 ZB
 refine⟨⟨⟨rfl,rfl,rfl,rfl⟩,trivial⟩,fun _ _=>⟨rfl,rfl,?_⟩⟩
 rw[Bc]
 refine⟨by omega,fun t1 ht=>⟨rfl,ht,trivial,t1,?_⟩⟩
 repeat' (first | exact trivial | exact rfl | exact BbL rfl (fun _ _=>rfl) (fun _ _=>rfl) | exact List.length_append.symm | refine And.intro ?_ ?_)
noncomputable def Exwb:Senv:={ EC BfL 17 2 [4] (fun _=>([],[])) with own:=fun t=>Nat.beq t 56 }
theorem Bo7(e1 : List UInt8)(e2 : Int)(x t : Nat)(l : List UInt8)(b : UInt8)(hl : l.length+1<=140737488355328) :
  ACalls Tryz.prog 21 ((sXs e1 e2 [b] 5 x t l (.ret .nili) [.int .u8 (b.toNat:Int)]).args ()) ((sXs e1 e2 [b] 5 x t l (.ret .nili) [.int .u8 (b.toNat:Int)]).st ()) (SpecR (sXs e1 e2 [b] 5 x t l (.ret .nili) [.int .u8 (b.toNat:Int)]) ()):=by
 refine Bf (A:=sXs e1 e2 [b] 5 x t l (.ret .nili) [.int .u8 (b.toNat:Int)]) (x:=()) (E:=Exwb) (eOk Bct rfl) Tryz.func21 rfl (by kernel_rfl) rfl (by simp[sXs,Exwb,EC,E0]) ?_
 refine Bk (T :=
  ((SM x/\SM (60:Nat)/\SM true/\SM N2)/\True)/\∀(y:Unit),True->SM x/\SM t/\Be ((LN l+N1)*N1<=140737488355328/\LN l+N1<=9223372036854775807) (∀(t1:Nat),(t % (1000003:Nat)=N6->t1 % (1000003:Nat)=N6)->SM x/\(t % (1000003:Nat)=N6->t1 % (1000003:Nat)=N6)/\True/\∃(y:Nat),True/\True/\(SM x/\((LN l+N1=LN (l++[b])/\(∀(i:Nat),i<LN l+N1->BW (LN l) (fun i=>[ZB (BI l i)]) (fun i=>List.getD [[ZB (NI (UInt8.toNat b))]] i []) i=[ZB (BI (l++[b]) i)])/\t1=y)/\SM e1/\SM e2/\True)/\True)/\t1=y/\True)) (by kernel_rfl) ?_
 delta BI LN N1 N2 N6 NI SM U0 ZB
 refine⟨⟨⟨rfl,rfl,rfl,rfl⟩,trivial⟩,fun _ _=>⟨rfl,rfl,?_⟩⟩
 rw[Bc]
 refine⟨by omega,fun t1 ht=>⟨rfl,ht,trivial,t1,?_⟩⟩
 repeat' (first | exact trivial | exact rfl | exact BcK rfl (fun _ _=>rfl) rfl | (simp;done) | refine And.intro ?_ ?_)
def sXw(e1:List UInt8)(e2:Int)(f:List UInt8)(k kt x t:Nat)(l:List UInt8)(r:AEnd)(ar:List D):FnSpec where
 β:=Unit
 α:=Nat
 args:=fun _=>.ref k x 0::ar
 st:=fun _=>⟨[(k,x,.bldx 60 5 (bsl l (.tok kt t)) [.str e1,.int .i64 e2])],[(kt,t)]⟩
 pre:=fun _=>True
 post:=fun _ _=>True
 res:=fun _ _=>r
 out:=fun _ t'=>⟨[(k,x,.bldx 60 5 (bsl (l++f) (.tok kt t')) [.str e1,.int .i64 e2])],[(kt,t')]⟩
theorem Bov{g : Nat}{e1 : List UInt8}{e2 : Int}{f : List UInt8}(k kt x t : Nat){l : List UInt8}{r : AEnd}{ar : List D}(h : ACalls Tryz.prog g ((sXs e1 e2 f 5 x t l r ar).args ()) ((sXs e1 e2 f 5 x t l r ar).st ()) (SpecR (sXs e1 e2 f 5 x t l r ar) ())) :
  ACalls Tryz.prog g ((sXw e1 e2 f k kt x t l r ar).args ()) ((sXw e1 e2 f k kt x t l r ar).st ()) (SpecR (sXw e1 e2 f k kt x t l r ar) ()):=by
 refine h.respec (A':=sXw e1 e2 f k kt x t l r ar) (x':=()) ?_ ?_ fun y _=>⟨y,trivial,?_,?_⟩
 ·simp[sXw,sXs,Br,Bg,chk,Bj]
 ·simp[sXw,sXs,T0,ON,T9,CT,Br,Bg,chk,bsl,BE,Ot,kEq]
 ·simp only[sXw,sXs];cases r<;>simp[Ii,Bd]
 ·simp[sXw,sXs,T0,ON,T9,CT,Br,Bg,chk,bsl,BE,Ot,kEq]<;>try rfl
theorem Bh6(b g cap cs : Nat)(ar : Array Value)(fz : Nat×Nat)(arr : Array Value)(fg : Nat×Nat)(l : List UInt8)(w : World)(h0 : l≠[])(hn : l.length<=cap)(hcs : l.length<=arr.size)(h63 : l.length<=9223372036854775807)
  (hbk:w.heap[b]? =some (.cells ar cs fz)) (har:ar[1]? =some (.slice (some ⟨g,0,none⟩) l.length cap)) (hg:w.heap[g]? =some (.cells arr 5 fg))
  (hcell:∀j x,l[j]? =some x->w.cell? ⟨g,j,none⟩=some (.int .u8 x.toNat)) :
  Calls Tryz.prog 22 #[.pointer (some ⟨b,0,none⟩)] w fun e w'=>e=.returned (.string ⟨l.toArray⟩)/\w'=w.drew.freeze ⟨g,0,none⟩ l.length:=by
 have hl0:l.length≠0:=by simpa using h0
 have c1:w.drew.cell? ⟨b,1,none⟩=some (.slice (some ⟨g,0,none⟩) l.length cap):=by
  have:w.drew.heap[b]? =some (.cells ar cs fz):=hbk
  rw[cell_of_heap this];exact har
 have hSD:(Builtin.unsafeSliceData_ #[56] 93 #[.slice (some ⟨g,0,none⟩) l.length cap]).run Tryz.prog w.drew=.ok (.pointer (some ⟨g,0,none⟩)) w.drew :=
  Lib.run_unsafeSliceData_row _ _ _ _ _ _ (by omega)
 have hUS:(Builtin.unsafeString_ #[93,3] 9 #[.pointer (some ⟨g,0,none⟩),.int .i64 l.length]).run Tryz.prog w.drew=.ok (.string ⟨l.toArray⟩) (w.drew.freeze ⟨g,0,none⟩ l.length):=by
  refine Lib.run_unsafeString_row w.drew 93 3 9 5 Tryz.underlying93 (by kernel_rfl) g arr.size (by have hg':w.drew.heap[g]? =some (.cells arr 5 fg):=hg;simp[World.shape?,hg']) l h0 hcs h63 ?_
  intro j x hx
  have e:w.drew.cell? ⟨g,j,none⟩=some (.int .u8 x.toNat):=hcell j x hx
  have e2:(if j=0 then (⟨g,0,none⟩:Addr) else ⟨g,j,none⟩)=⟨g,j,none⟩:=by split<;>simp_all
  simpa[Addr.add,e2] using e
 have mixed:Tryz.prog.follows .mixedOrders=true:=by kernel_rfl
 go_enter Tryz.func22,Tryz.ntmps22
 go_wp2
 go_region_o
 all_goals (go_wp2;go_ret;exact⟨rfl,rfl⟩)
theorem Bjv(b cs : Nat)(ar : Array Value)(fz : Nat×Nat)(w : World)(hbk : w.heap[b]? =some (.cells ar cs fz))(har : ar[1]? =some (.slice none 0 0)) :
  Calls Tryz.prog 22 #[.pointer (some ⟨b,0,none⟩)] w fun e w'=>e=.returned (.string ⟨#[]⟩)/\Go.RowKit.Below w.heap.size w w':=by
 have hUS:∀W,(Builtin.unsafeString_ #[93,3] 9 #[.pointer none,.int .i64 0]).run Tryz.prog W=.ok (.string .empty) W:=fun W=>Lib.run_unsafeString_none W _ _ _ none
 have c1:w.drew.cell? ⟨b,1,none⟩=some (.slice none 0 0):=by
  have:w.drew.heap[b]? =some (.cells ar cs fz):=hbk
  rw[cell_of_heap this];exact har
 have hSD:(Builtin.unsafeSliceData_ #[56] 93 #[.slice none 0 0]).run Tryz.prog w.drew=.ok (.pointer none) w.drew:=Lib.run_unsafeSliceData_nil _ _ _ _ _
 have mixed:Tryz.prog.follows .mixedOrders=true:=by kernel_rfl
 go_enter Tryz.func22,Tryz.ntmps22
 go_wp2
 go_region_o
 all_goals (go_wp2;go_ret;exact⟨rfl,Go.RowKit.Below.drew (Go.RowKit.Below.refl _ w)⟩)
theorem Bg6(b g cap cs : Nat)(ar : Array Value)(fz : Nat×Nat)(w : World)(hc0 : cap≠0)(hbk : w.heap[b]? =some (.cells ar cs fz))(har : ar[1]? =some (.slice (some ⟨g, 0, none⟩) 0 cap)) :
  Calls Tryz.prog 22 #[.pointer (some ⟨b,0,none⟩)] w fun e w'=>e=.returned (.string ⟨#[]⟩)/\Go.RowKit.Below w.heap.size w w':=by
 have hUS:∀W,(Builtin.unsafeString_ #[93,3] 9 #[.pointer (some ⟨g,0,none⟩),.int .i64 0]).run Tryz.prog W=.ok (.string .empty) W:=fun W=>Lib.run_unsafeString_none W _ _ _ _
 have c1:w.drew.cell? ⟨b,1,none⟩=some (.slice (some ⟨g,0,none⟩) 0 cap):=by
  have:w.drew.heap[b]? =some (.cells ar cs fz):=hbk
  rw[cell_of_heap this];exact har
 have hSD:(Builtin.unsafeSliceData_ #[56] 93 #[.slice (some ⟨g,0,none⟩) 0 cap]).run Tryz.prog w.drew=.ok (.pointer (some ⟨g,0,none⟩)) w.drew :=
  Lib.run_unsafeSliceData_row _ _ _ _ _ _ hc0
 clear hc0
 have mixed:Tryz.prog.follows .mixedOrders=true:=by kernel_rfl
 go_enter Tryz.func22,Tryz.ntmps22
 go_wp2
 go_region_o
 all_goals (go_wp2;go_ret;exact⟨rfl,Go.RowKit.Below.drew (Go.RowKit.Below.refl _ w)⟩)
theorem Bdk(b g cs : Nat)(ar : Array Value)(fz fg : Nat×Nat)(arr : Array Value)(E : Nat)(w : World)(hg : w.heap[g]? =some (.cells arr E fg))(hbk : w.heap[b]? =some (.cells ar cs fz))(har : ar[1]? =some (.slice (some ⟨g, 0, none⟩) 0 0)) :
  Calls Tryz.prog 22 #[.pointer (some ⟨b,0,none⟩)] w fun e w'=>e=.returned (.string ⟨#[]⟩)/\Go.RowKit.Below w.heap.size w w':=by
 have hUS:∀W q,(Builtin.unsafeString_ #[93,3] 9 #[.pointer q,.int .i64 0]).run Tryz.prog W=.ok (.string .empty) W:=fun W q=>Lib.run_unsafeString_none W _ _ _ q
 have hb:b<w.heap.size:=(Array.getElem?_eq_some_iff.1 hbk).1
 have c1:w.drew.cell? ⟨b,1,none⟩=some (.slice (some ⟨g,0,none⟩) 0 0):=by
  have:w.drew.heap[b]? =some (.cells ar cs fz):=hbk
  rw[cell_of_heap this];exact har
 have c0:w.cell? ⟨b,1,none⟩=some (.slice (some ⟨g,0,none⟩) 0 0):=c1
 have hSD:(Builtin.unsafeSliceData_ #[56] 93 #[.slice (some ⟨g,0,none⟩) 0 0]).run Tryz.prog w.drew=.ok (.pointer (some ⟨w.drew.heap.size,0,none⟩)) (w.drew.alloc (.view ⟨g,0,none⟩ 5)) :=
  Lib.run_unsafeSliceData_zero _ _ _ _ Tryz.underlying93 _ _ (E,arr.size) (by have hg':w.drew.heap[g]? =some (.cells arr E fg):=hg;simp[World.shape?,hg'])
 have hSD0:(Builtin.unsafeSliceData_ #[56] 93 #[.slice (some ⟨g,0,none⟩) 0 0]).run Tryz.prog w=.ok (.pointer (some ⟨w.heap.size,0,none⟩)) (w.alloc (.view ⟨g,0,none⟩ 5)) :=
  Lib.run_unsafeSliceData_zero _ _ _ _ Tryz.underlying93 _ _ (E,arr.size) (by simp[World.shape?,hg])
 have c2:(w.drew.alloc (.view ⟨g,0,none⟩ 5)).cell? ⟨b,1,none⟩=some (.slice (some ⟨g,0,none⟩) 0 0):=by
  rw[World.cell?_alloc_lt _ _ _ hb];exact c1
 have c3:(w.alloc (.view ⟨g,0,none⟩ 5)).drew.cell? ⟨b,1,none⟩=some (.slice (some ⟨g,0,none⟩) 0 0):=c2
 have mixed:Tryz.prog.follows .mixedOrders=true:=by kernel_rfl
 go_enter Tryz.func22,Tryz.ntmps22
 go_wp2
 go_region_o
 all_goals (go_wp2;go_ret;exact⟨rfl,(Go.RowKit.Below.drew (Go.RowKit.Below.refl _ w)).alloc (Nat.le_refl _) _⟩)
def sXt(ds:List D)(k kt x t:Nat)(l:List UInt8):FnSpec where
 β:=Unit
 α:=Unit
 args:=fun _=>[.ref k x 0]
 st:=fun _=>⟨[(k,x,.bldx 60 5 (bsl l (.tok kt t)) ds)],[(kt,t)]⟩
 pre:=fun _=>True
 post:=fun _ _=>True
 res:=fun _ _=>.ret (.str l)
 out:=fun _ _=>⟨[],[]⟩
theorem BmD(ds:List D)(k kt x t:Nat)(l:List UInt8)(h63:l.length<=9223372036854775807):ACalls Tryz.prog 22 ((sXt ds k kt x t l).args ()) ((sXt ds k kt x t l).st ()) (SpecR (sXt ds k kt x t l) ()):=by
 refine⟨⟨_,Tryz.func22,by kernel_rfl,by kernel_rfl⟩,fun C F args w ha hs=>?_⟩
 obtain ⟨u,e,hu⟩:=CE ha
 have e2:args=[u].toArray:=by rw[<- e]
 subst e2
 simp only[Rep] at hu
 subst hu
 have hg:Bt ((sXt ds k kt x t l).st ()).objs k=some (x,.bldx 60 5 (bsl l (.tok kt t)) ds):=by simp[sXt,Bt]
 obtain ⟨c1,c2,arx,v0,v1,vs,fz,h1,hla,h2,h3,h4,_,h5⟩:=hs.obj_of hg
 have h5:Eu t=5+1:=h5
 simp only[bsl,Rep] at h4
 obtain ⟨a,len,cap,rfl,hh,hr⟩:=h4
 have har:arx[1]? =some (.slice a len cap):=by rw[<- Array.getElem?_toList,hla];rfl
 have hlen:len=l.length:=hh.1
 subst hlen
 have hF:Sat C F w:=by
  have h:=hs.le (S':=⟨[],[]⟩) ⟨List.nil_sublist _,List.nil_sublist _⟩
  simpa[St.add] using h
 have fin:∀w',Sat C F w'->∃C' r S',C.le C'/\Sat C' (S'.add F) w'/\RepEnd C' r (.returned (.string ⟨l.toArray⟩))/\SpecR (sXt ds k kt x t l) () r S':=fun w' h =>
  ⟨C,.ret (.str l),⟨[],[]⟩,.refl C,h,by simp[RepEnd,Rep],(),trivial,rfl,rfl⟩
 have h6:=hh.2.2.2.2.2
 have hcap:l.length<=cap:=hh.2.1
 simp only at h6
 have hmem:(kt,t)∈(((sXt ds k kt x t l).st ()).add F).toks:=by simp[sXt,St.add]
 obtain ⟨q,q1,q2,q3⟩:=hs.toks (kt,t) hmem
 simp only at q1
 rw[q1] at h6
 cases q with
 |no =>
  simp only at h6
  have ha0:a=none:=h6.2 (by rw[h5];omega)
  subst ha0
  have hl0:=(hh.2.2.2.1 rfl)
  have hl:l=[]:=List.length_eq_zero_iff.1 hl0.1
  subst hl
  obtain rfl:cap=0:=hl0.2
  refine (Bjv x _ arx fz w h1 har).mono fun e w' ⟨he,hb⟩=>?_
  subst he
  exact fin w' (hF.kept hb)
 | «at» g n cp wd =>
  obtain ⟨rfl,rfl,rfl,rfl⟩:=h6
  obtain ⟨p1,p2,arr,E,fg,p3,p4,p5,p6⟩:=q2
  have hE:E=5:=Nat.succ.inj ((p6 (by simp only;rw[h5];omega)).trans h5)
  subst hE
  by_cases hl:l=[]
  ·subst hl
   by_cases hc:cp=0
   ·subst hc
    refine (Bdk x g _ arx fz fg arr _ w p3 h1 har).mono fun e w' ⟨he,hb⟩=>?_
    subst he
    exact fin w' (hF.kept hb)
   ·refine (Bg6 x g cp _ arx fz w hc h1 har).mono fun e w' ⟨he,hb⟩=>?_
    subst he
    exact fin w' (hF.kept hb)
  ·refine (Bh6 x g cp _ arx fz arr fg l w hl hcap (by rw[p5];omega) h63 h1 har p3 fun j y hy=>?_).mono fun e w' ⟨he,hw⟩=>?_
   ·have hj:j<l.length:=(List.getElem?_eq_some_iff.1 hy).1
    have hrow:=(hr ⟨g,0,none⟩ rfl j hj).2
    simp only[RepCells] at hrow
    obtain ⟨⟨v,i1,i2⟩,_⟩:=hrow
    simp only[Rep] at i2
    subst i2
    have:=hs.imm _ _ _ i1
    have e:l.getD j 0=y:=by rw[List.getD_eq_getElem?_getD,hy];rfl
    rw[e] at this
    simpa using this
   ·subst he hw
    refine fin _ (WM hF.drew p1 (fun p hp e=>q3 p (by simp[St.add,hp]) e.symm) fun s hs2 y hy hcl=>?_)
    cases y with
    |no=>exact hcl
    | «at» b' n' c' wd' =>
     have hcl:b'=g:=hcl
     have hnd:=hs.tnodup
     simp only[St.add,sXt,List.cons_append,List.nil_append,List.map_cons,List.nodup_cons] at hnd
     have hne:t≠s.2:=fun e=>hnd.1 (e ▸ List.mem_map_of_mem hs2)
     exact hs.tdist (kt,t) s _ _ _ _ _ _ _ _ hmem (by simp[St.add,hs2]) hne q1 hy hcl.symm
def Ow(ts:List (Nat×Nat))(x y T E kt t n:Nat)(g:Nat->List D):Prop:=y=x/\T=60/\E=5/\Bgu ts kt t/\Cg n g=true
def Bf5(base:Con):Con:=fun k ds S=>match k with
 |39=>match ds with
  | [.ref k x 0,.str s]=>match Bt S.objs k with
   |some (y,.bldx T E (.sl 1 n g (.tok kt t)) [.str e1,.int .i64 e2])=>some ((sXw e1 e2 s k kt x t (bytesOf n g) (.ret (.tup [.int .i64 s.length,.nili])) [.str s]).fits () (Ow S.toks x y T E kt t n g/\n+s.length<=140737488355328))
   |_=>none
  |_=>none
 |21=>match ds with
  | [.ref k x 0,.int .u8 z]=>match Bt S.objs k with
   |some (y,.bldx T E (.sl 1 n g (.tok kt t)) [.str e1,.int .i64 e2])=>some ((sXw e1 e2 [Co z] k kt x t (bytesOf n g) (.ret .nili) [.int .u8 z]).fits () (Ow S.toks x y T E kt t n g/\(0<=z/\z<=255)/\n+1<=140737488355328))
   |_=>none
  |_=>none
 |22=>match ds with
  | [.ref k x 0]=>match Bt S.objs k with
   |some (y,.bldx T E (.sl 1 n g (.tok kt t)) ex)=>some ((sXt ex k kt x t (bytesOf n g)).fits () (Ow S.toks x y T E kt t n g/\n<=140737488355328))
   |_=>none
  |_=>none
 |k=>base k ds S
theorem Tm{os : List (Nat×Nat×AObj)}{k x y T E n kt t : Nat}{g : Nat -> List D}{ex : List D}(hg : Bt os k=some (y, .bldx T E (.sl 1 n g (.tok kt t)) ex))(h1 : y=x)(h2 : T=60)(h3 : E=5)(hr : Cg n g=true) :
  leO [(k,x,.bldx 60 5 (bsl (bytesOf n g) (.tok kt t)) ex)] os:=by
 subst h1 h2 h3
 simp only[leO,hg,CT]
 exact⟨trivial,Ba.2 ⟨by simp[Ot,bsl],OF hr,Bj _⟩,trivial⟩
theorem WK{base:Con}(hb:ConOk Tryz.prog base):ConOk Tryz.prog (Bf5 base):=by
 intro k ds S A h
 unfold Bf5 at h
 split at h
 ·split at h
  ·split at h
   ·rename_i k x s _ y T E n g kt t e1 e2 hg
    injection h with h;subst h
    refine⟨fun _ hy=>Bov k kt x t (BoC e1 e2 x t (bytesOf n g) s (by simpa[bytesOf] using hy.1.2)),fun _ _ hy=>?_,fun h=>nomatch h⟩
    obtain ⟨⟨⟨h1,h2,h3,h4,h5⟩,_⟩,_⟩:=hy
    exact⟨⟨by simp[Bg,chk],by simp[Bg],trivial⟩,Ba.2 ⟨rfl,Tm hg h1 h2 h3 h5,IS h4⟩⟩
   ·cases h
  ·cases h
 ·split at h
  ·split at h
   ·rename_i k x z _ y T E n g kt t e1 e2 hg
    injection h with h;subst h
    refine⟨fun _ hy=>?_,fun _ _ hy=>?_,fun h=>nomatch h⟩
    ·have:=Bov k kt x t (Bo7 e1 e2 x t (bytesOf n g) (Co z) (by simpa[bytesOf] using hy.1.2.2))
     rw[T7 hy.1.2.1] at this
     exact this
    ·obtain ⟨⟨⟨h1,h2,h3,h4,h5⟩,_⟩,_⟩:=hy
     exact⟨⟨by simp[Bg,chk],Bd _,trivial⟩,Ba.2 ⟨rfl,Tm hg h1 h2 h3 h5,IS h4⟩⟩
   ·cases h
  ·cases h
 ·split at h
  ·split at h
   ·rename_i k x _ y T E n g kt t ex hg
    injection h with h;subst h
    refine⟨fun _ hy=>BmD ex k kt x t (bytesOf n g) (by have:=hy.1.2;simp[bytesOf];omega),fun _ _ hy=>?_,fun h=>nomatch h⟩
    obtain ⟨⟨⟨h1,h2,h3,h4,h5⟩,_⟩,_⟩:=hy
    exact⟨⟨by simp[Bg,chk],trivial⟩,Ba.2 ⟨rfl,Tm hg h1 h2 h3 h5,IS h4⟩⟩
   ·cases h
  ·cases h
 ·exact hb _ _ _ _ h
theorem repB(n:Nat):Lib.repeatL [32,32] n=List.replicate (2*n) 32:=by
 induction n with
 |zero=>rfl
 |succ n ih =>
  rw[<- Td,ih,show 2*(n+1)=2*n+2 by omega,<- List.replicate_append_replicate]
  rfl
noncomputable def Epr1:Senv:=EC E5 5 2 [4] (fun _=>([],[]))
theorem Bqs(a b:List UInt8):CD 18 [.str a,.str b] (.bool true):=by
 refine Bf (A:=sC _ _) (x:=()) (E:=Epr1) (eOk BJ rfl) Tryz.func18 rfl (by kernel_rfl) rfl (by simp[sC,Epr1,EC,E0]) ?_
 refine Bk (T :=
  RT (SM true)) (by kernel_rfl) ?_
 delta SM RT
 simp only[eq_self,and_true,exists_const]
 try trivial
noncomputable def Epr2:Senv:=EC Bnd 6 1 [2] (fun _=>([],[]))
theorem Bql(lv:Int)(h0:0<=lv)(h1:lv<=100000):CD 19 [.int .i64 lv] (.str (Mc lv)):=by
 refine Bf (A:=sC _ _) (x:=()) (E:=Epr2) (eOk BgM rfl) Tryz.func19 rfl (by kernel_rfl) rfl (by simp[sC,Epr2,EC,E0]) ?_
 refine Bk (T :=
  (Z0<=lv/\lv<=9223372036854775807/\N2*Int.toNat lv<=140737488355328)/\∀(y:Unit),True->Be (N1+LN (Lib.repeatL [(32:UInt8),(32:UInt8)] (Int.toNat lv))<=9223372036854775807) (RT ((10:UInt8)::List.append [] (Lib.repeatL [(32:UInt8),(32:UInt8)] (Int.toNat lv))=Mc lv))) (by kernel_rfl) ?_
 delta LN N1 N2 Z0 RT
 simp only[Bc,true_and,and_true,exists_const,forall_const]
 have e:(10::[].append (Lib.repeatL [32,32] lv.toNat):List UInt8)=Mc lv:=by
  rw[repB];rfl
 refine⟨⟨h0,by omega,by omega⟩,?_,e⟩
 rw[repB,List.length_replicate];omega
noncomputable def Ecp2:Senv:=EC E5 3 1 [2] (fun _=>([],[]))
theorem BpN(lv:Int):CD 28 [.int .i64 lv] (.str [59]):=by
 refine Bf (A:=sC _ _) (x:=()) (E:=Ecp2) (eOk BJ rfl) Tryz.func28 rfl (by kernel_rfl) rfl (by simp[sC,Ecp2,EC,E0]) ?_
 refine Bk (T :=
  RT (SM [(59:UInt8)])) (by kernel_rfl) ?_
 delta SM RT
 simp only[eq_self,and_true,exists_const]
 try trivial
theorem Bo3{p:UInt8->Prop}(h:∀n,n<256->p (UInt8.ofNat n))(c:UInt8):p c:=by
 have:=h c.toNat c.toNat_lt
 rwa [UInt8.ofNat_toNat] at this
noncomputable def Ewo:Senv:=EC E5 29 1 [2] (fun _=>([],[]))
def QdD(a:UInt8):Bool:=bif bif bif bif decide ((97:Int)<=(NI (UInt8.toNat a))) then decide ((NI (UInt8.toNat a))<=122) else false then true else bif decide ((65:Int)<=(NI (UInt8.toNat a))) then decide ((NI (UInt8.toNat a))<=90) else false then true else bif decide ((48:Int)<=(NI (UInt8.toNat a))) then decide ((NI (UInt8.toNat a))<=57) else false then true else (NI (UInt8.toNat a))==95
def QdE(a:UInt8):Prop:=true=QdD a/\True
def QpO(a:UInt8):Prop:=((NI (UInt8.toNat a))==95)=QdD a/\True
def QpP(a:UInt8):Prop:=ifB (decide ((48:Int)<=(NI (UInt8.toNat a)))) (ifB (decide ((NI (UInt8.toNat a))<=57)) (QdE a) (QpO a)) (QpO a)
def QpQ(a:UInt8):Prop:=ifB (decide ((65:Int)<=(NI (UInt8.toNat a)))) (ifB (decide ((NI (UInt8.toNat a))<=90)) (QdE a) (QpP a)) (QpP a)
theorem BpP(c:UInt8):CD 27 [.int .u8 (c.toNat:Int)] (.bool (CP c)):=by
 refine Bf (A:=sC _ _) (x:=()) (E:=Ewo) (eOk BJ rfl) Tryz.func27 rfl (by kernel_rfl) rfl (by simp[sC,Ewo,EC,E0]) ?_
 refine Bk (T :=
  ifB (decide ((97:Int)<=(NI (UInt8.toNat c)))) (ifB (decide ((NI (UInt8.toNat c))<=122)) (QdE c) (QpQ c)) (QpQ c)/\RT (QdD c=CP c)) (by kernel_rfl) ?_
 delta NI QdD QdE QpO QpP QpQ RT
 simp only[Bh,decide_eq_true_eq,decide_eq_false_iff_not,true_and,and_true,exists_const]
 refine⟨?_,?_⟩
 ·generalize ((c.toNat:Nat):Int)=z
  repeat' first
   |(intro h;simp only[h])
   |apply And.intro
  all_goals simp[*]
 ·revert c
  refine Bo3 ?_
  decide +kernel
def Blj:Con:=fun k ds S=>match k with
 |27=>match ds with
  | [.int .u8 z]=>some (pA ds S (.bool (CP (Co z))) (0<=z/\z<=255))
  |_=>none
 |_=>none
theorem BkE:ConOk Tryz.prog Blj:=by
 intro k ds S A hh
 unfold Blj at hh
 split at hh
 ·split at hh
  ·rename_i z
   injection hh with hh;subst hh
   refine Bv fun h=>CD.at_ ?_ _
   have:=BpP (Co z)
   rw[T7 h] at this
   exact this
  ·cases hh
 ·cases hh
theorem Bga(c:UInt8){n:Nat}{z:Int}(hn:n<256)(hz:z=n):(((c.toNat:Nat):Int)=z)↔c=UInt8.ofNat n:=by
 constructor
 ·intro h
  have h:c.toNat=n:=by omega
  rw[<- h]
  exact (UInt8.ofNat_toNat).symm
 ·rintro rfl
  rw[UInt8.toNat_ofNat'];omega
theorem BlN(c:UInt8):Co (c.toNat:Int)=c:=by
 unfold Co
 rw[Int.toNat_natCast,UInt8.ofNat_toNat]
theorem Boa(c:UInt8):((c.toNat:Nat):Int)<=255:=by
 have:=c.toNat_lt
 omega
noncomputable def Ecp1:Senv:={ EC Blj 40 2 [4,5,6] (fun id=>match id with | 1=>([0,1,2,3,4,5,6,7,8],[]) | _=>([],[])) with mg:=fun _=>2 }
def QdF(a:List UInt8):Int:=IntKind.wrap IntKind.i64 ((LI a)-Z1)
def Xr(a:List UInt8):Int:=(BI a (Int.toNat (QdF a)))
def Vp(a:List UInt8):Int:=(BI a N0)
def QdG(a b:List UInt8):Prop:=True/\∃(_y:Unit),True/\true=CA a b/\True/\True
def QpR(a b:List UInt8):Prop:=ifB (Xr a==62) (True/\∃(_y:Unit),True/\(Vp b==61)=CA a b/\True/\True) (True/\∃(_y:Unit),True/\false=CA a b/\True/\True)
def QpS(a b:List UInt8):Prop:=ifB (Xr a==60) (ifB (Vp b==61) (QdG a b) (ifB (Vp b==45) (QdG a b) (QpR a b))) (QpR a b)
theorem Bqd(a b:List UInt8)(ha:a≠[])(hb:b≠[])(hal:a.length<=100000000000000):CD 26 [.str a,.str b] (.bool (CA a b)):=by
 refine Bf (A:=sC _ _) (x:=()) (E:=Ecp1) (eOk BkE rfl) Tryz.func26 rfl (by kernel_rfl) rfl (by simp[sC,Ecp1,EC,E0]) ?_
 refine Bk (T :=
  Be (Z0<=QdF a/\QdF a<(LI a)) (Be (Z0<=Z0/\Z0<(LI b)) (∃(x:Unit),(Z0<=Xr a/\Xr a<=255)/\∀(y:Unit),True->ifB (CP (Co (Xr a))) (∃(x:Unit),(Z0<=Vp b/\Vp b<=255)/\∀(y:Unit),True->ifB (CP (Co (Vp b))) (QdG a b) (QpS a b)) (QpS a b)))) (by kernel_rfl) ?_
 delta BI LI LN N0 U0 Z0 Z1 QpS QdF Xr Vp QdG QpR
 simp only[ne_eq,Bh,Bc,true_and,and_true,beq_iff_eq,beq_eq_false_iff_ne,exists_const,forall_const]
 have ha0:0<a.length:=List.length_pos_iff.2 ha
 have hb0:0<b.length:=List.length_pos_iff.2 hb
 have e1:IntKind.i64.wrap ((a.length:Int)-1)=((a.length-1:Nat):Int):=by rw[Bb (by omega) (by omega)];omega
 simp only[e1,Int.toNat_natCast,BlN]
 unfold CA
 generalize a.getD (a.length-1) 0=x
 generalize b.getD 0 0=y
 have k60:=Bga x (n:=60) (z:=60) (by omega) rfl
 have k62:=Bga x (n:=62) (z:=62) (by omega) rfl
 have k61:=Bga y (n:=61) (z:=61) (by omega) rfl
 have k45:=Bga y (n:=45) (z:=45) (by omega) rfl
 have k61b:(((y.toNat:Nat):Int)==61)=(y==61):=by rw[Bool.eq_iff_iff,beq_iff_eq,beq_iff_eq];exact k61
 have hx:=Boa x
 have hy:=Boa y
 refine⟨⟨by omega,by omega⟩,⟨by omega,by omega⟩,⟨by omega,hx⟩,?_⟩
 rw[k60,k62,k61,k45,k61b]
 refine⟨fun h1=>⟨⟨by omega,hy⟩,fun h2=>by simp[h1,h2],fun h2=>?_⟩,fun h1=>?_⟩
 all_goals
  refine⟨fun h3=>⟨fun h4=>?_,fun h4=>⟨fun h5=>?_,fun h5=>⟨fun h6=>?_,fun h6=>?_⟩⟩⟩,fun h3=>⟨fun h6=>?_,fun h6=>?_⟩⟩
  all_goals simp_all
theorem Beb{l:List Sm}(h:PrR l)(ho:∀s∈l,s.ok):(ptB l).length<=3400000000000:=by
 have h1:=BnS (ptB l)
 have h2:=Ri (ptB l)
 have h3:=BbN h ho
 omega
theorem BfY{n:Nat}{F:Nat->List D}{L:List (List UInt8)}(hn:n=L.length)(hF:∀i,i<n->F i=[D.str (L.getD i [])])(x:List UInt8):∀i,i<n+1->BW n F (fun i=>[D.str ([x].getD i [])]) i=[D.str ((L++[x]).getD i [])]:=OC (r:=[x]) hn hF fun _ _=>rfl
theorem Bhc{α β:Type}(f:α->List β)(l:List α)(i:Nat):((l.take i).flatMap f).length<=(l.flatMap f).length:=by
 have e:l.flatMap f=(l.take i).flatMap f++(l.drop i).flatMap f:=by rw[<- List.flatMap_append,List.take_append_drop]
 rw[e,List.length_append]
 omega
theorem Bjz(l:List Sm)(i:Nat):(ptB (l.take i)).length<=(ptB l).length:=by
 cases l with
 |nil=>simp
 |cons x r =>
  cases i with
  |zero=>simp[ptB,ptJ]
  |succ i =>
   have:=Bhc (fun y=>Pt.sp::ptM y) r i
   rw[List.take_succ_cons]
   show (ptM x++(List.map ptM (List.take i r)).flatMap fun y=>.sp::y).length<=(ptM x++(List.map ptM r).flatMap fun y=>.sp::y).length
   rw[List.flatMap_map,List.flatMap_map,List.length_append,List.length_append]
   omega
theorem rows_of{L M:List (List UInt8)}(h:L=M):L.length=M.length/\∀i,i<L.length->[D.str (L.getD i [])]=[D.str (M.getD i [])]:=by
 subst h
 exact⟨rfl,fun _ _=>rfl⟩
def Biw:Con:=fun k ds S=>match k with
 |18=>match ds with
  | [.str _,.str _]=>some (pA ds S (.bool true) True)
  |_=>none
 |19=>match ds with
  | [.int .i64 lv]=>some (pA ds S (.str (Mc lv)) (0<=lv/\lv<=100000))
  |_=>none
 |26=>match ds with
  | [.str a,.str b]=>some (pA ds S (.bool (CA a b)) (a≠[]/\b≠[]/\a.length<=100000000000000))
  |_=>none
 |28=>match ds with
  | [.int .i64 _]=>some (pA ds S (.str [59]) True)
  |_=>none
 |_=>none
theorem BcY:ConOk Tryz.prog Biw:=by
 intro k ds S A hh
 unfold Biw at hh
 split at hh
 ·split at hh
  ·injection hh with hh;subst hh
   exact Bv fun _=>CD.at_ (Bqs _ _) _
  ·cases hh
 ·split at hh
  ·injection hh with hh;subst hh
   exact Bv fun ⟨h0,h1⟩=>CD.at_ (Bql _ h0 h1) _
  ·cases hh
 ·split at hh
  ·injection hh with hh;subst hh
   exact Bv fun ⟨h0,h1,h2⟩=>CD.at_ (Bqd _ _ h0 h1 h2) _
  ·cases hh
 ·split at hh
  ·injection hh with hh;subst hh
   exact Bv fun _=>CD.at_ (BpN _) _
  ·cases hh
 ·cases hh
def wrO(cmp:Bool)(o last:List UInt8)(lv:Int)(y:List UInt8):List UInt8:=if y=[59] then o++(bif cmp then [59] else Mc lv) else o++blB cmp last y++y
def wrL(y:List UInt8):List UInt8:=if y=[59] then [] else y
def wrV(lv:Int)(y:List UInt8):Int:=if y=[123] then lv+1 else if y=[125] then lv-1 else lv
def wrC(k kt x t:Nat)(o last:List UInt8)(lv:Int):St:=⟨[(k,x,.bldx 60 5 (bsl o (.tok kt t)) [.str last,.int .i64 lv])],[(kt,t)]⟩
def sWr(bl ln:Nat)(cmp:Bool)(k kt x t:Nat)(o last:List UInt8)(lv:Int)(y:List UInt8):FnSpec where
 β:=Unit
 α:=Nat
 args:=fun _=>[.ref k x 0,.str y,.fn (.func bl) [] [],.fn (.func ln) [] []]
 st:=fun _=>wrC k kt x t o last lv
 pre:=fun _=>True
 post:=fun _ _=>True
 res:=fun _ _=>.ret (.tup [])
 out:=fun _ t'=>wrC k kt x t' (wrO cmp o last lv y) (wrL y) (wrV lv y)
theorem EX(t x:Nat)(l:List UInt8):Ow [(0,t)] x x 60 5 0 t l.length (fun i=>[.int .u8 ((l.getD i 0).toNat:Int)]):=⟨rfl,rfl,rfl,rfl,Ix l⟩
theorem wA{t x:Nat}{o y V:List UInt8}{Q:Prop}(ho:o.length+y.length<=100000000000000)(hV:o++[32]++y=V)(q:Q):((Ow [(0,t)] x x 60 5 0 t o.length fun i=>[D.int .u8 ((o.getD i 0).toNat:Int)])/\((0:Int)<=32/\(32:Int)<=255)/\o.length+1<=140737488355328)/\∀t2:Nat,((Ow [(0,t2)] x x 60 5 0 t2 (o++[32]).length fun i=>[D.int .u8 (((o++[32]).getD i 0).toNat:Int)])/\(o++[32]).length+y.length<=140737488355328)/\∀t3:Nat,∃t4:Nat,(((o++[32]++y).length=V.length/\(∀i,i<(o++[32]++y).length->[D.int .u8 (((o++[32]++y).getD i 0).toNat:Int)]=[D.int .u8 ((V.getD i 0).toNat:Int)])/\t3=t4)/\Q)/\t3=t4:=by
 subst hV
 exact⟨⟨EX t x o,⟨by omega,by omega⟩,by omega⟩,fun t2=>⟨⟨EX t2 x _,by simp only[List.length_append,List.length_cons,List.length_nil];omega⟩,fun t3=>⟨t3,⟨⟨rfl,fun _ _=>rfl,rfl⟩,q⟩,rfl⟩⟩⟩
theorem wB{t x:Nat}{o y V:List UInt8}{Q:Prop}(ho:o.length+y.length<=100000000000000)(hV:o++y=V)(q:Q):((Ow [(0,t)] x x 60 5 0 t o.length fun i=>[D.int .u8 ((o.getD i 0).toNat:Int)])/\o.length+y.length<=140737488355328)/\∀t3:Nat,∃t4:Nat,(((o++y).length=V.length/\(∀i,i<(o++y).length->[D.int .u8 (((o++y).getD i 0).toNat:Int)]=[D.int .u8 ((V.getD i 0).toNat:Int)])/\t3=t4)/\Q)/\t3=t4:=by
 subst hV
 exact⟨⟨EX t x o,by omega⟩,fun t3=>⟨t3,⟨⟨rfl,fun _ _=>rfl,rfl⟩,q⟩,rfl⟩⟩
noncomputable def Ewr:Senv:={ EC (Bf5 Biw) 71 4 [8,24,34,57] (fun id=>match id with | 1=>([0,1,2,3,4,5,6,7,8,9],[8,9]) | _=>([],[])) with mg:=fun _=>2 }
def QdH(a b:Nat)(c:List UInt8):Prop:=Ow [(N0,a)] b b (60:Nat) (5:Nat) N0 a (LN c) fun i=>[ZB (BI c i)]
def QdI(a:List UInt8):List UInt8:=bytesOf (LN a) fun i=>[ZB (BI a i)]
def QpT(a:List UInt8)(b:Int):List UInt8:=QdI a++Mc b
def QpU(a:List UInt8)(b:Int):Nat:=LN (QpT a b)
def QdJ(a b:List UInt8)(c:Int)(d:List UInt8)(e:Nat):List D:=[ZB (BI (wrO false a b c d) e)]
def QdK(a b:Nat)(c:List UInt8):Prop:=(QdH a b c/\(Z0<=32/\(32:Int)<=255)/\LN c+N1<=140737488355328)/\True
def QpV(a:List UInt8):List UInt8:=QdI a++[Co (32:Int)]
def QdL(a:List UInt8):Nat:=LN (QpV a)
def QpW(a:List UInt8)(b:Nat):List D:=[ZB (BI (QpV a) b)]
def QdM(a b:Nat)(c d:List UInt8):Prop:=((Ow [(N0,a)] b b (60:Nat) (5:Nat) N0 a (QdL c) fun i=>QpW c i)/\QdL c+LN d<=140737488355328)/\True
def QpX(a b:List UInt8):List UInt8:=(bytesOf (QdL a) fun i=>QpW a i)++b
def QpY(a b:List UInt8):Nat:=LN (QpX a b)
def QdN(a b c:List UInt8)(d:Int)(e f:Nat):Prop:=QpY a b=LN (wrO false a c d b)/\(∀(i:Nat),i<QpY a b->[ZB (BI (QpX a b) i)]=QdJ a c d b i)/\e=f
def QdO(a:List UInt8):Prop:=a=wrL a
def QpZ(a:List UInt8)(b:Int):Prop:=QdO a/\IntKind.wrap IntKind.i64 (b+Z1)=wrV b a/\True
def QdP(a b:Nat)(c d:List UInt8):Prop:=(QdH a b c/\LN c+LN d<=140737488355328)/\True
def Qp0(a b:List UInt8):List UInt8:=QdI a++b
def Qp1(a b:List UInt8):Nat:=LN (Qp0 a b)
def QdQ(a b c:List UInt8)(d:Int)(e f:Nat):Prop:=Qp1 a b=LN (wrO false a c d b)/\(∀(i:Nat),i<Qp1 a b->[ZB (BI (Qp0 a b) i)]=QdJ a c d b i)/\e=f
def Qp2(a:List UInt8)(b:Int):Prop:=QdO a/\IntKind.wrap IntKind.i64 (b-Z1)=wrV b a/\True
def Qp3(a:List UInt8)(b:Int):Prop:=QdO a/\b=wrV b a/\True
theorem Bo1(x t : Nat)(o last y : List UInt8)(lv : Int)(_hy : y≠[])(h0 : 0<=lv)(h1 : lv<=90000)(ho : o.length+y.length<=100000000000000) :
  ACalls Tryz.prog 17 ((sWr 18 19 false 0 0 x t o last lv y).args ()) ((sWr 18 19 false 0 0 x t o last lv y).st ()) (SpecR (sWr 18 19 false 0 0 x t o last lv y) ()):=by
 refine Bf (A:=sWr 18 19 false 0 0 x t o last lv y) (x:=()) (E:=Ewr) (eOk (WK BcY) rfl) Tryz.func17 rfl (by kernel_rfl) rfl (by simp[sWr,Ewr,EC,E0]) ?_
 refine Bk (T :=
  ifB (y==[(59:UInt8)]) (SM x/\∃(x_1:Unit),(Z0<=lv/\lv<=100000)/\∀(y_1:Unit),True->((QdH t x o/\LN o+LN (Mc lv)<=140737488355328)/\True)/\∀(y_2:Nat),True->SM x/\True/\∃(y_3:Nat),True/\True/\(SM x/\((QpU o lv=LN (wrO false o last lv y)/\(∀(i:Nat),i<QpU o lv->[ZB (BI (QpT o lv) i)]=QdJ o last lv y i)/\y_2=y_3)/\CN (List UInt8) [] (wrL y)/\lv=wrV lv y/\True)/\True)/\y_2=y_3/\True) (ifB (y==[(123:UInt8)]) (SM x/\SM x/\SM x/\ifB (last != []) (SM x/\∃(x_1:Unit),True/\∀(y_1:Unit),True->QdK t x o/\∀(y_2:Nat),True->QdM y_2 x o y/\∀(y_3:Nat),True->SM x/\True/\∃(y_4:Nat),True/\True/\(SM x/\(QdN o y last lv y_3 y_4/\QpZ y lv)/\True)/\y_3=y_4/\True) (QdP t x o y/\∀(y_1:Nat),True->SM x/\True/\∃(y_2:Nat),True/\True/\(SM x/\(QdQ o y last lv y_1 y_2/\QpZ y lv)/\True)/\y_1=y_2/\True)) (ifB (y==[(125:UInt8)]) (SM x/\SM x/\SM x/\ifB (last != []) (SM x/\∃(x_1:Unit),True/\∀(y_1:Unit),True->QdK t x o/\∀(y_2:Nat),True->QdM y_2 x o y/\∀(y_3:Nat),True->SM x/\True/\∃(y_4:Nat),True/\True/\(SM x/\(QdN o y last lv y_3 y_4/\Qp2 y lv)/\True)/\y_3=y_4/\True) (QdP t x o y/\∀(y_1:Nat),True->SM x/\True/\∃(y_2:Nat),True/\True/\(SM x/\(QdQ o y last lv y_1 y_2/\Qp2 y lv)/\True)/\y_1=y_2/\True)) (SM x/\ifB (last != []) (SM x/\∃(x_1:Unit),True/\∀(y_1:Unit),True->QdK t x o/\∀(y_2:Nat),True->QdM y_2 x o y/\∀(y_3:Nat),True->SM x/\True/\∃(y_4:Nat),True/\True/\(SM x/\(QdN o y last lv y_3 y_4/\Qp3 y lv)/\True)/\y_3=y_4/\True) (QdP t x o y/\∀(y_1:Nat),True->SM x/\True/\∃(y_2:Nat),True/\True/\(SM x/\(QdQ o y last lv y_1 y_2/\Qp3 y lv)/\True)/\y_1=y_2/\True))))) (by kernel_rfl) ?_
 delta BI LN N0 N1 SM U0 Z0 Z1 ZB QdH QdI QpX QpY QdN QdO QpZ QdP Qp0 Qp1 QdQ Qp2 QpT Qp3 QpU QdJ QdK QpV QdL QpW QdM
 simp only[eq_self,ne_eq,Bh,true_and,and_true,beq_iff_eq,bne_iff_ne,bne_eq_false_iff_eq,beq_eq_false_iff_ne,exists_const,forall_const]
 have e32:Co 32=32:=rfl
 simp only[Cp,e32]
 have hO0:y=[59]->o++Mc lv=wrO false o last lv y:=fun e=>by rw[wrO,if_pos e];rfl
 have hO1:¬y=[59]->¬last=[]->o++[32]++y=wrO false o last lv y:=fun e h=>by
  rw[wrO,if_neg e,blB]
  cases last with
  |nil=>exact absurd rfl h
  |cons a b=>rfl
 have hO2:¬y=[59]->last=[]->o++y=wrO false o last lv y:=fun e h=>by
  rw[wrO,if_neg e,blB,h]
  exact congrArg (·++y) (List.append_nil o).symm
 have hL:¬y=[59]->y=wrL y:=fun e=>by rw[wrL,if_neg e]
 have hg:(Mc lv).length<=200001:=by unfold Mc;rw[List.length_cons,List.length_replicate];omega
 have v1:y=[123]->IntKind.i64.wrap (lv+1)=wrV lv y:=fun e=>by rw[wrV,if_pos e,Bb (by omega) (by omega)]
 have v2:¬y=[123]->y=[125]->IntKind.i64.wrap (lv-1)=wrV lv y:=fun n e=>by rw[wrV,if_neg n,if_pos e,Bb (by omega) (by omega)]
 have v3:¬y=[123]->¬y=[125]->lv=wrV lv y:=fun n e=>by rw[wrV,if_neg n,if_neg e]
 refine⟨fun e=>⟨⟨h0,by omega⟩,⟨EX t x o,by omega⟩,fun t2=>⟨t2,⟨⟨by rw[hO0 e],fun i _=>by rw[hO0 e],rfl⟩,?_,?_⟩,rfl⟩⟩,fun ne=>⟨fun e1=>⟨fun h=>wA ho (hO1 ne h) ⟨hL ne,v1 e1⟩,fun h=>wB ho (hO2 ne h) ⟨hL ne,v1 e1⟩⟩,fun n1=>⟨fun e2=>⟨fun h=>wA ho (hO1 ne h) ⟨hL ne,v2 n1 e2⟩,fun h=>wB ho (hO2 ne h) ⟨hL ne,v2 n1 e2⟩⟩,fun n2=>⟨fun h=>wA ho (hO1 ne h) ⟨hL ne,v3 n1 n2⟩,fun h=>wB ho (hO2 ne h) ⟨hL ne,v3 n1 n2⟩⟩⟩⟩⟩
 ·rw[wrL,if_pos e]
 ·rw[e];rfl
def QdR(a b:Nat)(c:List UInt8):Prop:=Ow [(N0,a)] b b (60:Nat) (5:Nat) N0 a (LN c) fun i=>[ZB (BI c i)]
def QdS(a:List UInt8):List UInt8:=bytesOf (LN a) fun i=>[ZB (BI a i)]
def Qp4(a:List UInt8):List UInt8:=QdS a++[59]
def Qp5(a:List UInt8):Nat:=LN (Qp4 a)
def QdT(a b:List UInt8)(c:Int)(d:List UInt8)(e:Nat):List D:=[ZB (BI (wrO true a b c d) e)]
def QdU(a b:List UInt8):Prop:=a≠[]/\b≠[]/\LN a<=100000000000000
def QdV(a b:Nat)(c:List UInt8):Prop:=(QdR a b c/\(Z0<=32/\(32:Int)<=255)/\LN c+N1<=140737488355328)/\True
def Qp6(a:List UInt8):List UInt8:=QdS a++[Co (32:Int)]
def QdW(a:List UInt8):Nat:=LN (Qp6 a)
def Qp7(a:List UInt8)(b:Nat):List D:=[ZB (BI (Qp6 a) b)]
def QdX(a b:Nat)(c d:List UInt8):Prop:=((Ow [(N0,a)] b b (60:Nat) (5:Nat) N0 a (QdW c) fun i=>Qp7 c i)/\QdW c+LN d<=140737488355328)/\True
def Qp8(a b:List UInt8):List UInt8:=(bytesOf (QdW a) fun i=>Qp7 a i)++b
def Qp9(a b:List UInt8):Nat:=LN (Qp8 a b)
def QdY(a b c:List UInt8)(d:Int)(e f:Nat):Prop:=Qp9 a b=LN (wrO true a c d b)/\(∀(i:Nat),i<Qp9 a b->[ZB (BI (Qp8 a b) i)]=QdT a c d b i)/\e=f
def QdZ(a:List UInt8):Prop:=a=wrL a
def Qqa(a:List UInt8)(b:Int):Prop:=QdZ a/\IntKind.wrap IntKind.i64 (b+Z1)=wrV b a/\True
def Qd0(a b:Nat)(c d:List UInt8):Prop:=(QdR a b c/\LN c+LN d<=140737488355328)/\True
def Qqb(a b:List UInt8):List UInt8:=QdS a++b
def Qqc(a b:List UInt8):Nat:=LN (Qqb a b)
def Qd1(a b c:List UInt8)(d:Int)(e f:Nat):Prop:=Qqc a b=LN (wrO true a c d b)/\(∀(i:Nat),i<Qqc a b->[ZB (BI (Qqb a b) i)]=QdT a c d b i)/\e=f
def Qqd(a b:Nat)(c d e:List UInt8)(f:Int):Prop:=Qd0 a b c d/\∀(y:Nat),True->SM b/\True/\∃(y_1:Nat),True/\True/\(SM b/\(Qd1 c d e f y y_1/\Qqa d f)/\True)/\y=y_1/\True
def Qqe(a:List UInt8)(b:Int):Prop:=QdZ a/\IntKind.wrap IntKind.i64 (b-Z1)=wrV b a/\True
def Qqf(a b:Nat)(c d e:List UInt8)(f:Int):Prop:=Qd0 a b c d/\∀(y:Nat),True->SM b/\True/\∃(y_1:Nat),True/\True/\(SM b/\(Qd1 c d e f y y_1/\Qqe d f)/\True)/\y=y_1/\True
def Qqg(a:List UInt8)(b:Int):Prop:=QdZ a/\b=wrV b a/\True
def Qqh(a b:Nat)(c d e:List UInt8)(f:Int):Prop:=Qd0 a b c d/\∀(y:Nat),True->SM b/\True/\∃(y_1:Nat),True/\True/\(SM b/\(Qd1 c d e f y y_1/\Qqg d f)/\True)/\y=y_1/\True
theorem Box(x t : Nat)(o last y : List UInt8)(lv : Int)(hy : y≠[])(h0 : 0<=lv)(h1 : lv<=90000)(ho : o.length+y.length<=100000000000000)(hla : last.length<=100000000000000) :
  ACalls Tryz.prog 17 ((sWr 26 28 true 0 0 x t o last lv y).args ()) ((sWr 26 28 true 0 0 x t o last lv y).st ()) (SpecR (sWr 26 28 true 0 0 x t o last lv y) ()):=by
 refine Bf (A:=sWr 26 28 true 0 0 x t o last lv y) (x:=()) (E:=Ewr) (eOk (WK BcY) rfl) Tryz.func17 rfl (by kernel_rfl) rfl (by simp[sWr,Ewr,EC,E0]) ?_
 refine Bk (T :=
  ifB (y==[(59:UInt8)]) (SM x/\∃(x_1:Unit),True/\∀(y_1:Unit),True->((QdR t x o/\LN o+N1<=140737488355328)/\True)/\∀(y_2:Nat),True->SM x/\True/\∃(y_3:Nat),True/\True/\(SM x/\((Qp5 o=LN (wrO true o last lv y)/\(∀(i:Nat),i<Qp5 o->[ZB (BI (Qp4 o) i)]=QdT o last lv y i)/\y_2=y_3)/\CN (List UInt8) [] (wrL y)/\lv=wrV lv y/\True)/\True)/\y_2=y_3/\True) (ifB (y==[(123:UInt8)]) (SM x/\SM x/\SM x/\ifB (last != []) (SM x/\∃(x_1:Unit),QdU last y/\∀(y_1:Unit),True->ifB (CA last y) (QdV t x o/\∀(y_2:Nat),True->QdX y_2 x o y/\∀(y_3:Nat),True->SM x/\True/\∃(y_4:Nat),True/\True/\(SM x/\(QdY o y last lv y_3 y_4/\Qqa y lv)/\True)/\y_3=y_4/\True) (Qqd t x o y last lv)) (Qqd t x o y last lv)) (ifB (y==[(125:UInt8)]) (SM x/\SM x/\SM x/\ifB (last != []) (SM x/\∃(x_1:Unit),QdU last y/\∀(y_1:Unit),True->ifB (CA last y) (QdV t x o/\∀(y_2:Nat),True->QdX y_2 x o y/\∀(y_3:Nat),True->SM x/\True/\∃(y_4:Nat),True/\True/\(SM x/\(QdY o y last lv y_3 y_4/\Qqe y lv)/\True)/\y_3=y_4/\True) (Qqf t x o y last lv)) (Qqf t x o y last lv)) (SM x/\ifB (last != []) (SM x/\∃(x_1:Unit),QdU last y/\∀(y_1:Unit),True->ifB (CA last y) (QdV t x o/\∀(y_2:Nat),True->QdX y_2 x o y/\∀(y_3:Nat),True->SM x/\True/\∃(y_4:Nat),True/\True/\(SM x/\(QdY o y last lv y_3 y_4/\Qqg y lv)/\True)/\y_3=y_4/\True) (Qqh t x o y last lv)) (Qqh t x o y last lv))))) (by kernel_rfl) ?_
 delta BI LN N0 N1 SM U0 Z0 Z1 ZB QdR QdS Qp4 Qp5 QdT QdU QdV Qp6 QdW Qp7 QdX Qp8 Qp9 QdY QdZ Qqa Qd0 Qqb Qqc Qd1 Qqd Qqe Qqf Qqg Qqh
 simp only[eq_self,ne_eq,Bh,true_and,and_true,beq_iff_eq,bne_iff_ne,bne_eq_false_iff_eq,beq_eq_false_iff_ne,exists_const,forall_const]
 have e32:Co 32=32:=rfl
 simp only[Cp,e32]
 have hO0:y=[59]->o++[59]=wrO true o last lv y:=fun e=>by rw[wrO,if_pos e];rfl
 have hO1:¬y=[59]->¬last=[]->CA last y=true->o++[32]++y=wrO true o last lv y:=fun e h hn=>by
  rw[wrO,if_neg e,blB,hn]
  cases last with
  |nil=>exact absurd rfl h
  |cons a b=>rfl
 have hO2:¬y=[59]->last=[]->o++y=wrO true o last lv y:=fun e h=>by
  rw[wrO,if_neg e,blB,h]
  exact congrArg (·++y) (List.append_nil o).symm
 have hO3:¬y=[59]->CA last y=false->o++y=wrO true o last lv y:=fun e h=>by
  rw[wrO,if_neg e,blB,h]
  simp
 have hL:¬y=[59]->y=wrL y:=fun e=>by rw[wrL,if_neg e]
 have v1:y=[123]->IntKind.i64.wrap (lv+1)=wrV lv y:=fun e=>by rw[wrV,if_pos e,Bb (by omega) (by omega)]
 have v2:¬y=[123]->y=[125]->IntKind.i64.wrap (lv-1)=wrV lv y:=fun n e=>by rw[wrV,if_neg n,if_pos e,Bb (by omega) (by omega)]
 have v3:¬y=[123]->¬y=[125]->lv=wrV lv y:=fun n e=>by rw[wrV,if_neg n,if_neg e]
 have hy':¬y=[]:=hy
 refine⟨fun e=>⟨⟨EX t x o,by omega⟩,fun t2=>⟨t2,⟨⟨by rw[hO0 e],fun i _=>by rw[hO0 e],rfl⟩,?_,?_⟩,rfl⟩⟩,fun ne=>⟨fun e1=>⟨fun h=>⟨⟨h,hy',hla⟩,fun hn=>wA ho (hO1 ne h hn) ⟨hL ne,v1 e1⟩,fun hn=>wB ho (hO3 ne hn) ⟨hL ne,v1 e1⟩⟩,fun h=>wB ho (hO2 ne h) ⟨hL ne,v1 e1⟩⟩,fun n1=>⟨fun e2=>⟨fun h=>⟨⟨h,hy',hla⟩,fun hn=>wA ho (hO1 ne h hn) ⟨hL ne,v2 n1 e2⟩,fun hn=>wB ho (hO3 ne hn) ⟨hL ne,v2 n1 e2⟩⟩,fun h=>wB ho (hO2 ne h) ⟨hL ne,v2 n1 e2⟩⟩,fun n2=>⟨fun h=>⟨⟨h,hy',hla⟩,fun hn=>wA ho (hO1 ne h hn) ⟨hL ne,v3 n1 n2⟩,fun hn=>wB ho (hO3 ne hn) ⟨hL ne,v3 n1 n2⟩⟩,fun h=>wB ho (hO2 ne h) ⟨hL ne,v3 n1 n2⟩⟩⟩⟩⟩
 ·rw[wrL,if_pos e]
 ·rw[e];rfl
theorem BnX(bl ln : Nat)(cmp : Bool)(k kt x t : Nat){o last y : List UInt8}{lv : Int}(h : ACalls Tryz.prog 17 ((sWr bl ln cmp 0 0 x t o last lv y).args ()) ((sWr bl ln cmp 0 0 x t o last lv y).st ()) (SpecR (sWr bl ln cmp 0 0 x t o last lv y) ())) :
  ACalls Tryz.prog 17 ((sWr bl ln cmp k kt x t o last lv y).args ()) ((sWr bl ln cmp k kt x t o last lv y).st ()) (SpecR (sWr bl ln cmp k kt x t o last lv y) ()):=by
 refine h.respec (A':=sWr bl ln cmp k kt x t o last lv y) (x':=()) ?_ ?_ fun y _=>⟨y,trivial,?_,?_⟩
 ·simp[sWr,Br,Bg,chk]
 ·simp[sWr,wrC,T0,ON,T9,CT,Br,Bg,chk,bsl,BE,Ot,kEq]
 ·simp[sWr,Ii,Bd]
 ·simp[sWr,wrC,T0,ON,T9,CT,Br,Bg,chk,bsl,BE,Ot,kEq]<;>try rfl
def okC(n:Nd):Prop:=Ek n=0/\n.ok/\n.sm
def BkY:Con:=fun k ds S=>match k with
 |38=>some (pE (β:=Nd) ds S (fun n=>ssl (ptX n) .any) (fun n=>isN n ds []/\okC n))
 |_=>none
theorem BkS:ConOk Tryz.prog BkY:=by
 intro k ds S A hh
 unfold BkY at hh
 split at hh
 ·injection hh with hh;subst hh
  exact EJ fun n ⟨e,h1,h2,h3⟩=>CD.at_ (CD.wk (BqT n h1 h2 h3) e) _
 ·cases hh
def G6(l:List Sm)(i:Nat):List (List UInt8):=(ptB (l.take i)).map prT
theorem BeC{l:List Sm}{i:Nat}(h:i<l.length)(k3:(l.getD i default).kd≠3):G6 l (i+1)=G6 l i++((if 0<i then [[59]] else [])++if (l.getD i default).kd=2 then (l.getD i default).nm::[60,45]::ptX (l.getD i default).nd else ptX (l.getD i default).nd):=by
 unfold G6 ptB
 rw[BlK ptM h,List.map_append,List.map_append,GN,if_neg k3]
 congr 1
 split<;>split<;>rfl
noncomputable def Epg(l:List Sm):Senv:={ EC BkY 34 6 [7,8,9,10,15,21] (fun _=>([],[])) with
 mg:=fun _=>2
 gh:=fun b=>match b with
  |0=>[.slot 3]
  |_=>[]
 ann:=fun b _ S=>match b with
  |0=>some { slots:=[9,3],keep:=[0,1,7,8],α:=Nat×Nat,st:=fun y=>([.int .i64 y.1,ssl (G6 l y.1) (.tok 0 y.2)],⟨S.objs,[(0,y.2)]⟩),inv:=fun y=>y.1<=l.length,mu:=fun y=>l.length-y.1 }
  |_=>none }
def Qz(a:List Sm)(b:Nat):Nat:=LN (G6 a b)
def KN(a:List Sm)(b c:Nat):List D:=[D.str (List.getD (G6 a b) c [])]
def Ho:Arr:=DA
def Xs:Nd:=Nd.mk Z0 Z0 Z0 [] Z0 Z0 Ho [] [] Z0 Z0 Z0
def Xt:Sm:=Sm.mk Z0 Z0 [] Z0 Xs Xs
def Vq(a:List Sm)(b:Nat):Sm:=List.getD a b Xt
def Qqo(a:List Sm)(b:Nat):List D:=(Sm.row1 (Vq a b))
def Xu(a:Nat)(b:List Sm)(c d:Nat):Prop:=(SM a/\((SM (LN b)/\(∀(i:Nat),i<LN b->SM (Qqo b i))/\True)/\True)/\True)/\c=d/\True
def Vr(a:List Sm)(b:Nat):Nat:=Qz a b+N1
def Qd2(a:List Sm)(b:Nat):Sm:=List.getD a (Int.toNat (↑b:Int)) Xt
def Qqp(a:List Sm)(b:Nat):Bool:=Sm.kd (Qd2 a b)==2
def Hr(a:List Sm)(b:Nat):Nat:=Vr a b+N2
def Kn(a:List Sm)(b:Nat):Nd:=Sm.nd (Qd2 a b)
def Ht(a:Nd)(b:List Sm)(c:Nat):Prop:=isN a [D.agg (Nd.rowE (Kn b c))] []/\okC a
def Hu(a:Nd):Nat:=LN (ptX a)
def Hv(a:List Sm)(b:Nat)(c:Nd):Nat:=Hr a b+Hu c
def Qqt(a:List Sm):D:=D.sl 34 (LN a) (fun i=>Qqo a i) Mode.any
def Qww(a:List Sm):D:=D.agg [Qqt a]
def Hw(a:List Sm)(b:Nat):Prop:=SM (Qww a)/\SM (D.ref N0 b N0)/\SM (Qqt a)/\SM (ZI (LI a))/\True
def Hx(a b:Nat):Prop:=IntKind.wrap IntKind.i64 ((↑a:Int)+Z1)=(↑b:Int)
def Qqu(a:List Sm)(b c:Nat):List D:=[D.str (List.getD [Sm.nm (Qd2 a b),[(60:UInt8),(45:UInt8)]] c [])]
def Hy(a:Nd)(b:Nat):List D:=[D.str (List.getD (ptX a) b [])]
def Hz(a:List Sm)(b:Nat)(c:Nd):Nat:=Vr a b+Hu c
def HA(a:List Sm)(b:Nat):Nat:=Qz a b+N2
def HB(a:List Sm)(b:Nat)(c:Nd):Nat:=HA a b+Hu c
def HC(a:List Sm)(b:Nat)(c:Nd):Nat:=Qz a b+Hu c
theorem BqJ(l:List Sm)(h:CI l=0)(hl:l.length<=By)(ho:∀s∈l,s.ok)(hs:∀s∈l,s.sm):CD 16 [.agg [gsl 34 Sm.row1 l]] (ssl ((ptB l).map prT) .any):=by
 refine Bf (A:=sC _ _) (x:=()) (E:=Epg l) (eOk BkS rfl) Tryz.func16 rfl (by kernel_rfl) rfl (by simp[sC,Epg,EC,E0]) ?_
 refine Bk (T :=
  ∀(x:Nat),True->SM x/\∀(t:Nat),(∃(x_1:Nat×Nat),x_1.1<=LN l/\(Z0=(NI x_1.1)/\(N0=Qz l x_1.1/\(∀(i:Nat),i<N0->CN (List D) [] (KN l x_1.1 i))/\t=x_1.2)/\True)/\Xu x l t x_1.2)/\∀(x_1:Nat×Nat),x_1.1<=LN l->ifB (decide ((NI x_1.1)<(LI l))) (Be (Z0<=(NI x_1.1)/\(NI x_1.1)<(LI l)) (∀(x_2:Nat),x≠x_2/\True->SM x_2/\ifB (decide (Z0<(NI x_1.1))) (SM x_1.2/\Be (Vr l x_1.1*16<=140737488355328/\Vr l x_1.1<=9223372036854775807) (∀(t:Nat),SM x_2/\ifB (Qqp l x_1.1) (SM x_2/\SM t/\Be (Hr l x_1.1*16<=140737488355328/\Hr l x_1.1<=9223372036854775807) (∀(t:Nat),SM x_2/\∃(x_3:Nd),Ht x_3 l x_1.1/\∀(y:Unit),True->SM t/\Be (Hv l x_1.1 x_3*16<=140737488355328/\Hv l x_1.1 x_3<=9223372036854775807) (∀(t:Nat),Hw l x/\∃(y:Nat×Nat),y.1<=LN l/\LN l-y.1<LN l-x_1.1/\(Hx x_1.1 y.1/\(Hv l x_1.1 x_3=Qz l y.1/\(∀(i:Nat),i<Hv l x_1.1 x_3->BW (Hr l x_1.1) (BW (Vr l x_1.1) (BW (Qz l x_1.1) (fun i=>KN l x_1.1 i) fun i=>[D.str (List.getD [[(59:UInt8)]] i [])]) fun i=>Qqu l x_1.1 i) (fun i=>Hy x_3 i) i=KN l y.1 i)/\t=y.2)/\True)/\Xu x l t y.2))) (SM x_2/\∃(x_3:Nd),Ht x_3 l x_1.1/\∀(y:Unit),True->SM t/\Be (Hz l x_1.1 x_3*16<=140737488355328/\Hz l x_1.1 x_3<=9223372036854775807) (∀(t:Nat),Hw l x/\∃(y:Nat×Nat),y.1<=LN l/\LN l-y.1<LN l-x_1.1/\(Hx x_1.1 y.1/\(Hz l x_1.1 x_3=Qz l y.1/\(∀(i:Nat),i<Hz l x_1.1 x_3->BW (Vr l x_1.1) (BW (Qz l x_1.1) (fun i=>KN l x_1.1 i) fun i=>[D.str (List.getD [[(59:UInt8)]] i [])]) (fun i=>Hy x_3 i) i=KN l y.1 i)/\t=y.2)/\True)/\Xu x l t y.2)))) (SM x_2/\ifB (Qqp l x_1.1) (SM x_2/\SM x_1.2/\Be (HA l x_1.1*16<=140737488355328/\HA l x_1.1<=9223372036854775807) (∀(t:Nat),SM x_2/\∃(x_3:Nd),Ht x_3 l x_1.1/\∀(y:Unit),True->SM t/\Be (HB l x_1.1 x_3*16<=140737488355328/\HB l x_1.1 x_3<=9223372036854775807) (∀(t:Nat),Hw l x/\∃(y:Nat×Nat),y.1<=LN l/\LN l-y.1<LN l-x_1.1/\(Hx x_1.1 y.1/\(HB l x_1.1 x_3=Qz l y.1/\(∀(i:Nat),i<HB l x_1.1 x_3->BW (HA l x_1.1) (BW (Qz l x_1.1) (fun i=>KN l x_1.1 i) fun i=>Qqu l x_1.1 i) (fun i=>Hy x_3 i) i=KN l y.1 i)/\t=y.2)/\True)/\Xu x l t y.2))) (SM x_2/\∃(x_3:Nd),Ht x_3 l x_1.1/\∀(y:Unit),True->SM x_1.2/\Be (HC l x_1.1 x_3*16<=140737488355328/\HC l x_1.1 x_3<=9223372036854775807) (∀(t:Nat),Hw l x/\∃(y:Nat×Nat),y.1<=LN l/\LN l-y.1<LN l-x_1.1/\(Hx x_1.1 y.1/\(HC l x_1.1 x_3=Qz l y.1/\(∀(i:Nat),i<HC l x_1.1 x_3->BW (Qz l x_1.1) (fun i=>KN l x_1.1 i) (fun i=>Hy x_3 i) i=KN l y.1 i)/\t=y.2)/\True)/\Xu x l t y.2))))) (True/\∃(y:Unit),True/\(Qz l x_1.1=LN (List.map prT (ptB l))/\(∀(i:Nat),i<Qz l x_1.1->KN l x_1.1 i=[D.str (List.getD (List.map prT (ptB l)) i [])])/\True)/\True/\True)) (by kernel_rfl) ?_
 delta DA GI LI LN N0 N1 N2 N4 NI SI SM Z0 Z1 ZI Qz KN Ho Qqo Xu Vr Qd2 Qqp Hr Kn Xs Ht Hu Hv Qqt Qww Hw Hx Xt Qqu Hy Hz HA HB HC Vq
 try simp only[<- dm]
 try simp only[<- dn]
 simp only[ne_eq,implies_true,Int.toNat_natCast,Bh,Bc,decide_eq_true_eq,decide_eq_false_iff_not,true_and,and_true,beq_iff_eq,beq_eq_false_iff_ne,exists_const,forall_const,Prod.exists]
 have hR:=GJ h
 have hpt:=Beb hR ho
 unfold By at hl
 have len:∀i,(G6 l i).length<=3400000000000:=fun i=>by
  have:=Bjz l i
  unfold G6
  rw[List.length_map]
  omega
 intro xb t
 refine⟨⟨0,t,Nat.zero_le _,⟨rfl,rfl,fun i hi=>absurd hi (by omega),rfl⟩,rfl⟩,?_⟩
 rintro ⟨i,t1⟩ hi
 simp only at hi ⊢
 refine⟨fun hlt=>?_,fun hge=>?_⟩
 ·have hi':i<l.length:=by omega
  have sm:=IR hi'
  obtain ⟨_,c,k3,_⟩:=UV hR sm
  have ok:okC (l.getD i default).nd:=⟨c,(EH (ho _ sm)).2,(ME (hs _ sm)).2⟩
  have st:=BeC hi' k3
  have e1:=len (i+1)
  have fin:∀(n:Nat) (F:Nat->List D) (L:List (List UInt8)),L=G6 l (i+1)->n=L.length->(∀j,j<n->F j=[D.str (L.getD j [])])->∀t2:Nat,∃a b:Nat,a<=l.length/\l.length-a<l.length-i/\(IntKind.i64.wrap ((i:Int)+1)=(a:Int)/\n=(G6 l a).length/\(∀j,j<n->F j=[D.str ((G6 l a).getD j [])])/\t2=b)/\t2=b:=fun n F L hL hn hF t2=>by
   subst hL
   exact⟨i+1,t2,hi',by omega,⟨Bb (by omega) (by omega),hn,hF,rfl⟩,rfl⟩
  generalize hA:G6 l i=A at *
  generalize hB:G6 l (i+1)=B at *
  refine⟨⟨by omega,hlt⟩,fun x2 _=>⟨fun hp=>⟨?_,fun k2=>?_,fun n2=>?_⟩,fun hp=>⟨fun k2=>?_,fun n2=>?_⟩⟩⟩
  ·have:=congrArg List.length st
   rw[if_pos (by omega)] at this
   simp only[List.length_append,List.length_cons,List.length_nil] at this
   exact⟨by omega,by omega⟩
  ·rw[if_pos (by omega),if_pos k2] at st
   have:=congrArg List.length st
   simp only[List.length_append,List.length_cons,List.length_nil] at this
   refine⟨⟨by omega,by omega⟩,(l.getD i default).nd,⟨BB _ _,ok⟩,⟨by omega,by omega⟩,fin _ _ (A++[[59]]++[(l.getD i default).nm,[60,45]]++ptX (l.getD i default).nd) (by rw[st];simp) (by simp only[List.length_append,List.length_cons,List.length_nil]) (OC (by simp only[List.length_append,List.length_cons,List.length_nil]) (OC (L:=A++[[59]]) (r:=[(l.getD i default).nm,[60,45]]) (by simp only[List.length_append,List.length_cons,List.length_nil]) (BfY rfl (fun _ _=>rfl) _) fun _ _=>rfl) fun _ _=>rfl)⟩
  ·rw[if_pos (by omega),if_neg n2] at st
   have:=congrArg List.length st
   simp only[List.length_append,List.length_cons,List.length_nil] at this
   refine⟨(l.getD i default).nd,⟨BB _ _,ok⟩,⟨by omega,by omega⟩,fin _ _ (A++[[59]]++ptX (l.getD i default).nd) (by rw[st];simp) (by simp only[List.length_append,List.length_cons,List.length_nil]) (OC (by simp only[List.length_append,List.length_cons,List.length_nil]) (BfY rfl (fun _ _=>rfl) _) fun _ _=>rfl)⟩
  ·rw[if_neg (by omega),if_pos k2] at st
   have:=congrArg List.length st
   simp only[List.length_append,List.length_cons,List.length_nil] at this
   refine⟨⟨by omega,by omega⟩,(l.getD i default).nd,⟨BB _ _,ok⟩,⟨by omega,by omega⟩,fin _ _ (A++[(l.getD i default).nm,[60,45]]++ptX (l.getD i default).nd) (by rw[st];simp) (by simp only[List.length_append,List.length_cons,List.length_nil]) (OC (by simp only[List.length_append,List.length_cons,List.length_nil]) (OC (r:=[(l.getD i default).nm,[60,45]]) rfl (fun _ _=>rfl) fun _ _=>rfl) fun _ _=>rfl)⟩
  ·rw[if_neg (by omega),if_neg n2] at st
   have:=congrArg List.length st
   simp only[List.length_append,List.length_nil] at this
   exact⟨(l.getD i default).nd,⟨BB _ _,ok⟩,⟨by omega,by omega⟩,fin _ _ (A++ptX (l.getD i default).nd) (by rw[st];simp) (by simp only[List.length_append]) (OC rfl (fun _ _=>rfl) fun _ _=>rfl)⟩
 ·refine rows_of ?_
  unfold G6
  rw[show i=l.length by omega,List.take_length]
end
end Go.Proofs.YtaagdbcaeokjkaaGreatDoor
