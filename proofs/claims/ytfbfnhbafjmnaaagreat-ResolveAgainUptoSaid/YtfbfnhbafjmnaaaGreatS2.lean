/- Functions of the given program and what each of them computes: lemmas towards the statement, their conditions stated with each of them. -/
import Derived.Test.YtfbfnhbafjmnaaaGreatS1
namespace Go.Proofs.YtfbfnhbafjmnaaaGreat
open Go Go.Ab
set_option maxRecDepth 100000
noncomputable section
theorem Bdh{t s:List UInt8}{x:Nat}(h:x<t.length):Ef (t.drop x) s=((t.getD x 0==32&&decide (s.length<(t.drop (x+1)).length)&&(t.drop (x+1)).take s.length==s&&(t.drop (x+1)).getD s.length 0==32)||Ef (t.drop (x+1)) s):=by
 rw[List.drop_eq_getElem_cons h,Ef]
 simp only[List.getD_eq_getElem?_getD,List.getElem?_eq_getElem h,Option.getD_some]
theorem Ts{s:List UInt8}:∀ {r:List UInt8},r.length<s.length+2->Ef r s=false
 | [],_=>rfl
 |b::r,h=>by
  have h1:¬s.length<r.length:=by simp only[List.length_cons] at h;omega
  rw[Ef,decide_eq_false h1,Ts (r:=r) (by simp only[List.length_cons] at h;omega)]
  simp
noncomputable def Eam(t s:List UInt8):Senv:={ EC CK 57 2 [4,5,6,9,13,19,27,56] (fun _=>([],[])) with
 ann:=fun b _ S=>match b with
  |0=>some { slots:=[5],keep:=[0,1],α:=Nat,st:=fun y=>([.int .i64 y],S),inv:=fun y=>y<=s.length/\(s.take y).all (fun b=>b != 32)=true,mu:=fun y=>s.length-y }
  |2=>some { slots:=[6],keep:=[0,1],α:=Nat,st:=fun y=>([.int .i64 y],S),inv:=fun y=>y<=t.length/\Ef (t.drop y) s=Ef t s,mu:=fun y=>t.length-y }
  |_=>none }
def Qrg(a b:List UInt8):Prop:=True/\∃(_y:Unit),True/\false=EO a b/\True/\True
def Qrh(a:Nat)(c:List UInt8):Prop:=a<=LN c/\(List.all (List.take a c) fun (b:UInt8)=>b != (32:UInt8))=true
def Qri(a:List UInt8)(b:Nat):Bool:=(BI a (Int.toNat (↑b:Int)))==32
def QlW(a:Nat):Int:=IntKind.wrap IntKind.i64 ((↑a:Int)+Z1)
def QvI(a:List UInt8)(b c:Nat):Prop:=LN a-b<LN a-c/\(QlW c=(↑b:Int)/\True)/\True/\True
def Qrj(a:Nat)(b c:List UInt8):Prop:=a<=LN b/\Ef (List.drop a b) c=Ef b c
def QlX(a:Nat)(b:List UInt8):Int:=IntKind.wrap IntKind.i64 (QlW a+(LI b))
def QvJ(a:Nat)(b:List UInt8):Nat:=Int.toNat (QlX a b)
def QvK(a:Nat)(b c:List UInt8):Bool:=List.drop (Int.toNat (QlW a)) (List.take (QvJ a b) c)==b
def QvL(a:List UInt8)(b:Nat)(c:List UInt8):Bool:=(BI a (QvJ b c))==32
def Qrk(a:List UInt8)(b:Nat)(c:List UInt8):Bool:=bif bif Qri a b then QvK b c a else false then QvL a b c else false
def QvM(a:List UInt8)(b:Nat)(c:List UInt8):Prop:=false=Qrk a b c/\True
theorem Bm5(t s:List UInt8)(ht:t.length<=BX)(hs:s.length<=BX):ACalls Tryz.prog 134 [.str t,.str s] ⟨[],[]⟩ (SpecR (sC [.str t,.str s] (.bool (EO t s))) ()):=by
 refine Bh (A:=sC _ _) (x:=()) (E:=Eam t s) (eOk BE rfl) Tryz.func134 rfl (by kernel_rfl) rfl (by simp[sC,Eam,EC,E0]) ?_
 refine Bl (T :=
  ifB ((LI s)==Z0) (Qrg t s) ((∃(x:Nat),Qrh x s/\(Z0=(↑x:Int)/\True)/\True/\True)/\∀(x:Nat),Qrh x s->ifB (decide ((↑x:Int)<(LI s))) (Bf (Z0<=(↑x:Int)/\(↑x:Int)<(LI s)) (ifB (Qri s x) (Qrg t s) ((SM (D.str t)/\SM (D.str s)/\True)/\∃(y:Nat),Qrh y s/\QvI s y x))) ((∃(x:Nat),Qrj x t s/\(Z0=(↑x:Int)/\True)/\True/\True)/\∀(x:Nat),Qrj x t s->ifB (decide (IntKind.wrap IntKind.i64 (IntKind.wrap IntKind.i64 ((↑x:Int)+(LI s))+2)<=(LI t))) (Bf (Z0<=(↑x:Int)/\(↑x:Int)<(LI t)) (ifB (Qri t x) (Bf (Z0<=QlW x/\QlW x<=QlX x s/\QlX x s<=(LI t)) (ifB (QvK x s t) (Bf (Z0<=QlX x s/\QlX x s<(LI t)) (QvL t x s=Qrk t x s/\True)) (QvM t x s))) (QvM t x s))/\ifB (Qrk t x s) (RT (true=EO t s)) ((SM (D.str t)/\SM (D.str s)/\True)/\∃(y:Nat),Qrj y t s/\QvI t y x)) (Qrg t s)))) (by kernel_rfl) ?_
 delta BI LI LN SM U0 Z0 Z1 Qrg Qrh Qrk QvM Qri QlW QvI Qrj QlX QvJ QvK QvL RT
 simp only[eq_self,ne_eq,Int.toNat_natCast,Bg,Be,decide_eq_true_eq,decide_eq_false_iff_not,true_and,and_true,beq_iff_eq,Bool.cond_false_right,Bool.and_eq_true,Bool.and_eq_false_iff,beq_eq_false_iff_ne,exists_const]
 unfold BX at ht hs
 have b32:∀b:UInt8,((b.toNat:Int)=32)↔b=32:=fun b=>⟨fun h=>by
  apply UInt8.toNat_inj.1
  show b.toNat=32
  omega,fun h=>by subst h;rfl⟩
 have tk:∀x:Nat,x<s.length->s.take (x+1)=s.take x++[s.getD x 0]:=fun x hx=>by
  rw[List.take_add_one,List.getElem?_eq_getElem hx,List.getD_eq_getElem?_getD,List.getElem?_eq_getElem hx];rfl
 refine⟨fun h=>?_,fun h0=>⟨⟨0,⟨Nat.zero_le _,rfl⟩,rfl⟩,fun x ⟨h1,h2⟩=>⟨fun h=>⟨⟨by omega,h⟩,fun e=>?_,fun e=>⟨x+1,⟨by omega,?_⟩,by omega,by rw[Bb (by omega) (by omega)];rfl⟩⟩,fun h=>?_⟩⟩⟩
 ·have:s=[]:=List.length_eq_zero_iff.1 (by omega)
  subst this;rfl
 ·have hx:x<s.length:=by omega
  have hm:s.getD x 0∈s:=by rw[List.getD_eq_getElem?_getD,List.getElem?_eq_getElem hx];exact List.getElem_mem hx
  have:(s.all fun b=>b != 32)=false:=by
   rw[List.all_eq_false]
   exact⟨_,hm,by rw[(b32 _).1 e];simp⟩
  unfold EO
  rw[this];simp
 ·rw[tk x (by omega),List.all_append,h2]
  have:s.getD x 0≠32:=fun he=>e ((b32 _).2 he)
  simpa using this
 ·have hall:(s.all fun b=>b != 32)=true:=by
   have:x=s.length:=by omega
   rw[this,List.take_length] at h2
   exact h2
  have hne:s.isEmpty=false:=by
   cases s with
   |nil=>exact (h0 rfl).elim
   |cons=>rfl
  have hA:EO t s=Ef t s:=by unfold EO;rw[hall,hne];rfl
  rw[hA]
  refine⟨⟨0,⟨Nat.zero_le _,by rw[List.drop_zero]⟩,rfl⟩,fun y ⟨y1,y2⟩=>?_⟩
  have w1:IntKind.i64.wrap ((y:Int)+1)=((y+1:Nat):Int):=by rw[Bb (by omega) (by omega)];rfl
  have w2:IntKind.i64.wrap (((y+1:Nat):Int)+(s.length:Int))=((y+1+s.length:Nat):Int):=by rw[Bb (by omega) (by omega)];omega
  have w3:IntKind.i64.wrap (IntKind.i64.wrap ((y:Int)+(s.length:Int))+2)=((y+s.length+2:Nat):Int):=by rw[Bb (n:=(y:Int)+s.length) (by omega) (by omega),Bb (by omega) (by omega)];omega
  rw[w1,w2,w3]
  simp only[Int.toNat_natCast,b32]
  have hdt:List.drop (y+1) (List.take (y+1+s.length) t)=(t.drop (y+1)).take s.length:=by
   rw[List.drop_take];congr 1;omega
  have hgd:t.getD (y+1+s.length) 0=(t.drop (y+1)).getD s.length 0:=by simp[List.getD_eq_getElem?_getD]
  rw[hdt,hgd]
  have bi:∀b:UInt8,(((b.toNat:Int))==32)=(b==32):=fun b=>by
   by_cases hb:b=32
   ·rw[hb];rfl
   ·have h1:(b==32)=false:=by simpa using hb
    have h2:(((b.toNat:Int))==32)=false:=by
     have:=fun h=>hb ((b32 b).1 h)
     simpa using this
    rw[h1,h2]
  simp only[bi]
  refine⟨fun hle=>?_,fun hgt=>?_⟩
  ·have hy:y<t.length:=by omega
   have hstep:=Bdh (s:=s) hy
   rw[y2] at hstep
   have hlt:decide (s.length<(t.drop (y+1)).length)=true:=by rw[List.length_drop];simp;omega
   rw[hlt,Bool.and_true] at hstep
   refine⟨⟨⟨by omega,by omega⟩,fun e1=>⟨⟨by omega,by omega,by omega⟩,fun e2=>⟨⟨by omega,by omega⟩,?_⟩,fun e2=>?_⟩,fun e1=>?_⟩,fun ⟨⟨e1,e2⟩,e3⟩=>?_,fun hno=>⟨y+1,⟨by omega,?_⟩,by omega,rfl⟩⟩
   ·rw[e1,e2];simp
   ·have:((t.drop (y+1)).take s.length==s)=false:=by simpa using e2
    rw[this];simp
   ·have:(t.getD y 0==32)=false:=by simpa using e1
    rw[this];simp
   ·rw[hstep,e1,e2,e3];simp
   ·have:(t.getD y 0==32&&(t.drop (y+1)).take s.length==s&&(t.drop (y+1)).getD s.length 0==32)=false:=by
     rw[Bool.and_eq_false_iff,Bool.and_eq_false_iff]
     rcases hno with (h | h) | h
     ·exact .inl (.inl (by simpa using h))
     ·exact .inl (.inr (by simpa using h))
     ·exact .inr (by simpa using h)
    rw[this,Bool.false_or] at hstep
    exact hstep.symm
  ·rw[<- y2]
   exact (Ts (by rw[List.length_drop];omega)).symm
def Bjl:Con:=fun k ds _=>match k with
 |134=>match ds with
  | [.str t,.str s]=>some (pC [.str t,.str s] (.bool (EO t s)) (t.length<=BX/\s.length<=BX))
  |_=>none
 |_=>none
theorem BiZ:ConOk Tryz.prog Bjl:=by
 intro k ds S A h
 unfold Bjl at h
 split at h
 ·split at h
  ·injection h with h;subst h
   exact C4 fun ⟨h1,h2⟩=>⟨Bo _,Bm5 _ _ h1 h2⟩
  ·cases h
 ·cases h
noncomputable def Erres:Senv:={ EC Bjl 9 1 [2] (fun _=>([],[])) with mg:=fun _=>2 }
theorem Bk6(s:List UInt8)(hs:s.length<=BX):ACalls Tryz.prog 112 [.str s] ⟨[],[]⟩ (SpecR (sC [.str s] (.bool (R8 s))) ()):=by
 refine Bh (A:=sC _ _) (x:=()) (E:=Erres) (eOk BiZ rfl) Tryz.func112 rfl (by kernel_rfl) rfl (by simp[sC,Erres,EC,E0]) ?_
 refine Bl (T :=
  ((298:Nat)<=8589934592/\LN s<=8589934592)/\∀(y:Unit),True->ifB (EO [(32:UInt8),(88:UInt8),(32:UInt8),(89:UInt8),(32:UInt8),(70:UInt8),(32:UInt8),(71:UInt8),(32:UInt8),(115:UInt8),(101:UInt8),(108:UInt8),(102:UInt8),(32:UInt8),(97:UInt8),(114:UInt8),(103:UInt8),(32:UInt8),(109:UInt8),(105:UInt8),(110:UInt8),(32:UInt8),(109:UInt8),(97:UInt8),(120:UInt8),(32:UInt8),(97:UInt8),(110:UInt8),(100:UInt8),(32:UInt8),(111:UInt8),(114:UInt8),(32:UInt8),(110:UInt8),(111:UInt8),(116:UInt8),(32:UInt8),(115:UInt8),(104:UInt8),(97:UInt8),(112:UInt8),(101:UInt8),(32:UInt8),(114:UInt8),(101:UInt8),(115:UInt8),(104:UInt8),(97:UInt8),(112:UInt8),(101:UInt8),(32:UInt8),(116:UInt8),(97:UInt8),(108:UInt8),(108:UInt8),(121:UInt8),(32:UInt8),(100:UInt8),(101:UInt8),(112:UInt8),(116:UInt8),(104:UInt8),(32:UInt8),(115:UInt8),(116:UInt8),(97:UInt8),(99:UInt8),(107:UInt8),(32:UInt8),(105:UInt8),(111:UInt8),(116:UInt8),(97:UInt8),(32:UInt8),(116:UInt8),(97:UInt8),(107:UInt8),(101:UInt8),(32:UInt8),(100:UInt8),(114:UInt8),(111:UInt8),(112:UInt8),(32:UInt8),(102:UInt8),(105:UInt8),(114:UInt8),(115:UInt8),(116:UInt8),(32:UInt8),(114:UInt8),(101:UInt8),(118:UInt8),(101:UInt8),(114:UInt8),(115:UInt8),(101:UInt8),(32:UInt8),(114:UInt8),(111:UInt8),(116:UInt8),(97:UInt8),(116:UInt8),(101:UInt8),(32:UInt8),(116:UInt8),(114:UInt8),(97:UInt8),(110:UInt8),(115:UInt8),(112:UInt8),(111:UInt8),(115:UInt8),(101:UInt8),(32:UInt8),(102:UInt8),(114:UInt8),(111:UInt8),(109:UInt8),(32:UInt8),(112:UInt8),(105:UInt8),(99:UInt8),(107:UInt8),(32:UInt8),(115:UInt8),(101:UInt8),(108:UInt8),(101:UInt8),(99:UInt8),(116:UInt8),(32:UInt8),(97:UInt8),(109:UInt8),(101:UInt8),(110:UInt8),(100:UInt8),(32:UInt8),(117:UInt8),(112:UInt8),(32:UInt8),(100:UInt8),(111:UInt8),(119:UInt8),(110:UInt8),(32:UInt8),(115:UInt8),(111:UInt8),(114:UInt8),(116:UInt8),(32:UInt8),(102:UInt8),(105:UInt8),(110:UInt8),(100:UInt8),(32:UInt8),(105:UInt8),(110:UInt8),(32:UInt8),(117:UInt8),(110:UInt8),(105:UInt8),(113:UInt8),(117:UInt8),(101:UInt8),(32:UInt8),(119:UInt8),(104:UInt8),(101:UInt8),(114:UInt8),(101:UInt8),(32:UInt8),(99:UInt8),(111:UInt8),(112:UInt8),(121:UInt8),(32:UInt8),(101:UInt8),(120:UInt8),(112:UInt8),(97:UInt8),(110:UInt8),(100:UInt8),(32:UInt8),(99:UInt8),(117:UInt8),(116:UInt8),(32:UInt8),(101:UInt8),(110:UInt8),(99:UInt8),(111:UInt8),(100:UInt8),(101:UInt8),(32:UInt8),(100:UInt8),(101:UInt8),(99:UInt8),(111:UInt8),(100:UInt8),(101:UInt8),(32:UInt8),(98:UInt8),(111:UInt8),(120:UInt8),(32:UInt8),(111:UInt8),(112:UInt8),(101:UInt8),(110:UInt8),(32:UInt8),(115:UInt8),(97:UInt8),(109:UInt8),(101:UInt8),(32:UInt8),(107:UInt8),(105:UInt8),(110:UInt8),(100:UInt8),(32:UInt8),(111:UInt8),(114:UInt8),(100:UInt8),(32:UInt8),(99:UInt8),(104:UInt8),(114:UInt8),(32:UInt8),(102:UInt8),(111:UInt8),(114:UInt8),(109:UInt8),(97:UInt8),(116:UInt8),(32:UInt8),(108:UInt8),(101:UInt8),(102:UInt8),(116:UInt8),(32:UInt8),(114:UInt8),(105:UInt8),(103:UInt8),(104:UInt8),(116:UInt8),(32:UInt8),(101:UInt8),(97:UInt8),(99:UInt8),(104:UInt8),(32:UInt8),(115:UInt8),(119:UInt8),(97:UInt8),(112:UInt8),(32:UInt8),(111:UInt8),(117:UInt8),(116:UInt8),(101:UInt8),(114:UInt8),(32:UInt8),(105:UInt8),(110:UInt8),(110:UInt8),(101:UInt8),(114:UInt8),(32:UInt8),(114:UInt8),(97:UInt8),(110:UInt8),(107:UInt8),(32:UInt8),(112:UInt8),(111:UInt8),(119:UInt8),(101:UInt8),(114:UInt8),(32:UInt8),(115:UInt8),(116:UInt8),(101:UInt8),(110:UInt8),(99:UInt8),(105:UInt8),(108:UInt8),(32:UInt8),(97:UInt8),(116:UInt8),(111:UInt8),(112:UInt8),(32:UInt8),(111:UInt8),(118:UInt8),(101:UInt8),(114:UInt8),(32:UInt8)] s) (RT (true=R8 s)) (((34:Nat)<=8589934592/\LN s<=8589934592)/\∀(y:Unit),True->RT (EO [(32:UInt8),(43:UInt8),(32:UInt8),(45:UInt8),(32:UInt8),(42:UInt8),(32:UInt8),(37:UInt8),(32:UInt8),(124:UInt8),(32:UInt8),(94:UInt8),(32:UInt8),(60:UInt8),(32:UInt8),(60:UInt8),(61:UInt8),(32:UInt8),(61:UInt8),(32:UInt8),(126:UInt8),(61:UInt8),(32:UInt8),(62:UInt8),(61:UInt8),(32:UInt8),(62:UInt8),(32:UInt8),(44:UInt8),(32:UInt8),(47:UInt8),(32:UInt8),(92:UInt8),(32:UInt8)] s=R8 s))) (by kernel_rfl) ?_
 delta LN RT
 simp only[Bg,true_and,and_true,exists_const,forall_const]
 generalize hA:EO _ s=a
 generalize hB:EO _ s=b
 have ea:a=resL.contains s:=by
  rw[<- hA,<- Bdw s]
  congr 1
 have eb:b=sgnL.contains s:=by
  rw[<- hB,<- Bds s]
  congr 1
 subst ea eb
 unfold BX at hs
 refine⟨⟨by decide,hs⟩,fun h=>?_,fun h=>⟨⟨by decide,hs⟩,?_⟩⟩
 ·unfold R8;rw[h];rfl
 ·unfold R8;rw[h];rfl
def ownL : List (List UInt8) := ["X", "Y", "F", "G", "self", "arg"].map asc ++ (primL.drop 1 ++ opL.drop 1)
theorem Bln(s:List UInt8):R8 s=ownL.contains s:=by
 have h1:∀x∈resL++sgnL,ownL.contains x=true:=by decide +kernel
 have h2:∀x∈ownL,(resL++sgnL).contains x=true:=by decide +kernel
 unfold R8
 rw[<- List.contains_append]
 cases h:(resL++sgnL).contains s with
 |true=>exact (h1 s (by simpa using h)).symm
 |false =>
  cases h':ownL.contains s with
  |true=>rw[h2 s (by simpa using h')] at h;cases h
  |false=>rfl
theorem Bg9(s:List UInt8):s∈primL.drop 1↔∃q:Nat,1<=q/\q<56/\EF q=s:=by
 have e:∀q,1<=q->q<56->EF ((q:Nat):Int)=(primL.drop 1).getD (q-1) []:=fun q h1 h2=>by
  unfold EF
  rw[if_neg (by omega),Int.toNat_natCast]
  simp[List.getD_eq_getElem?_getD,show q-1+1=q by omega]
 have hl:(primL.drop 1).length=55:=by decide +kernel
 constructor
 ·intro h
  obtain ⟨i,hi,rfl⟩:=List.getElem_of_mem h
  exact⟨i+1,by omega,by omega,by rw[e _ (by omega) (by omega)];simp only[Nat.add_sub_cancel];simp only[List.getD_eq_getElem?_getD,List.getElem?_eq_getElem hi,Option.getD_some]⟩
 ·rintro ⟨q,h1,h2,rfl⟩
  rw[e q h1 h2]
  have:q-1<(primL.drop 1).length:=by omega
  rw[List.getD_eq_getElem?_getD,List.getElem?_eq_getElem this]
  exact List.getElem_mem this
theorem BkG(s:List UInt8):s∈opL.drop 1↔∃q:Nat,1<=q/\q<12/\opT q=s:=by
 have e:∀q,1<=q->q<12->opT ((q:Nat):Int)=(opL.drop 1).getD (q-1) []:=fun q h1 h2=>by
  unfold opT
  rw[if_neg (by omega),Int.toNat_natCast]
  simp[List.getD_eq_getElem?_getD,show q-1+1=q by omega]
 have hl:(opL.drop 1).length=11:=by decide +kernel
 constructor
 ·intro h
  obtain ⟨i,hi,rfl⟩:=List.getElem_of_mem h
  exact⟨i+1,by omega,by omega,by rw[e _ (by omega) (by omega)];simp only[Nat.add_sub_cancel];simp only[List.getD_eq_getElem?_getD,List.getElem?_eq_getElem hi,Option.getD_some]⟩
 ·rintro ⟨q,h1,h2,rfl⟩
  rw[e q h1 h2]
  have:q-1<(opL.drop 1).length:=by omega
  rw[List.getD_eq_getElem?_getD,List.getElem?_eq_getElem this]
  exact List.getElem_mem this
theorem Bde(s : List UInt8)(h32 : s.length ≤ 32)(hp : Tc s = true) : Cb s = true ↔ (s ≠ asc "self" ∧ s ≠ asc "arg" ∧ (∀ q : Nat, 1 ≤ q → q < 56 → EF q ≠ s) ∧ ∀ q : Nat, 1 ≤ q → q < 12 → opT q ≠ s) := by
 have hx : ∀ x ∈ ["X", "Y", "F", "G"].map asc, Tc x = false := by decide +kernel
 unfold Cb
 rw[hp,decide_eq_true h32,Bln]
 have hs : s ∈ ownL ↔ (s = asc "self" ∨ s = asc "arg" ∨ s ∈ primL.drop 1 ∨ s ∈ opL.drop 1) := by
  unfold ownL
  rw[List.mem_append,List.mem_append]
  constructor
  ·rintro (h | h)
   ·simp only[List.map_cons,List.map_nil,List.mem_cons,List.not_mem_nil,or_false] at h
    rcases h with h | h | h | h | h | h
    ·rw[hx s (by rw[h];simp)] at hp;cases hp
    ·rw[hx s (by rw[h];simp)] at hp;cases hp
    ·rw[hx s (by rw[h];simp)] at hp;cases hp
    ·rw[hx s (by rw[h];simp)] at hp;cases hp
    ·exact .inl h
    ·exact .inr (.inl h)
   ·exact .inr (.inr h)
  ·rintro (h | h | h)
   ·rw[h];exact .inl (by simp)
   ·rw[h];exact .inl (by simp)
   ·exact .inr h
 rw[Bg9,BkG] at hs
 simp only[Bool.true_and,Bool.not_eq_true',List.contains_eq_mem,decide_eq_false_iff_not]
 rw[hs]
 constructor
 ·intro h
  exact⟨fun e=>h (.inl e),fun e=>h (.inr (.inl e)),fun q h1 h2 e=>h (.inr (.inr (.inl ⟨q,h1,h2,e⟩))),fun q h1 h2 e=>h (.inr (.inr (.inr ⟨q,h1,h2,e⟩)))⟩
 ·rintro ⟨h1,h2,h3,h4⟩ (h | h | ⟨q,q1,q2,q3⟩ | ⟨q,q1,q2,q3⟩)
  ·exact h1 h
  ·exact h2 h
  ·exact h3 q q1 q2 q3
  ·exact h4 q q1 q2 q3
def BdW:Con:=fun k ds _=>match k with
 |102=>match ds with
  | [.int .i64 p]=>some (pC [.int .i64 p] (.str (EF p)) True)
  |_=>none
 |103=>match ds with
  | [.int .i64 p]=>some (pC [.int .i64 p] (.str (opT p)) True)
  |_=>none
 |112=>match ds with
  | [.str s]=>some (pC [.str s] (.bool (R8 s)) (s.length<=BX))
  |_=>none
 |_=>none
theorem Bay:ConOk Tryz.prog BdW:=by
 intro k ds S A h
 unfold BdW at h
 split at h
 ·split at h
  ·injection h with h;subst h
   exact C4 fun _=>⟨Bo _,BlQ _⟩
  ·cases h
 ·split at h
  ·injection h with h;subst h
   exact C4 fun _=>⟨Bo _,BlK _⟩
  ·cases h
 ·split at h
  ·injection h with h;subst h
   exact C4 fun h1=>⟨Bo _,Bk6 _ h1⟩
  ·cases h
 ·cases h
def Mp(b:UInt8):Bool:=low b||dig b
theorem TC(b:UInt8):Mp b=true↔((97<=b.toNat/\b.toNat<=122)\/(48<=b.toNat/\b.toNat<=57)):=by
 unfold Mp low dig
 simp only[Bool.or_eq_true,Bool.and_eq_true,decide_eq_true_eq]
theorem I8(s:List UInt8):Tc s=true↔s≠[]/\low (s.getD 0 0)=true/\s.all Mp=true:=by
 unfold Tc
 simp only[Bool.and_eq_true,Bool.not_eq_true',List.isEmpty_eq_false_iff,and_assoc]
 exact Iff.rfl
theorem Bkv{s:List UInt8}(h:s.all Mp=true){i:Nat}(hi:i<s.length):Mp (s.getD i 0)=true:=by
 rw[List.getD_eq_getElem?_getD,List.getElem?_eq_getElem hi]
 exact List.all_eq_true.1 h _ (List.getElem_mem hi)
theorem Rz{s:List UInt8}{x:Nat}(hx:x<s.length)(h1:(s.take x).all Mp=true)(h2:Mp (s.getD x 0)=true):(s.take (x+1)).all Mp=true:=by
 have e:s.take (x+1)=s.take x++[s.getD x 0]:=by
  rw[List.take_add_one,List.getElem?_eq_getElem hx,List.getD_eq_getElem?_getD,List.getElem?_eq_getElem hx];rfl
 rw[e,List.all_append,h1,List.all_cons,h2];rfl
theorem B5{s:List UInt8}(h:Cb s=true):s≠[]/\s.length<=32/\s≠[115,101,108,102]/\s≠[97,114,103]/\(97<=(s.getD 0 0).toNat/\(s.getD 0 0).toNat<=122)/\(∀i,i<s.length->((97<=(s.getD i 0).toNat/\(s.getD i 0).toNat<=122)\/(48<=(s.getD i 0).toNat/\(s.getD i 0).toNat<=57)))/\(∀q:Nat,1<=q->q<56->EF q≠s)/\∀q:Nat,1<=q->q<12->opT q≠s:=by
 have h0:=h
 unfold Cb at h
 simp only[Bool.and_eq_true,decide_eq_true_eq] at h
 obtain ⟨⟨hp,h32⟩,_⟩:=h
 obtain ⟨h1,h2,h3,h4⟩:=(Bde s h32 hp).1 h0
 obtain ⟨p1,p2,p3⟩:=(I8 s).1 hp
 have e1 : asc "self" = [115, 101, 108, 102] := by decide +kernel
 have e2 : asc "arg" = [97, 114, 103] := by decide +kernel
 rw[e1] at h1
 rw[e2] at h2
 unfold low at p2
 simp only[Bool.and_eq_true,decide_eq_true_eq] at p2
 exact⟨p1,h32,h1,h2,p2,fun i hi=>(TC _).1 (Bkv p3 hi),h3,h4⟩
theorem Bi0{s:List UInt8}(h1:s≠[])(h2:s.length<=32)(h3:s≠[115,101,108,102])(h4:s≠[97,114,103])(h5:97<=(s.getD 0 0).toNat/\(s.getD 0 0).toNat<=122)(h6:s.all Mp=true)(h7:∀q:Nat,1<=q->q<56->EF q≠s)(h8:∀q:Nat,1<=q->q<12->opT q≠s):Cb s=true:=by
 have e1 : asc "self" = [115, 101, 108, 102] := by decide +kernel
 have e2 : asc "arg" = [97, 114, 103] := by decide +kernel
 refine (Bde s h2 ((I8 s).2 ⟨h1,?_,h6⟩)).2 ⟨by rw[e1];exact h3,by rw[e2];exact h4,h7,h8⟩
 unfold low
 simp only[Bool.and_eq_true,decide_eq_true_eq]
 exact h5
theorem Cd{s:List UInt8}(h:Cb s=true->False):false=Cb s:=by
 cases e:Cb s with
 |false=>rfl
 |true=>exact (h e).elim
noncomputable def Ein(s:List UInt8):Senv:={ EC BdW 75 1 [2,3,4,5,30,32,33,34,57,60,66,68,74] (fun _=>([],[])) with
 mg:=fun _=>2
 ann:=fun b _ S=>match b with
  |0=>some { slots:=[33],keep:=[0,32],α:=Nat,st:=fun y=>([.int .i64 y],S),inv:=fun y=>y<=s.length/\(s.take y).all Mp=true,mu:=fun y=>s.length-y }
  |2=>some { slots:=[4],keep:=[0],α:=Nat,st:=fun y=>([.int .i64 y],S),inv:=fun y=>1<=y/\y<=56/\∀q:Nat,1<=q->q<y->EF q≠s,mu:=fun y=>56-y }
  |4=>some { slots:=[5],keep:=[0],α:=Nat,st:=fun y=>([.int .i64 y],S),inv:=fun y=>1<=y/\y<=12/\∀q:Nat,1<=q->q<y->opT q≠s,mu:=fun y=>12-y }
  |_=>none }
def Yj(a:List UInt8):Prop:=True/\∃(_y:Unit),True/\false=Cb a/\True/\True
def Qrl(a:Nat)(b:List UInt8):Prop:=a<=LN b/\List.all (List.take a b) Mp=true
def QmU(a:List UInt8)(b:Nat):Int:=(BI a (Int.toNat (↑b:Int)))
def Qrm(a b:Nat):Prop:=(IntKind.wrap IntKind.i64 ((↑a:Int)+Z1)=(↑b:Int)/\True)/\True/\True
def QvN(a:List UInt8)(b:Nat):Prop:=(SM (D.str a)/\SM (ZI (LI a))/\True)/\∃(y:Nat),Qrl y a/\LN a-y<LN a-b/\Qrm b y
def QvO(a:Nat)(b:List UInt8):Prop:=Bf (Z0<=(↑a:Int)/\(↑a:Int)<(LI b)) (ifB (decide (QmU b a<48)) (Yj b) (Bf (Z0<=(↑a:Int)/\(↑a:Int)<(LI b)) (ifB (decide ((57:Int)<QmU b a)) (Yj b) (QvN b a))))
def Qrn(a:Nat)(b:List UInt8):Prop:=N1<=a/\a<=56/\∀(q:Nat),N1<=q->q<a->EF (↑q:Int)≠b
def Qro(a:Nat)(b:List UInt8):Prop:=N1<=a/\a<=12/\∀(q:Nat),N1<=q->q<a->opT (↑q:Int)≠b
theorem BlA(s:List UInt8):ACalls Tryz.prog 69 [.str s] ⟨[],[]⟩ (SpecR (sC [.str s] (.bool (Cb s))) ()):=by
 refine Bh (A:=sC _ _) (x:=()) (E:=Ein s) (eOk Bay rfl) Tryz.func69 rfl (by kernel_rfl) rfl (by simp[sC,Ein,EC,E0]) ?_
 refine Bl (T :=
  ifB (s==[]) (Yj s) (ifB (decide ((32:Int)<(LI s))) (Yj s) (ifB (s==[(115:UInt8),(101:UInt8),(108:UInt8),(102:UInt8)]) (Yj s) (ifB (s==[(97:UInt8),(114:UInt8),(103:UInt8)]) (Yj s) (Bf (Z0<=Z0/\Z0<(LI s)) (ifB (decide ((BI s N0)<97)) (Yj s) (Bf (Z0<=Z0/\Z0<(LI s)) (ifB (decide ((122:Int)<(BI s N0))) (Yj s) ((∃(x:Nat),Qrl x s/\(Z0=(↑x:Int)/\True)/\True/\True)/\∀(x:Nat),Qrl x s->ifB (decide ((↑x:Int)<(LI s))) (Bf (Z0<=(↑x:Int)/\(↑x:Int)<(LI s)) (ifB (decide (QmU s x<97)) (QvO x s) (Bf (Z0<=(↑x:Int)/\(↑x:Int)<(LI s)) (ifB (decide ((122:Int)<QmU s x)) (QvO x s) (QvN s x))))) ((∃(x:Nat),Qrn x s/\(Z1=(↑x:Int)/\True)/\True/\True)/\∀(x:Nat),Qrn x s->ifB (decide ((↑x:Int)<=55)) (True/\∀(y:Unit),True->ifB (EF (↑x:Int)==s) (Yj s) ((SM (D.str s)/\True)/\∃(y:Nat),Qrn y s/\(56:Nat)-y<56-x/\Qrm x y)) ((∃(x:Nat),Qro x s/\(Z1=(↑x:Int)/\True)/\True/\True)/\∀(x:Nat),Qro x s->ifB (decide ((↑x:Int)<=11)) (True/\∀(y:Unit),True->ifB (opT (↑x:Int)==s) (Yj s) ((SM (D.str s)/\True)/\∃(y:Nat),Qro y s/\(12:Nat)-y<12-x/\Qrm x y)) (RT (true=Cb s))))))))))))) (by kernel_rfl) ?_
 delta BI LI LN N0 N1 SM U0 Z0 Z1 ZI Yj Qrl QmU Qrm QvN QvO Qrn Qro RT
 simp only[eq_self,ne_eq,Int.toNat_natCast,Bg,Be,decide_eq_true_eq,decide_eq_false_iff_not,true_and,and_true,beq_iff_eq,beq_eq_false_iff_ne,exists_const,forall_const]
 refine⟨fun h=>Cd fun e=>(B5 e).1 h,fun k1=>⟨fun h=>Cd fun e=>by have:=(B5 e).2.1;omega,fun k2=>⟨fun h=>Cd fun e=>(B5 e).2.2.1 h,fun k3=>⟨fun h=>Cd fun e=>(B5 e).2.2.2.1 h,fun k4=>?_⟩⟩⟩⟩
 have hl:0<s.length:=List.length_pos_iff.2 k1
 refine⟨⟨by omega,by omega⟩,fun h=>Cd fun e=>by have:=(B5 e).2.2.2.2.1;omega,fun k5=>⟨⟨by omega,by omega⟩,fun h=>Cd fun e=>by have:=(B5 e).2.2.2.2.1;omega,fun k6=>⟨⟨0,⟨Nat.zero_le _,rfl⟩,rfl⟩,fun x ⟨hx,ht⟩=>⟨fun hlt=>?_,fun hge=>?_⟩⟩⟩⟩
 ·have hx':x<s.length:=by omega
  have w:IntKind.i64.wrap ((x:Int)+1)=((x+1:Nat):Int):=by rw[Bb (by omega) (by omega)];rfl
  have go:((97<=(s.getD x 0).toNat/\(s.getD x 0).toNat<=122)\/(48<=(s.getD x 0).toNat/\(s.getD x 0).toNat<=57))->∃y,(y<=s.length/\(List.take y s).all Mp=true)/\s.length-y<s.length-x/\IntKind.i64.wrap ((x:Int)+1)=(y:Int):=fun hc =>
   ⟨x+1,⟨hx',Rz hx' ht ((TC _).2 hc)⟩,by omega,w⟩
  have no:¬((97<=(s.getD x 0).toNat/\(s.getD x 0).toNat<=122)\/(48<=(s.getD x 0).toNat/\(s.getD x 0).toNat<=57))->false=Cb s:=fun hc=>Cd fun e=>hc ((B5 e).2.2.2.2.2.1 x hx')
  exact⟨⟨by omega,by omega⟩,fun a1=>⟨⟨by omega,by omega⟩,fun a2=>no (by omega),fun a2=>⟨⟨by omega,by omega⟩,fun a3=>no (by omega),fun a3=>go (by omega)⟩⟩,
   fun a1=>⟨⟨by omega,by omega⟩,fun a2=>⟨⟨by omega,by omega⟩,fun a3=>no (by omega),fun a3=>⟨⟨by omega,by omega⟩,fun a4=>no (by omega),fun a4=>go (by omega)⟩⟩,fun a2=>go (by omega)⟩⟩
 ·have hall:s.all Mp=true:=by
   have:x=s.length:=by omega
   rwa [this,List.take_length] at ht
  refine⟨⟨1,⟨Nat.le_refl _,by omega,fun q h1 h2=>by omega⟩,rfl⟩,fun y ⟨y1,y2,y3⟩=>⟨fun hy=>⟨fun e=>Cd fun e'=>(B5 e').2.2.2.2.2.2.1 y y1 (by omega) e,fun e=>⟨y+1,⟨by omega,by omega,fun q h1 h2=>?_⟩,by omega,by rw[Bb (by omega) (by omega)];rfl⟩⟩,
   fun hy=>⟨⟨1,⟨Nat.le_refl _,by omega,fun q h1 h2=>by omega⟩,rfl⟩,fun z ⟨z1,z2,z3⟩=>⟨fun hz=>⟨fun e=>Cd fun e'=>(B5 e').2.2.2.2.2.2.2 z z1 (by omega) e,fun e=>⟨z+1,⟨by omega,by omega,fun q h1 h2=>?_⟩,by omega,by rw[Bb (by omega) (by omega)];rfl⟩⟩,fun hz=>?_⟩⟩⟩⟩
  ·by_cases e':q=y
   ·rw[e'];exact e
   ·exact y3 q h1 (by omega)
  ·by_cases e':q=z
   ·rw[e'];exact e
   ·exact z3 q h1 (by omega)
  ·exact (Bi0 k1 (by omega) k3 k4 ⟨by omega,by omega⟩ hall (fun q h1 h2=>y3 q h1 (by omega)) fun q h1 h2=>z3 q h1 (by omega)).symm
def Iv(vk:Int)(sh nu it:Nat):Bool:=vk==0&&(sh==0)&&(nu==0)&&(it==0)
def BP(kd at_:Int)(tx:List UInt8)(pr op vk:Int)(sh nu it bo:Nat)(de sl ss k:Int):Bool :=
 kd==k&&decide (0<=at_)&&decide (0<=de)&&decide (0<=sl)&&decide (0<=ss)&&(tx.isEmpty||k==2)&&(pr==0||k==9)&&(op==0||k==17)&&(Iv vk sh nu it||k==1)&&((bo==0)||k==10)
def GE(kd at_ cl:Int)(tx:List UInt8)(pr op vk:Int)(sh nu it ki bo:Nat)(de sl ss:Int):Bool:=kd==0&&at_==0&&cl==0&&de==0&&sl==0&&ss==0&&BP kd at_ tx pr op vk sh nu it bo de sl ss 0&&(ki==0)
theorem Bdr{α:Type}(l:List α):(l.length==0)=l.isEmpty:=by cases l<;>rfl
theorem BcX(n:Nd)(k:Int):BP n.kd n.at_ n.tx n.pr n.op n.va.k n.va.sh.length n.va.nu.length n.va.it.length n.bo.length n.de n.sl n.ss k=ED n k:=by
 unfold BP ED Iv Gn
 simp[Bdr]
theorem Bhn(n:Nd):GE n.kd n.at_ n.cl n.tx n.pr n.op n.va.k n.va.sh.length n.va.nu.length n.va.it.length n.ki.length n.bo.length n.de n.sl n.ss=B4 n:=by
 unfold GE B4
 rw[BcX]
 simp[Bdr]
def ndC(kd at_ cl:Int)(tx:List UInt8)(pr op vk:Int)(sh nu it ki bo:Nat)(f1 f2 f3 f4 f5:Nat->List D)(de sl ss:Int):List D :=
 [.int .i64 kd,.int .i64 at_,.int .i64 cl,.str tx,.int .i64 pr,.int .i64 op,.int .i64 vk,.sl 1 sh f1 .any,.sl 1 nu f2 .any,.sl 4 it f3 .any,.sl 15 ki f4 .any,.sl 34 bo f5 .any,.int .i64 de,.int .i64 sl,.int .i64 ss]
noncomputable def Eiz:Senv:=EC CK 24 3 [] (fun _=>([],[]))
def QcJ(a:Nat):Bool:=(↑a:Int)==Z0
def Qrp(a:Int)(b c d:Nat):Bool:=bif bif bif a==Z0 then QcJ b else false then QcJ c else false then QcJ d else false
def Qrq(a:Int)(b c d:Nat):Prop:=false=Qrp a b c d/\True
theorem BmU(vk:Int)(sh nu it:Nat)(f1 f2 f3:Nat->List D):CD 123 [.agg [.int .i64 vk,.sl 1 sh f1 .any,.sl 1 nu f2 .any,.sl 4 it f3 .any]] (.bool (Iv vk sh nu it)):=by
 refine Bh (A:=sC _ _) (x:=()) (E:=Eiz) (eOk BE rfl) Tryz.func123 rfl (by kernel_rfl) rfl (by simp[sC,Eiz,EC,E0]) ?_
 refine Bl (T :=
  ∀(x:Nat),True->(SM x/\ifB (vk==Z0) (SM x/\ifB (QcJ sh) (SM x/\ifB (QcJ nu) (SM x/\QcJ it=Qrp vk sh nu it/\True) (Qrq vk sh nu it)) (Qrq vk sh nu it)) (Qrq vk sh nu it))/\RT (Qrp vk sh nu it=Iv vk sh nu it)) (by kernel_rfl) ?_
 delta SM Z0 QcJ Qrp Qrq RT
 have z:∀n:Nat,((n:Int)==0)=(n==0):=fun n=>by
  rw[Bool.eq_iff_iff,beq_iff_eq,beq_iff_eq];omega
 simp only[z]
 unfold Iv
 generalize (vk==0)=a
 generalize (sh==0)=b
 generalize (nu==0)=c
 generalize (it==0)=d
 intro x _
 cases a<;>cases b<;>cases c<;>cases d<;>simp[Bg]
def BgI:Con:=fun k ds _=>match k with
 |123=>match ds with
  | [.agg [.int .i64 vk,.sl 1 sh _ _,.sl 1 nu _ _,.sl 4 it _ _]]=>some (pC ds (.bool (Iv vk sh nu it)) True)
  |_=>none
 |_=>none
theorem Bdc:ConOk Tryz.prog BgI:=by
 intro k ds S A h
 unfold BgI at h
 split at h
 ·split at h
  ·injection h with h;subst h
   rename_i vk sh f1 _ nu f2 _ it f3 _
   exact C4 fun _=>⟨Bo _,CU (us:=[.agg [.int .i64 vk,.sl 1 sh f1 .any,.sl 1 nu f2 .any,.sl 4 it f3 .any]]) (by simp[BS,Br,Ba,BG,kEq]) (BmU _ _ _ _ _ _ _)⟩
  ·cases h
 ·cases h
noncomputable def Eol:Senv:=EC BgI 75 3 [4] (fun _=>([],[]))
theorem Blv(kd at_ cl : Int)(tx : List UInt8)(pr op vk : Int)(sh nu it ki bo : Nat)(f1 f2 f3 f4 f5 : Nat -> List D)(de sl ss k : Int) :
  ACalls Tryz.prog 97 [.agg (ndC kd at_ cl tx pr op vk sh nu it ki bo f1 f2 f3 f4 f5 de sl ss),.int .i64 k] ⟨[],[]⟩ (SpecR (sC [.agg (ndC kd at_ cl tx pr op vk sh nu it ki bo f1 f2 f3 f4 f5 de sl ss),.int .i64 k] (.bool (BP kd at_ tx pr op vk sh nu it bo de sl ss k))) ()):=by
 refine Bh (A:=sC _ _) (x:=()) (E:=Eol) (eOk Bdc rfl) Tryz.func97 rfl (by kernel_rfl) rfl (by simp[sC,Eol,EC,E0]) ?_
 refine Bl (T :=
  ∀(x:Nat),True->SM x/\ifB (kd==k) (SM x/\ifB (decide (Z0<=at_)) (SM x/\ifB (decide (Z0<=de)) (SM x/\ifB (decide (Z0<=sl)) (SM x/\ifB (decide (Z0<=ss)) (SM x/\ifB (tx==[]) (SM x/\ifB (pr==Z0) (SM x/\ifB (op==Z0) (SM x/\True/\∀(y:Unit),True->ifB (Iv vk sh nu it) (SM x/\ifB ((↑bo:Int)==Z0) (RT (true=BP kd at_ tx pr op vk sh nu it bo de sl ss k)) (RT ((k==10)=BP kd at_ tx pr op vk sh nu it bo de sl ss k))) (ifB (k==Z1) (SM x/\ifB ((↑bo:Int)==Z0) (RT (true=BP kd at_ tx pr op vk sh nu it bo de sl ss k)) (RT ((k==10)=BP kd at_ tx pr op vk sh nu it bo de sl ss k))) (RT (false=BP kd at_ tx pr op vk sh nu it bo de sl ss k)))) (ifB (k==17) (SM x/\True/\∀(y:Unit),True->ifB (Iv vk sh nu it) (SM x/\ifB ((↑bo:Int)==Z0) (RT (true=BP kd at_ tx pr op vk sh nu it bo de sl ss k)) (RT ((k==10)=BP kd at_ tx pr op vk sh nu it bo de sl ss k))) (ifB (k==Z1) (SM x/\ifB ((↑bo:Int)==Z0) (RT (true=BP kd at_ tx pr op vk sh nu it bo de sl ss k)) (RT ((k==10)=BP kd at_ tx pr op vk sh nu it bo de sl ss k))) (RT (false=BP kd at_ tx pr op vk sh nu it bo de sl ss k)))) (RT (false=BP kd at_ tx pr op vk sh nu it bo de sl ss k)))) (ifB (k==9) (SM x/\ifB (op==Z0) (SM x/\True/\∀(y:Unit),True->ifB (Iv vk sh nu it) (SM x/\ifB ((↑bo:Int)==Z0) (RT (true=BP kd at_ tx pr op vk sh nu it bo de sl ss k)) (RT ((k==10)=BP kd at_ tx pr op vk sh nu it bo de sl ss k))) (ifB (k==Z1) (SM x/\ifB ((↑bo:Int)==Z0) (RT (true=BP kd at_ tx pr op vk sh nu it bo de sl ss k)) (RT ((k==10)=BP kd at_ tx pr op vk sh nu it bo de sl ss k))) (RT (false=BP kd at_ tx pr op vk sh nu it bo de sl ss k)))) (ifB (k==17) (SM x/\True/\∀(y:Unit),True->ifB (Iv vk sh nu it) (SM x/\ifB ((↑bo:Int)==Z0) (RT (true=BP kd at_ tx pr op vk sh nu it bo de sl ss k)) (RT ((k==10)=BP kd at_ tx pr op vk sh nu it bo de sl ss k))) (ifB (k==Z1) (SM x/\ifB ((↑bo:Int)==Z0) (RT (true=BP kd at_ tx pr op vk sh nu it bo de sl ss k)) (RT ((k==10)=BP kd at_ tx pr op vk sh nu it bo de sl ss k))) (RT (false=BP kd at_ tx pr op vk sh nu it bo de sl ss k)))) (RT (false=BP kd at_ tx pr op vk sh nu it bo de sl ss k)))) (RT (false=BP kd at_ tx pr op vk sh nu it bo de sl ss k)))) (ifB (k==2) (SM x/\ifB (pr==Z0) (SM x/\ifB (op==Z0) (SM x/\True/\∀(y:Unit),True->ifB (Iv vk sh nu it) (SM x/\ifB ((↑bo:Int)==Z0) (RT (true=BP kd at_ tx pr op vk sh nu it bo de sl ss k)) (RT ((k==10)=BP kd at_ tx pr op vk sh nu it bo de sl ss k))) (ifB (k==Z1) (SM x/\ifB ((↑bo:Int)==Z0) (RT (true=BP kd at_ tx pr op vk sh nu it bo de sl ss k)) (RT ((k==10)=BP kd at_ tx pr op vk sh nu it bo de sl ss k))) (RT (false=BP kd at_ tx pr op vk sh nu it bo de sl ss k)))) (ifB (k==17) (SM x/\True/\∀(y:Unit),True->ifB (Iv vk sh nu it) (SM x/\ifB ((↑bo:Int)==Z0) (RT (true=BP kd at_ tx pr op vk sh nu it bo de sl ss k)) (RT ((k==10)=BP kd at_ tx pr op vk sh nu it bo de sl ss k))) (ifB (k==Z1) (SM x/\ifB ((↑bo:Int)==Z0) (RT (true=BP kd at_ tx pr op vk sh nu it bo de sl ss k)) (RT ((k==10)=BP kd at_ tx pr op vk sh nu it bo de sl ss k))) (RT (false=BP kd at_ tx pr op vk sh nu it bo de sl ss k)))) (RT (false=BP kd at_ tx pr op vk sh nu it bo de sl ss k)))) (ifB (k==9) (SM x/\ifB (op==Z0) (SM x/\True/\∀(y:Unit),True->ifB (Iv vk sh nu it) (SM x/\ifB ((↑bo:Int)==Z0) (RT (true=BP kd at_ tx pr op vk sh nu it bo de sl ss k)) (RT ((k==10)=BP kd at_ tx pr op vk sh nu it bo de sl ss k))) (ifB (k==Z1) (SM x/\ifB ((↑bo:Int)==Z0) (RT (true=BP kd at_ tx pr op vk sh nu it bo de sl ss k)) (RT ((k==10)=BP kd at_ tx pr op vk sh nu it bo de sl ss k))) (RT (false=BP kd at_ tx pr op vk sh nu it bo de sl ss k)))) (ifB (k==17) (SM x/\True/\∀(y:Unit),True->ifB (Iv vk sh nu it) (SM x/\ifB ((↑bo:Int)==Z0) (RT (true=BP kd at_ tx pr op vk sh nu it bo de sl ss k)) (RT ((k==10)=BP kd at_ tx pr op vk sh nu it bo de sl ss k))) (ifB (k==Z1) (SM x/\ifB ((↑bo:Int)==Z0) (RT (true=BP kd at_ tx pr op vk sh nu it bo de sl ss k)) (RT ((k==10)=BP kd at_ tx pr op vk sh nu it bo de sl ss k))) (RT (false=BP kd at_ tx pr op vk sh nu it bo de sl ss k)))) (RT (false=BP kd at_ tx pr op vk sh nu it bo de sl ss k)))) (RT (false=BP kd at_ tx pr op vk sh nu it bo de sl ss k)))) (RT (false=BP kd at_ tx pr op vk sh nu it bo de sl ss k)))) (RT (false=BP kd at_ tx pr op vk sh nu it bo de sl ss k))) (RT (false=BP kd at_ tx pr op vk sh nu it bo de sl ss k))) (RT (false=BP kd at_ tx pr op vk sh nu it bo de sl ss k))) (RT (false=BP kd at_ tx pr op vk sh nu it bo de sl ss k))) (RT (false=BP kd at_ tx pr op vk sh nu it bo de sl ss k))) (by kernel_rfl) ?_
 delta SM Z0 Z1 RT
 have z:∀n:Nat,((n:Int)==0)=(n==0):=fun n=>by
  rw[Bool.eq_iff_iff,beq_iff_eq,beq_iff_eq];omega
 have e:(tx==[])=tx.isEmpty:=by cases tx<;>rfl
 unfold BP
 simp only[z,e]
 generalize (kd==k)=a1
 generalize decide (0<=at_)=a2
 generalize decide (0<=de)=a3
 generalize decide (0<=sl)=a4
 generalize decide (0<=ss)=a5
 generalize tx.isEmpty=a6
 generalize (k==2)=a7
 generalize (pr==0)=a8
 generalize (k==9)=a9
 generalize (op==0)=b1
 generalize (k==17)=b2
 generalize Iv vk sh nu it=b3
 generalize (k==1)=b4
 generalize (bo==0)=b5
 generalize (k==10)=b6
 simp only[Bg,true_and,and_true,exists_const,forall_const]
 repeat' (first | refine And.intro ?_ ?_ | intro _)
 all_goals subst_vars
 all_goals simp only[Bool.true_and,Bool.and_true,Bool.false_and,Bool.and_false,Bool.true_or,Bool.false_or,Bool.or_true,Bool.or_false]
def Biu:Con:=fun k ds S=>match k with
 |97=>match ds with
  | [.agg [.int .i64 kd,.int .i64 at_,.int .i64 _,.str tx,.int .i64 pr,.int .i64 op,.int .i64 vk,.sl 1 sh _ _,.sl 1 nu _ _,.sl 4 it _ _,.sl 15 _ _ _,.sl 34 bo _ _,.int .i64 de,.int .i64 sl,.int .i64 ss],.int .i64 k]=>some (pC ds (.bool (BP kd at_ tx pr op vk sh nu it bo de sl ss k)) True)
  |_=>none
 |k=>BgI k ds S
theorem Bl7(kd at_ cl : Int)(tx : List UInt8)(pr op vk : Int)(sh nu it ki bo : Nat)(f1 f2 f3 f4 f5 : Nat -> List D)(m1 m2 m3 m4 m5 : Ab.Mode)(de sl ss : Int)(ex : List D) :
  BS (.agg [.int .i64 kd,.int .i64 at_,.int .i64 cl,.str tx,.int .i64 pr,.int .i64 op,.int .i64 vk,.sl 1 sh f1 m1,.sl 1 nu f2 m2,.sl 4 it f3 m3,.sl 15 ki f4 m4,.sl 34 bo f5 m5,.int .i64 de,.int .i64 sl,.int .i64 ss]::ex) (.agg (ndC kd at_ cl tx pr op vk sh nu it ki bo f1 f2 f3 f4 f5 de sl ss)::ex):=by
 refine⟨?_,Bo _⟩
 simp[ndC,BS,Br,Ba,BG,kEq]
theorem Bjt:ConOk Tryz.prog Biu:=by
 intro k ds S A h
 unfold Biu at h
 split at h
 ·split at h
  ·injection h with h;subst h
   exact C4 fun _=>⟨Bo _,CU (Bl7 _ _ _ _ _ _ _ _ _ _ _ _ _ _ _ _ _ _ _ _ _ _ _ _ _ _) (Blv _ _ _ _ _ _ _ _ _ _ _ _ _ _ _ _ _ _ _ _ _)⟩
  ·cases h
 ·exact Bdc _ _ _ _ h
noncomputable def Eem:Senv:=EC Biu 41 3 [] (fun _=>([],[]))
theorem Bnj(kd at_ cl : Int)(tx : List UInt8)(pr op vk : Int)(sh nu it ki bo : Nat)(f1 f2 f3 f4 f5 : Nat -> List D)(de sl ss : Int) :
  ACalls Tryz.prog 68 [.agg (ndC kd at_ cl tx pr op vk sh nu it ki bo f1 f2 f3 f4 f5 de sl ss)] ⟨[],[]⟩ (SpecR (sC [.agg (ndC kd at_ cl tx pr op vk sh nu it ki bo f1 f2 f3 f4 f5 de sl ss)] (.bool (GE kd at_ cl tx pr op vk sh nu it ki bo de sl ss))) ()):=by
 refine Bh (A:=sC _ _) (x:=()) (E:=Eem) (eOk Bjt rfl) Tryz.func68 rfl (by kernel_rfl) rfl (by simp[sC,Eem,EC,E0]) ?_
 refine Bl (T :=
  ∀(x:Nat),True->SM x/\ifB (kd==Z0) (SM x/\ifB (at_==Z0) (SM x/\ifB (cl==Z0) (SM x/\ifB (de==Z0) (SM x/\ifB (sl==Z0) (SM x/\ifB (ss==Z0) (SM x/\True/\∀(y:Unit),True->ifB (BP kd at_ tx pr op vk sh nu it bo de sl ss Z0) (SM x/\RT (((↑ki:Int)==Z0)=GE kd at_ cl tx pr op vk sh nu it ki bo de sl ss)) (RT (false=GE kd at_ cl tx pr op vk sh nu it ki bo de sl ss))) (RT (false=GE kd at_ cl tx pr op vk sh nu it ki bo de sl ss))) (RT (false=GE kd at_ cl tx pr op vk sh nu it ki bo de sl ss))) (RT (false=GE kd at_ cl tx pr op vk sh nu it ki bo de sl ss))) (RT (false=GE kd at_ cl tx pr op vk sh nu it ki bo de sl ss))) (RT (false=GE kd at_ cl tx pr op vk sh nu it ki bo de sl ss))) (RT (false=GE kd at_ cl tx pr op vk sh nu it ki bo de sl ss))) (by kernel_rfl) ?_
 delta SM Z0 RT
 have z:∀n:Nat,((n:Int)==0)=(n==0):=fun n=>by
  rw[Bool.eq_iff_iff,beq_iff_eq,beq_iff_eq];omega
 unfold GE
 simp only[z]
 generalize (kd==0)=a1
 generalize (at_==0)=a2
 generalize (cl==0)=a3
 generalize (de==0)=a4
 generalize (sl==0)=a5
 generalize (ss==0)=a6
 generalize (ki==0)=a8
 generalize BP _ _ _ _ _ _ _ _ _ _ _ _ _ _=a7
 simp only[Bg,true_and,and_true,exists_const,forall_const]
 repeat' (first | refine And.intro ?_ ?_ | intro _)
 all_goals subst_vars
 all_goals simp only[Bool.true_and,Bool.and_true,Bool.false_and,Bool.and_false]
noncomputable def Enum:Senv:=EC CK 9 1 [2] (fun _=>([],[]))
def Qrr(a:Int):Bool:=bif decide ((-4611686018427387903:Int)<=a) then decide (a<=4611686018427387903) else false
theorem Bmx(z:Int):ACalls Tryz.prog 138 [.int .i64 z] ⟨[],[]⟩ (SpecR (sC [.int .i64 z] (.bool (Uf z))) ()):=by
 refine Bh (A:=sC _ _) (x:=()) (E:=Enum) (eOk BE rfl) Tryz.func138 rfl (by kernel_rfl) rfl (by simp[sC,Enum,EC,E0]) ?_
 refine Bl (T :=
  ifB (decide ((-4611686018427387903:Int)<=z)) (decide (z<=4611686018427387903)=Qrr z/\True) (false=Qrr z/\True)/\RT (Qrr z=Uf z)) (by kernel_rfl) ?_
 delta Qrr RT
 simp only[Bg,decide_eq_true_eq,decide_eq_false_iff_not,true_and,and_true,Bool.cond_false_right,exists_const]
 refine⟨⟨fun h=>by rw[decide_eq_true h];rfl,fun h=>by rw[decide_eq_false h];rfl⟩,rfl⟩
noncomputable def Echr:Senv:=EC CK 17 1 [2] (fun _=>([],[]))
def QmV(a:Int):Bool:=bif bif decide (Z0<=a) then decide (a<=1114111) else false then bif decide (a<55296) then true else decide ((57343:Int)<a) else false
def QvP(a:Int):Prop:=false=QmV a/\True
theorem BlS(z:Int):ACalls Tryz.prog 139 [.int .i64 z] ⟨[],[]⟩ (SpecR (sC [.int .i64 z] (.bool (Ug z))) ()):=by
 refine Bh (A:=sC _ _) (x:=()) (E:=Echr) (eOk BE rfl) Tryz.func139 rfl (by kernel_rfl) rfl (by simp[sC,Echr,EC,E0]) ?_
 refine Bl (T :=
  ifB (decide (Z0<=z)) (ifB (decide (z<=1114111)) (ifB (decide (z<55296)) (true=QmV z/\True) (decide ((57343:Int)<z)=QmV z/\True)) (QvP z)) (QvP z)/\RT (QmV z=Ug z)) (by kernel_rfl) ?_
 delta Z0 QmV QvP RT
 simp only[Bg,decide_eq_true_eq,decide_eq_false_iff_not,true_and,and_true,Bool.cond_false_right,Bool.cond_true_left,exists_const]
 refine⟨⟨fun h1=>⟨fun h2=>⟨fun h3=>by simp[h1,h2,h3],fun h3=>by simp[h1,h2,h3]⟩,fun h2=>by simp[h1,h2]⟩,fun h1=>by simp[h1]⟩,rfl⟩
def IQ(row:Arr->List D)(xb:Nat)(q:Arr->Prop):FnSpec where
 β:=Arr
 α:=Unit
 args:=fun a=>[.agg (row a),.ref 1 xb 0]
 st:=fun _=>⟨[(1,xb,.cells [.fn (.func 136) [] [.ref 1 xb 0]])],[]⟩
 pre:=q
 post:=fun _ _=>True
 res:=fun a _=>.ret (.tup [.int .i64 (BB a).1,.int .i64 (BB a).2.1,.int .i64 (BB a).2.2])
 out:=fun _ _=>⟨[(1,xb,.cells [.fn (.func 136) [] [.ref 1 xb 0]])],[]⟩
def Beu(xb:Nat)(its:List Arr):Con:=fun k ds S=>match k with
 |136=>some (IQ Arr.row1 xb (fun b=>b∈its))
 |137=>match ds with
  | [.agg [.int .i64 k,.sl 1 n f _,.sl 1 nn _g _,.sl 4 ni _h _]]=>some (pC ds (.int .i64 (Cg k (Bu n f) nn ni)) (IntsP n f/\n<=maxLen/\nn<=maxLen/\ni<=maxLen))
  |_=>none
 |138=>match ds with
  | [.int .i64 z]=>some (pC [.int .i64 z] (.bool (Uf z)) True)
  |_=>none
 |139=>match ds with
  | [.int .i64 z]=>some (pC [.int .i64 z] (.bool (Ug z)) True)
  |_=>none
 |k=>Bbm k ds S
theorem BgU{xb:Nat}{its:List Arr}(ih:∀b∈its,ACalls Tryz.prog 136 ((IQ Arr.row2 xb (fun _=>True)).args b) ((IQ Arr.row2 xb (fun _=>True)).st b) (SpecR (IQ Arr.row2 xb (fun _=>True)) b)):ConOk Tryz.prog (Beu xb its):=by
 intro k ds S A h
 unfold Beu at h
 split at h
 ·injection h with h;subst h
  refine ConOk.plain (fun b hb=>?_) rfl rfl
  refine ((ih b hb).wkArgs ?_).mono fun _ _ ⟨y,h1,h2,h3⟩=>⟨y,h1,h2,h3⟩
  simp only[IQ,wkL,wkD]
  exact⟨Eh b,by simp[Br,Ba]⟩
 ·split at h
  ·rename_i k n f _ nn g _ ni g' _
   injection h with h;subst h
   refine C4 fun ⟨h1,h2,h3,h4⟩=>⟨Bo _,CU (us:=[.agg [.int .i64 k,isl (Bu n f) .any,.sl 1 nn g .any,.sl 4 ni g' .any]]) ?_ (Blb _ _ _ _ _ _ (by rw[Ck];exact h2) h3 h4)⟩
   refine⟨?_,trivial⟩
   simp only[Br,BS]
   refine⟨by simp[Ba,kEq],(CN h1).1,?_,?_,trivial⟩
   ·simp[Ba,BG]
   ·simp[Ba,BG]
  ·cases h
 ·split at h
  ·injection h with h;subst h
   exact C4 fun _=>⟨Bo _,Bmx _⟩
  ·cases h
 ·split at h
  ·injection h with h;subst h
   exact C4 fun _=>⟨Bo _,BlS _⟩
  ·cases h
 ·exact Ud _ _ _ _ h
theorem Tx(a : Arr) : BB a=if Cg a.k a.sh a.nu.length a.it.length≠0 then (Cg a.k a.sh a.nu.length a.it.length, 0, 0)
  else if a.nu.any (Ek a.k) then (17,0,0)
  else match CP a.it 0 ((a.nu.length:Int)+a.it.length) with
   |none=>(17,0,0)
   |some r=>if 16<r.1\/262144<r.2 then (21,0,0) else (0,r.1,r.2):=by
 cases a with
 |mk k s n is=>rw[BB];rfl
theorem BjH{s:List Int}:Ec s<=65536:=by
 unfold Ec
 split
 ·omega
 ·cases hg:goO s 1 with
  |none=>simp
  |some p=>have:=Bcm s 1 (by omega) p hg;simpa using this
theorem ES{k:Int}{s:List Int}{nn ni:Nat}(h:Cg k s nn ni=0):nn<=65536/\ni<=65536:=by
 have hs:=BjH (s:=s)
 unfold Cg at h
 by_cases hk:k=1\/k=2\/k=3
 ·rw[if_pos hk] at h
  by_cases hd:Eb s≠0
  ·rw[if_pos hd] at h;exact (hd h).elim
  ·rw[if_neg hd] at h
   by_cases hc:((if k=3 then (ni:Int) else nn)≠Ec s)\/((if k=3 then (nn:Int) else ni)≠0)
   ·rw[if_pos hc] at h;omega
   ·simp only[not_or,ne_eq,Decidable.not_not] at hc
    obtain ⟨c1,c2⟩:=hc
    by_cases k3:k=3<;>simp only[k3,if_true,if_false] at c1 c2<;>omega
 ·rw[if_neg hk] at h;omega
theorem EM{α:Type}[Inhabited α]{l:List α}{i:Nat}(h:i<l.length):l.getD i default∈l:=by
 rw[List.getD_eq_getElem?_getD,List.getElem?_eq_getElem h];exact List.getElem_mem h
def cutV(k:Int)(d8:D)(S:St):Option LoopAnn :=
 match d8 with
 |.int _ z=>some { slots:=[45],keep:=[],α:=Unit,st:=fun _=>([.bool (Ek k z)],S),inv:=fun _=>True,mu:=fun _=>0 }
 |_=>none
noncomputable def Evis(xb:Nat)(a:Arr):Senv:={ EC (Beu xb a.it) 87 7 [8,9,10,12,13,14,15,19,22,23,24,25,45,55,56,57,58,69,84] (fun id=>match id with | 10=>([0,1,2,3,4,5,6,7,8],[]) | _=>([],[])) with
 cut:=fun id env S=>match id with
  |7=>cutV a.k (Ab.look env 8) S
  |_=>none
 ann:=fun b _ S=>match b with
  |0=>some { slots:=[24],keep:=[0,1,2,22,23],α:=Nat,st:=fun i=>([.int .i64 i],S),inv:=fun i=>i<=a.nu.length/\∀z∈a.nu.take i,Ek a.k z=false,mu:=fun i=>a.nu.length-i }
  |2=>some { slots:=[57,9,10],keep:=[0,1,2,55,56],α:=Nat×Int×Int,st:=fun y=>([.int .i64 y.1,.int .i64 y.2.1,.int .i64 y.2.2],S),inv:=fun y=>y.1<=a.it.length/\0<=y.2.1/\y.2.1<=17/\0<=y.2.2/\y.2.2<=262145/\CP (a.it.drop y.1) y.2.1 y.2.2=CP a.it 0 ((a.nu.length:Int)+a.it.length),mu:=fun y=>a.it.length-y.1 }
  |_=>none }
def Qcg(a:Arr):Nat:=LN (Arr.sh a)
def QlY(a:Arr)(b:Nat):List D:=[ZI (GI (Arr.sh a) b)]
def QmW(a:Arr):List Int:=Arr.nu a
def Yk(a:Arr):Nat:=LN (QmW a)
def QcK(a:Arr):List Arr:=Arr.it a
def Yl(a:Arr):Nat:=LN (QcK a)
def HP(a:Arr):Int:=Arr.k a
def QvQ(a:Arr):Int:=Cg (HP a) (Bu (Qcg a) fun i=>QlY a i) (Yk a) (Yl a)
def QlZ(a:Arr):Int:=Prod.fst (BB a)
def Qrs(a:Arr):Int:=Prod.fst (Prod.snd (BB a))
def QmX(a:Arr):Int:=Prod.snd (Prod.snd (BB a))
def Qrt(a:Arr):Prop:=Z0=Qrs a/\Z0=QmX a/\True
def QvR(a:Nat):Prop:=SM a/\(SM (D.fn (Fn.func (136:Nat)) [] [D.ref N1 a N0])/\True)/\True
def Ql0(a:Nat):Prop:=QvR a/\True
def Qru(a:Nat)(b:Arr):Prop:=a<=Yk b/\∀(z:Int),z∈List.take a (QmW b)->Ek (HP b) z=false
def Qrv(a:Arr)(b:Nat):List D:=[ZI (GI (QmW a) b)]
def QmY:Arr:=DA
def Ql1(a:Arr)(b:Nat):Arr:=List.getD (QcK a) b QmY
def QFE(a:Arr)(b:Nat):List Int:=Arr.sh (Ql1 a b)
def QFF(a:Arr)(b:Nat):List Int:=Arr.nu (Ql1 a b)
def QvS(a:Arr)(b:Nat):List Arr:=Arr.it (Ql1 a b)
def QvT(a:Arr)(b:Nat):List D:=[ZI (Arr.k (Ql1 a b)),SI (QFE a b),SI (QFF a b),D.sl N4 (LN (QvS a b)) (fun i=>Arr.row (List.getD (QvS a b) i QmY)) Mode.any]
def Qch(a:Nat)(b:Arr)(c:Nat):Prop:=(SM a/\(SM (HP b)/\(SM (Qcg b)/\(∀(i:Nat),i<Qcg b->SM (QlY b i))/\True)/\(SM (Yk b)/\(∀(i:Nat),i<Yk b->SM (Qrv b i))/\True)/\(SM (Yl b)/\(∀(i:Nat),i<Yl b->SM (QvT b i))/\True)/\True)/\QvR c)/\True
def QmZ(a:Arr):Int:=(NI (Yk a))
def Qrw(a:Arr)(b:Nat):Int:=GI (QmW a) (Int.toNat (↑b:Int))
def Qm0(a:Arr)(b:Nat):Bool:=Ek (HP a) (Qrw a b)
def QvU(a:Nat)(b:Arr)(c d:Nat):Prop:=SM a/\ifB (HP b==2) (True/\∀(_y:Unit),True->∃(_x:Unit),True/\((!Ug (Qrw b c))=Qm0 b c/\True)/\Qch a b d) (∃(_x:Unit),True/\(false=Qm0 b c/\True)/\Qch a b d)
def QvV(a:Arr)(b:Nat):Prop:=True/\∃(_y:Unit),True/\((17:Int)=QlZ a/\Qrt a)/\Ql0 b
def QvW(a:Arr):D:=D.sl N1 (Yk a) (fun i=>Qrv a i) Mode.any
def QvX(a:Arr):D:=D.sl N4 (Yl a) (fun i=>QvT a i) Mode.any
def QFG(a:Arr):D:=D.agg [ZI (HP a),D.sl N1 (Qcg a) (fun i=>QlY a i) Mode.any,QvW a,QvX a]
def QvY(a:Arr):Prop:=SM (QFG a)
def Qm1(a:Arr):Int:=(NI (Yl a))
def QvZ(a:Arr):Int:=QmZ a+Qm1 a
def Qrx(a:Nat)(b:Arr)(c d:Int):Prop:=a<=Yl b/\Z0<=c/\c<=17/\Z0<=d/\d<=262145/\CP (List.drop a (QcK b)) c d=CP (QcK b) Z0 (QvZ b)
def Qm2(a:Arr)(b:Nat):Arr:=List.getD (QcK a) (Int.toNat (↑b:Int)) QmY
def Qv0(a:Arr)(b:Nat):List Int:=Arr.sh (Qm2 a b)
def Qv1(a:Arr)(b:Nat):Nat:=LN (Qv0 a b)
def Qv2(a:Arr)(b:Nat):List Int:=Arr.nu (Qm2 a b)
def Qv3(a:Arr)(b:Nat):Nat:=LN (Qv2 a b)
def Qv4(a:Arr)(b:Nat):List Arr:=Arr.it (Qm2 a b)
def Qv5(a:Arr)(b:Nat):Nat:=LN (Qv4 a b)
def Qv6(a:Arr):Int:=IntKind.wrap IntKind.i64 (Qrs a+Z1)
def Qry(a b:Int):Bool:=bif decide ((16:Int)<a) then true else decide ((262144:Int)<b)
theorem Bj1(xb : Nat)(a : Arr)(ha : a.nu.length<=maxLen /\ a.it.length<=maxLen /\ a.sh.length<=maxLen)(ih : ∀b∈a.it, ACalls Tryz.prog 136 ((IQ Arr.row2 xb (fun _=>True)).args b) ((IQ Arr.row2 xb (fun _=>True)).st b) (SpecR (IQ Arr.row2 xb (fun _=>True)) b)) :
  ACalls Tryz.prog 136 ((IQ Arr.row2 xb (fun _=>True)).args a) ((IQ Arr.row2 xb (fun _=>True)).st a) (SpecR (IQ Arr.row2 xb (fun _=>True)) a):=by
 refine Bh (A:=IQ Arr.row2 xb (fun _=>True)) (x:=a) (E:=Evis xb a) (eOk (BgU ih) rfl) Tryz.func136 rfl (by kernel_rfl) rfl (by simp[IQ,Evis,EC,E0]) ?_
 refine Bl (T :=
  ∀(x:Nat),xb≠x/\True->SM x/\((IntsP (Qcg a) fun i=>QlY a i)/\Qcg a<=9223372036854775807/\Yk a<=9223372036854775807/\Yl a<=9223372036854775807)/\∀(y:Unit),True->ifB (QvQ a != Z0) (True/\∃(y:Unit),True/\(QvQ a=QlZ a/\Qrt a)/\Ql0 xb) (SM x/\(∃(x_1:Nat),Qru x_1 a/\(Z0=(↑x_1:Int)/\True)/\Qch x a xb)/\∀(x_1:Nat),Qru x_1 a->ifB (decide ((↑x_1:Int)<QmZ a)) (Bf (Z0<=(↑x_1:Int)/\(↑x_1:Int)<QmZ a) ((SM x/\ifB (HP a==Z1) (True/\∀(y:Unit),True->ifB (!Uf (Qrw a x_1)) (∃(x_2:Unit),True/\(true=Qm0 a x_1/\True)/\Qch x a xb) (QvU x a x_1 xb)) (QvU x a x_1 xb))/\∀(x_2:Unit),True->ifB (Qm0 a x_1) (QvV a xb) ((QvY a/\SM (D.ref N1 xb N0)/\SM (D.ref N2 x N0)/\SM (QvW a)/\SM (ZI (QmZ a))/\True)/\∃(y:Nat),Qru y a/\Yk a-y<Yk a-x_1/\(IntKind.wrap IntKind.i64 ((↑x_1:Int)+Z1)=(↑y:Int)/\True)/\Qch x a xb))) (SM x/\SM x/\SM x/\(∃(x_2:Nat×Int×Int),Qrx x_2.1 a x_2.2.1 x_2.2.2/\(Z0=(NI x_2.1)/\Z0=x_2.2.1/\IntKind.wrap IntKind.i64 (QvZ a)=x_2.2.2/\True)/\Qch x a xb)/\∀(x_2:Nat×Int×Int),Qrx x_2.1 a x_2.2.1 x_2.2.2->ifB (decide ((NI x_2.1)<Qm1 a)) (Bf (Z0<=(NI x_2.1)/\(NI x_2.1)<Qm1 a) (∀(x_3:Nat),x≠x_3/\xb≠x_3/\True->SM x_3/\SM xb/\SM x_3/\∃(x_4:Arr),((Arr.k (Qm2 a x_2.1)=HP x_4/\(Qv1 a x_2.1=Qcg x_4/\(∀(i:Nat),i<Qv1 a x_2.1->[ZI (GI (Qv0 a x_2.1) i)]=QlY x_4 i)/\True)/\(Qv3 a x_2.1=Yk x_4/\(∀(i:Nat),i<Qv3 a x_2.1->[ZI (GI (Qv2 a x_2.1) i)]=Qrv x_4 i)/\True)/\(Qv5 a x_2.1=Yl x_4/\(∀(i:Nat),i<Qv5 a x_2.1->Arr.row (List.getD (Qv4 a x_2.1) i QmY)=Arr.row (Ql1 x_4 i))/\True)/\True)/\SM xb/\True)/\Ql0 xb/\x_4∈QcK a/\∀(y:Unit),True->ifB (QlZ x_4 != Z0) (QvV a xb) ((QvY a/\SM (D.ref N1 xb N0)/\SM (D.ref N2 x N0)/\SM (QvX a)/\SM (ZI (Qm1 a))/\True)/\∃(y:Nat×Int×Int),Qrx y.1 a y.2.1 y.2.2/\Yl a-y.1<Yl a-x_2.1/\(IntKind.wrap IntKind.i64 ((NI x_2.1)+Z1)=(NI y.1)/\(if x_2.2.1<Qv6 x_4 then Qv6 x_4 else x_2.2.1)=y.2.1/\(if (262145:Int)<IntKind.wrap IntKind.i64 (x_2.2.2+QmX x_4) then (262145:Int) else IntKind.wrap IntKind.i64 (x_2.2.2+QmX x_4))=y.2.2/\True)/\Qch x a xb))) (ifB (decide ((16:Int)<x_2.2.1)) (true=Qry x_2.2.1 x_2.2.2/\True) (decide ((262144:Int)<x_2.2.2)=Qry x_2.2.1 x_2.2.2/\True)/\ifB (Qry x_2.2.1 x_2.2.2) (True/\∃(y:Unit),True/\((21:Int)=QlZ a/\Qrt a)/\Ql0 xb) (True/\∃(y:Unit),True/\(Z0=QlZ a/\x_2.2.1=Qrs a/\x_2.2.2=QmX a/\True)/\Ql0 xb))))) (by kernel_rfl) ?_
 delta DA GI LN N0 N1 N2 N4 NI SI SM Z0 Z1 ZI QvQ QlZ Qrs QmX Qrt QvR Ql0 Qru Qrv QmY Ql1 QFE QFF QvS QvT Qch QmZ Qrw Qm0 QvU Qcg QvV QvW QvX QFG QvY Qm1 QvZ Qrx Qm2 Qv0 QlY Qv1 Qv2 Qv3 Qv4 Qv5 Qv6 Qry QmW Yk QcK Yl HP
 have da:(default:Arr)=Arr.mk 0 [] [] []:=rfl
 simp only[<- da,CL,Int.toNat_natCast,Bg,Be,decide_eq_true_eq,decide_eq_false_iff_not,true_and,and_true,beq_iff_eq,bne_iff_ne,Bool.cond_true_left,beq_eq_false_iff_ne,ne_eq,exists_const,forall_const]
 intro x _
 have hA:=Tx a
 obtain ⟨l1,l2,l3⟩:=ha
 have tt:(∀i:Nat,i<a.sh.length->True)/\(∀i:Nat,i<a.nu.length->True)/\∀i:Nat,i<a.it.length->True:=⟨fun _ _=>trivial,fun _ _=>trivial,fun _ _=>trivial⟩
 refine⟨⟨BU _,l3,l1,l2⟩,fun h=>?_,fun h=>⟨⟨0,⟨Nat.zero_le _,by simp⟩,rfl,tt⟩,fun i hi=>⟨fun hlt=>?_,fun hge=>?_⟩⟩⟩
 ·rw[hA,if_pos h];exact⟨rfl,rfl,rfl⟩
 ·have h0:Cg a.k a.sh a.nu.length a.it.length=0:=by simpa using h
  have hsm:=ES h0
  have hlt':i<a.nu.length:=by omega
  have hmem:a.nu.getD i 0∈a.nu:=by rw[List.getD_eq_getElem?_getD,List.getElem?_eq_getElem hlt'];exact List.getElem_mem hlt'
  have htk:a.nu.take (i+1)=a.nu.take i++[a.nu.getD i 0]:=by
   rw[List.take_add_one];simp[List.getD_eq_getElem?_getD,hlt']
  generalize a.nu.getD i 0=z at *
  refine⟨by omega,?_,fun hb=>?_,fun hb=>⟨i+1,⟨by omega,fun y hy=>?_⟩,by omega,Bb (by omega) (by omega),tt⟩⟩
  ·refine⟨fun k1=>⟨fun hn=>⟨by simp at hn;simp[Ek,k1,hn],tt⟩,fun hn=>⟨fun k2=>by omega,fun k2=>⟨by simp at hn;simp[Ek,k1,hn],tt⟩⟩⟩,fun k1=>⟨fun k2=>⟨by simp[Ek,k2],tt⟩,fun k2=>⟨by simp[Ek,k1,k2],tt⟩⟩⟩
  ·have:a.nu.any (Ek a.k)=true:=List.any_eq_true.2 ⟨z,hmem,hb⟩
   rw[hA,if_neg (by simp[h0]),if_pos this]
   exact⟨rfl,rfl,rfl⟩
  ·rw[htk,List.mem_append] at hy
   rcases hy with hy | hy
   ·exact hi.2 y hy
   ·simp at hy;rw[hy];exact hb
 ·have h0:Cg a.k a.sh a.nu.length a.it.length=0:=by simpa using h
  have hsm:=ES h0
  have hii:i=a.nu.length:=by omega
  rw[hii,List.take_length] at hi
  have hany:¬a.nu.any (Ek a.k)=true:=by
   rw[List.any_eq_true]
   rintro ⟨z,hz,hb⟩
   rw[hi.2 z hz] at hb
   cases hb
  rw[if_neg (by simp[h0]),if_neg hany] at hA
  refine⟨⟨(0,0,(a.nu.length:Int)+a.it.length),⟨Nat.zero_le _,Int.le_refl _,by simp,by simp only;omega,by simp only;omega,by simp⟩,⟨rfl,rfl,Bb (by omega) (by omega)⟩,tt⟩,?_⟩
  rintro ⟨j,d,w⟩ ⟨b1,b2,b3,b4,b5,hch⟩
  simp only at b1 b2 b3 b4 b5 hch ⊢
  refine⟨fun hlt=>⟨by omega,fun x3 _=>?_⟩,fun hge=>?_⟩
  ·have hlt':j<a.it.length:=by omega
   have hbd:=C3 (a.it.getD j default)
   rw[BN hlt',CP] at hch
   refine⟨a.it.getD j default,⟨rfl,⟨rfl,fun _ _=>rfl⟩,⟨rfl,fun _ _=>rfl⟩,rfl,fun _ _=>rfl⟩,EM hlt',fun herr=>?_,fun hok=>?_⟩
   ·rw[if_pos herr] at hch
    rw[<- hch] at hA
    rw[hA]
    exact⟨rfl,rfl,rfl⟩
   ·have hok:(BB (a.it.getD j default)).1=0:=by simpa using hok
    rw[if_neg (fun hne=>hne hok)] at hch
    have w1:IntKind.i64.wrap ((BB (a.it.getD j default)).2.1+1)=(BB (a.it.getD j default)).2.1+1:=Bb (by omega) (by omega)
    have w2:IntKind.i64.wrap (w+(BB (a.it.getD j default)).2.2)=w+(BB (a.it.getD j default)).2.2:=Bb (by omega) (by omega)
    rw[w1,w2]
    refine⟨(j+1,(if d<(BB (a.it.getD j default)).2.1+1 then (BB (a.it.getD j default)).2.1+1 else d),(if 262145<w+(BB (a.it.getD j default)).2.2 then 262145 else w+(BB (a.it.getD j default)).2.2)),⟨by simp only;omega,?_,?_,?_,?_,hch⟩,by simp only;omega,⟨Bb (by omega) (by omega),rfl,rfl⟩,tt⟩
    ·simp only;split<;>omega
    ·simp only;split<;>omega
    ·simp only;split<;>omega
    ·simp only;split<;>omega
  ·have hj:j=a.it.length:=by omega
   rw[hj,List.drop_length,CP] at hch
   rw[<- hch] at hA
   simp only at hA
   refine⟨⟨fun h1=>by rw[decide_eq_true h1];rfl,fun h1=>by rw[decide_eq_false h1];rfl⟩,fun hc=>?_,fun hc=>?_⟩
   ·rw[Bool.or_eq_true,decide_eq_true_eq,decide_eq_true_eq] at hc
    rw[if_pos hc] at hA
    rw[hA];exact⟨rfl,rfl,rfl⟩
   ·rw[Bool.or_eq_false_iff,decide_eq_false_iff_not,decide_eq_false_iff_not] at hc
    rw[if_neg (by omega)] at hA
    rw[hA];exact⟨rfl,rfl,rfl⟩
theorem Bf6:∀(a:Arr),a.ok->∀xb,ACalls Tryz.prog 136 ((IQ Arr.row2 xb (fun _=>True)).args a) ((IQ Arr.row2 xb (fun _=>True)).st a) (SpecR (IQ Arr.row2 xb (fun _=>True)) a)
 |.mk k s n is,h,xb=>by
  have h':=h
  simp only[Arr.ok] at h'
  obtain ⟨_,_,_,h1,h2,h3,h4⟩:=h'
  refine Bj1 xb (.mk k s n is) ⟨h2,h3,h1⟩ fun b hb=>?_
  have hb':b∈is:=hb
  exact Bf6 b ((Ev _).1 h4 b hb') xb
termination_by a=>SizeOf.sizeOf a
decreasing_by
 have:=List.sizeOf_lt_of_mem hb'
 simp;omega
theorem Bjx(a:Arr)(ha:a.ok)(xb:Nat)(q:Arr->Prop):ACalls Tryz.prog 136 ((IQ Arr.row1 xb q).args a) ((IQ Arr.row1 xb q).st a) (SpecR (IQ Arr.row1 xb q) a):=by
 refine ((Bf6 a ha xb).wkArgs ?_).mono fun _ _ ⟨y,h1,h2,h3⟩=>⟨y,h1,h2,h3⟩
 simp only[IQ,wkL,wkD]
 exact⟨Eh a,by simp[Br,Ba]⟩
def Bi4(a:Arr):Con:=fun k ds _=>match k with
 |136=>match ds with
  | [_,.ref _ xb _]=>some (IQ Arr.row1 xb (fun b=>b=a))
  |_=>none
 |_=>none
theorem Bid{a:Arr}(ha:a.ok):ConOk Tryz.prog (Bi4 a):=by
 intro k ds S A h
 unfold Bi4 at h
 split at h
 ·split at h
  ·injection h with h;subst h
   refine ConOk.plain (fun b hb=>?_) rfl rfl
   have hb:b=a:=hb
   rw[hb]
   exact Bjx a ha _ _
  ·cases h
 ·cases h
noncomputable def Eri(a:Arr):Senv:=EC (Bi4 a) 16 7 [] (fun _=>([],[]))
def Qrz(a:Arr):Nat:=LN (Arr.sh a)
def QrA(a:Arr):Nat:=LN (Arr.nu a)
def QrB(a:Arr):Nat:=LN (Arr.it a)
def Qv7(a:Arr)(b:Nat):List D:=Arr.row (GA (Arr.it a) b)
theorem Bjh(a:Arr)(ha:a.ok):ACalls Tryz.prog 124 [.agg a.row1] ⟨[],[]⟩ (SpecR (sC [.agg a.row1] (.int .i64 (BB a).1)) ()):=by
 refine Bh (A:=sC _ _) (x:=()) (E:=Eri a) (eOk (Bid ha) rfl) Tryz.func124 rfl (by kernel_rfl) rfl (by simp[sC,Eri,EC,E0]) ?_
 refine Bl (T :=
  ∀(x:Nat),True->∀(x_1:Nat),x≠x_1/\True->SM x_1/\SM x_1/\SM x/\∃(x:Arr),((Arr.k a=Arr.k x/\(Qrz a=Qrz x/\(∀(i:Nat),i<Qrz a->[ZI (GI (Arr.sh a) i)]=[ZI (GI (Arr.sh x) i)])/\True)/\(QrA a=QrA x/\(∀(i:Nat),i<QrA a->[ZI (GI (Arr.nu a) i)]=[ZI (GI (Arr.nu x) i)])/\True)/\(QrB a=QrB x/\(∀(i:Nat),i<QrB a->Qv7 a i=Qv7 x i)/\True)/\True)/\SM x_1/\True)/\((SM x_1/\(D.fn (Fn.func (136:Nat)) [] [D.ref (max (N0+N1) N0) x_1 N0]=D.fn (Fn.func (136:Nat)) [] [D.ref N1 x_1 N0]/\True)/\True)/\True)/\x=a/\∀(y:Unit),True->RT (Prod.fst (BB x)=Prod.fst (BB a))) (by kernel_rfl) ?_
 delta DA GA GI LN N0 N1 SM Z0 ZI Qrz QrA QrB Qv7 RT
 intro x _ x1 hx
 exact⟨rfl,rfl,rfl,a,⟨⟨rfl,⟨rfl,fun _ _=>rfl,trivial⟩,⟨rfl,fun _ _=>rfl,trivial⟩,⟨rfl,fun _ _=>rfl,trivial⟩,trivial⟩,rfl,trivial⟩,⟨⟨rfl,⟨rfl,trivial⟩,trivial⟩,trivial⟩,rfl,fun _ _=>⟨trivial,(),trivial,rfl,trivial,trivial⟩⟩
theorem Ba0{α:Type}{l:List α}{i:Nat}{d:α}(h:i<l.length):l.getD i d∈l:=by
 rw[List.getD_eq_getElem?_getD,List.getElem?_eq_getElem h];exact List.getElem_mem h
noncomputable def Bk{α:Type}(a b:α):Bool:=@decide (a=b) (Classical.propDecidable _)
theorem Bq{α:Type}{a b:α}:Bk a b=true↔a=b:=by unfold Bk;exact @decide_eq_true_iff _ (Classical.propDecidable _)
theorem Bi{α:Type}{a b:α}(h:a≠b):false=Bk a b:=by
 cases hs:Bk a b with
 |false=>rfl
 |true=>exact (h (Bq.1 hs)).elim
theorem Ee{α:Type}{a b:α}(h:a=b):true=Bk a b:=(Bq.2 h).symm
theorem CJ{α:Type}{l m:List α}(d:α)(h:l.length=m.length)(h2:∀j,j<l.length->l.getD j d=m.getD j d):l=m:=by
 apply List.ext_getElem h
 intro i h3 h4
 have:=h2 i h3
 simpa[List.getD_eq_getElem?_getD,List.getElem?_eq_getElem h3,List.getElem?_eq_getElem h4] using this
theorem Bd4{α:Type}[Inhabited α]{l m:List α}{i:Nat}(h:∀j,j<i->l.getD j default=m.getD j default)(e:l.getD i default=m.getD i default):∀j,j<i+1->l.getD j default=m.getD j default:=fun j hj=>by
 by_cases q:j=i
 ·subst q;exact e
 ·exact h j (by omega)
noncomputable def EqI(l m:List Int):Senv:={ EC CK 26 2 [4,5,10,12,13,14,24] (fun id=>match id with | 6=>([0,1,2,3,4,5,6,7,8],[]) | _=>([],[])) with
 ann:=fun q _ S=>match q with
  |0=>some { slots:=[13],keep:=[0,1,11,12],α:=Nat,st:=fun i=>([.int .i64 i],S),inv:=fun i=>i<=l.length/\∀j,j<i->l.getD j default=m.getD j default,mu:=fun i=>l.length-i }
  |_=>none }
def Qv8(a b:List Int):Prop:=RT (false=Bk a b)
def QrC(a:Nat)(b c:List Int):Prop:=a<=LN b/\∀(j:Nat),j<a->GI b j=GI c j
def QFH(a:List Int):D:=SI a
def Qv9(a:List Int):Prop:=SM (QFH a)
theorem Bms(l m:List Int)(hl:l.length<=maxLen)(hm:m.length<=maxLen):ACalls Tryz.prog 115 [isl l .any,isl m .any] ⟨[],[]⟩ (SpecR (sC [isl l .any,isl m .any] (.bool (Bk l m))) ()):=by
 refine Bh (A:=sC _ _) (x:=()) (E:=EqI l m) (eOk BE rfl) Tryz.func115 rfl (by kernel_rfl) rfl (by simp[sC,EqI,EC,E0]) ?_
 refine Bl (T :=
  ifB ((LI l) != (LI m)) (Qv8 l m) ((∃(x:Nat),QrC x l m/\(Z0=(↑x:Int)/\True)/\True/\True)/\∀(x:Nat),QrC x l m->ifB (decide ((↑x:Int)<(LI l))) (Bf (Z0<=(↑x:Int)/\(↑x:Int)<(LI l)) (Bf (Z0<=(↑x:Int)/\(↑x:Int)<(LI m)) (ifB (GI l (Int.toNat (↑x:Int)) != GI m (Int.toNat (↑x:Int))) (Qv8 l m) ((Qv9 l/\Qv9 m/\SM D.unk/\SM (ZI (LI l))/\True)/\∃(y:Nat),QrC y l m/\LN l-y<LN l-x/\(IntKind.wrap IntKind.i64 ((↑x:Int)+Z1)=(↑y:Int)/\True)/\True/\True)))) (RT (true=Bk l m)))) (by kernel_rfl) ?_
 delta GI LI LN N1 SI SM Z0 Z1 ZI Qv8 QrC QFH Qv9 RT
 simp only[Bg,Be,decide_eq_true_eq,decide_eq_false_iff_not,true_and,and_true,beq_iff_eq,bne_iff_ne,bne_eq_false_iff_eq,ne_eq,exists_const,forall_const,implies_true,Int.toNat_natCast,Bool.not_eq_true',Bool.not_eq_false']
 simp only[maxLen] at hl hm
 refine⟨fun h=>Bi fun e=>h (by rw[e]),fun he=>⟨⟨0,⟨Nat.zero_le _,fun j hj=>absurd hj (by omega)⟩,rfl⟩,fun i hi=>⟨fun hlt=>⟨⟨by omega,by omega⟩,⟨by omega,by omega⟩,fun hn=>Bi fun e=>hn (by rw[e]),fun hn=>⟨i+1,⟨by omega,Bd4 hi.2 hn⟩,by omega,Bb (by omega) (by omega)⟩⟩,fun hge=>Ee (CJ default (by omega) fun j hj=>hi.2 j (by omega))⟩⟩⟩
noncomputable def sPr{α:Type}(row:α->List D)(q:α×α->Prop):FnSpec where
 β:=α×α
 α:=Unit
 args:=fun x=>[.agg (row x.1),.agg (row x.2)]
 st:=fun _=>⟨[],[]⟩
 pre:=q
 post:=fun _ _=>True
 res:=fun x _=>.ret (.bool (Bk x.1 x.2))
 out:=fun _ _=>⟨[],[]⟩
theorem Bml{α : Type}{k : Nat}{row : α -> List D}{q : α×α -> Prop}{ds : List D}{S : St}(h : ∀x, q x -> ACalls Tryz.prog k [.agg (row x.1), .agg (row x.2)] ⟨[], []⟩ (SpecR (sC [.agg (row x.1), .agg (row x.2)] (.bool (Bk x.1 x.2))) ())) :
  (∀y,(sPr row q).pre y->ACalls Tryz.prog k ((sPr row q).args y) ((sPr row q).st y) (SpecR (sPr row q) y))/\(∀y,(sPr row q).fit=some y->(sPr row q).pre y->BS ds ((sPr row q).args y)/\leS ((sPr row q).st y) S)/\((sPr row q).all=true->∀y,(sPr row q).pre y->BS ds ((sPr row q).args y)/\(sPr row q).st y=S) :=
 ConOk.plain (fun (x:α×α) hx=>(h x hx).mono fun _ _ ⟨y,q1,q2,q3⟩=>⟨y,q1,q2,q3⟩) rfl rfl
noncomputable def Bif(l m:List Arr):Con:=fun k _ _=>match k with
 |82=>some (sPr Arr.row1 (fun x=>x.1∈l/\x.2∈m))
 |_=>none
noncomputable def EeA(l m:List Arr):Senv:={ EC (Bif l m) 32 3 [6,7,8,9,14,15,16,17,18,30] (fun _=>([],[])) with
 ann:=fun q _ S=>match q with
  |0=>some { slots:=[17],keep:=[0,1,2,15,16],α:=Nat,st:=fun i=>([.int .i64 i],S),inv:=fun i=>i<=l.length/\∀j,j<i->l.getD j default=m.getD j default,mu:=fun i=>l.length-i }
  |_=>none }
def Qwa(a b:List Arr):Prop:=RT (false=Bk a b)
def Ql2:Arr:=DA
def QcL(a:List Arr)(b:Nat):Arr:=List.getD a b Ql2
def QrD(a:Nat)(b c:List Arr):Prop:=a<=LN b/\∀(j:Nat),j<a->QcL b j=QcL c j
def Qm3(a:List Arr)(b:Nat):Arr:=List.getD a (Int.toNat (↑b:Int)) Ql2
def Qwb(a:List Arr)(b:Nat):List Int:=Arr.sh (Qm3 a b)
def Qwc(a:List Arr)(b:Nat):Nat:=LN (Qwb a b)
def Qwd(a:List Arr)(b:Nat):List Int:=Arr.nu (Qm3 a b)
def Qwe(a:List Arr)(b:Nat):Nat:=LN (Qwd a b)
def Qwf(a:List Arr)(b:Nat):List Arr:=Arr.it (Qm3 a b)
def Qwg(a:List Arr)(b:Nat):Nat:=LN (Qwf a b)
def Qwh(a:List Arr)(b:Nat)(c:Arr):Prop:=Arr.k (Qm3 a b)=Arr.k c/\(Qwc a b=LN (Arr.sh c)/\(∀(i:Nat),i<Qwc a b->[ZI (GI (Qwb a b) i)]=[ZI (GI (Arr.sh c) i)])/\True)/\(Qwe a b=LN (Arr.nu c)/\(∀(i:Nat),i<Qwe a b->[ZI (GI (Qwd a b) i)]=[ZI (GI (Arr.nu c) i)])/\True)/\(Qwg a b=LN (Arr.it c)/\(∀(i:Nat),i<Qwg a b->Arr.row (List.getD (Qwf a b) i Ql2)=Arr.row (List.getD (Arr.it c) i Ql2))/\True)/\True
def QFI(a:List Arr)(b:Nat):List Int:=Arr.sh (QcL a b)
def QFJ(a:List Arr)(b:Nat):List Int:=Arr.nu (QcL a b)
def Qwi(a:List Arr)(b:Nat):List Arr:=Arr.it (QcL a b)
def QFK(a:List Arr):D:=D.sl N4 (LN a) (fun i=>[ZI (Arr.k (QcL a i)),SI (QFI a i),SI (QFJ a i),D.sl N4 (LN (Qwi a i)) (fun i_1=>Arr.row (List.getD (Qwi a i) i_1 Ql2)) Mode.any]) Mode.any
def QrE(a:List Arr):Prop:=SM (QFK a)
theorem Bib(l m:List Arr)(hl:l.length<=maxLen)(hm:m.length<=maxLen)(hc:ConOk Tryz.prog (Bif l m)):ACalls Tryz.prog 116 [gsl 4 Arr.row1 l,gsl 4 Arr.row1 m,.fn (.func 82) [] []] ⟨[],[]⟩ (SpecR (sC [gsl 4 Arr.row1 l,gsl 4 Arr.row1 m,.fn (.func 82) [] []] (.bool (Bk l m))) ()):=by
 refine Bh (A:=sC _ _) (x:=()) (E:=EeA l m) (eOk hc rfl) Tryz.func116 rfl (by kernel_rfl) rfl (by simp[sC,EeA,EC,E0]) ?_
 refine Bl (T :=
  ifB ((LI l) != (LI m)) (Qwa l m) ((∃(x:Nat),QrD x l m/\(Z0=(↑x:Int)/\True)/\True/\True)/\∀(x:Nat),QrD x l m->ifB (decide ((↑x:Int)<(LI l))) (Bf (Z0<=(↑x:Int)/\(↑x:Int)<(LI l)) (∀(x_1:Nat),True->SM x_1/\Bf (Z0<=(↑x:Int)/\(↑x:Int)<(LI m)) (∀(x_2:Nat),x_1≠x_2/\True->SM x_2/\SM x_1/\SM x_2/\∃(x_3:Arr×Arr),(Qwh l x x_3.1/\Qwh m x x_3.2/\True)/\(True/\True)/\(x_3.1∈l/\x_3.2∈m)/\∀(y:Unit),True->ifB (!Bk x_3.1 x_3.2) (Qwa l m) ((QrE l/\QrE m/\SM (D.fn (Fn.func (82:Nat)) [] [])/\QrE l/\SM (ZI (LI l))/\True)/\∃(y:Nat),QrD y l m/\LN l-y<LN l-x/\(IntKind.wrap IntKind.i64 ((↑x:Int)+Z1)=(↑y:Int)/\True)/\True/\True)))) (RT (true=Bk l m)))) (by kernel_rfl) ?_
 delta DA GI LI LN N1 N4 SI SM Z0 Z1 ZI Qwc Qwd Qwe Qwf Qwg Qwh QFI QFJ Qwi QFK QrE Qwa Ql2 QcL QrD Qm3 Qwb RT
 simp only[Bg,Be,decide_eq_true_eq,decide_eq_false_iff_not,true_and,and_true,beq_iff_eq,bne_iff_ne,bne_eq_false_iff_eq,ne_eq,exists_const,forall_const,implies_true,Int.toNat_natCast,Bool.not_eq_true',Bool.not_eq_false',Prod.exists]
 simp only[maxLen] at hl hm
 refine⟨fun h=>Bi fun e=>h (by rw[e]),fun he=>⟨⟨0,⟨Nat.zero_le _,fun j hj=>absurd hj (by omega)⟩,rfl⟩,fun i hi=>⟨fun hlt=>⟨⟨by omega,by omega⟩,fun _=>⟨⟨by omega,by omega⟩,fun _ _=>⟨l.getD i default,m.getD i default,?_,⟨Ba0 (by omega),Ba0 (by omega)⟩,fun hn=>Bi fun e=>?_,fun hs=>⟨i+1,⟨by omega,Bd4 hi.2 (Bq.1 hs)⟩,by omega,Bb (by omega) (by omega)⟩⟩⟩⟩,fun hge=>Ee (CJ default (by omega) fun j hj=>hi.2 j (by omega))⟩⟩⟩
 ·repeat' (first | rfl | exact fun _ _=>rfl | refine And.intro ?_ ?_)
 ·rw[e,Bq.2 rfl] at hn;cases hn
theorem Cw{α β:Type}{a b:α}{c d:β}(h:a=b↔c=d):Bk a b=Bk c d:=by
 rw[Bool.eq_iff_iff,Bq,Bq];exact h
theorem BcB{a b:Arr}(h1:a.k=b.k)(h2:a.sh=b.sh)(h3:a.nu=b.nu)(h4:a.it=b.it):a=b:=by
 cases a;cases b
 simp only[Arr.k,Arr.sh,Arr.nu,Arr.it] at h1 h2 h3 h4
 rw[h1,h2,h3,h4]
noncomputable def Bh9(l m:List Arr):Con:=fun k ds _=>match k with
 |116=>some (pC ds (.bool (Bk l m)) (BS ds [gsl 4 Arr.row1 l,gsl 4 Arr.row1 m,.fn (.func 82) [] []]))
 |115=>match ds with
  | [.sl 1 n f _,.sl 1 p g _]=>some (pC ds (.bool (Bk (Bu n f) (Bu p g))) ((IntsP n f/\n<=maxLen)/\IntsP p g/\p<=maxLen))
  |_=>none
 |_=>none
noncomputable def Eas(a b:Arr):Senv:=EC (Bh9 a.it b.it) 31 5 [] (fun _=>([],[]))
def QrF(a:Arr):Nat:=LN (Arr.sh a)
def Qwj(a:Arr):Prop:=(IntsP (QrF a) fun i=>[ZI (GI (Arr.sh a) i)])/\QrF a<=9223372036854775807
def Qwk(a:Arr):List Int:=Bu (QrF a) fun i=>[ZI (GI (Arr.sh a) i)]
def QrG(a:Arr):Nat:=LN (Arr.nu a)
def Qwl(a:Arr):Prop:=(IntsP (QrG a) fun i=>[ZI (GI (Arr.nu a) i)])/\QrG a<=9223372036854775807
def Qwm(a:Arr):List Int:=Bu (QrG a) fun i=>[ZI (GI (Arr.nu a) i)]
def Qm4(a:Arr):List Arr:=Arr.it a
def Qwn(a:Arr):Nat:=LN (Qm4 a)
def Qwo:Arr:=DA
def Qm5(a:Arr)(b:Nat):Arr:=List.getD (Qm4 a) b Qwo
def QFL(a:Arr)(b:Nat):List Int:=Arr.sh (Qm5 a b)
def QFM(a:Arr)(b:Nat):List Int:=Arr.nu (Qm5 a b)
def Qwp(a:Arr)(b:Nat):List Arr:=Arr.it (Qm5 a b)
def QFN(a:Arr)(b:Nat):List D:=[ZI (Arr.k (Qm5 a b)),SI (QFL a b),SI (QFM a b),D.sl N4 (LN (Qwp a b)) (fun i=>Arr.row (List.getD (Qwp a b) i Qwo)) Mode.any]
def Qwq(a:Arr):Prop:=SM (Qwn a)/\(∀(i:Nat),i<Qwn a->SM (QFN a i))/\True
def QrH(a b:Arr):Prop:=RT (false=Bk a b)
theorem BkP(a b : Arr)(ha : a.sh.length<=maxLen /\ a.nu.length<=maxLen /\ a.it.length<=maxLen)(hb : b.sh.length<=maxLen /\ b.nu.length<=maxLen /\ b.it.length<=maxLen)(hc : ConOk Tryz.prog (Bh9 a.it b.it)) :
  ACalls Tryz.prog 82 [.agg a.row2,.agg b.row2] ⟨[],[]⟩ (SpecR (sC [.agg a.row2,.agg b.row2] (.bool (Bk a b))) ()):=by
 refine Bh (A:=sC _ _) (x:=()) (E:=Eas a b) (eOk hc rfl) Tryz.func82 rfl (by kernel_rfl) rfl (by simp[sC,Eas,EC,E0]) ?_
 refine Bl (T :=
  ∀(x:Nat),True->∀(x_1:Nat),x≠x_1/\True->SM x/\SM x_1/\ifB (Arr.k a==Arr.k b) (SM x/\SM x_1/\(Qwj a/\Qwj b)/\∀(y:Unit),True->ifB (Bk (Qwk a) (Qwk b)) (SM x/\SM x_1/\(Qwl a/\Qwl b)/\∀(y:Unit),True->ifB (Bk (Qwm a) (Qwm b)) (SM x/\SM x_1/\(Qwq a/\Qwq b/\SM (D.fn (Fn.func (82:Nat)) [] [])/\True)/\∀(y:Unit),True->RT (Bk (Qm4 a) (Qm4 b)=Bk a b)) (QrH a b)) (QrH a b)) (QrH a b)) (by kernel_rfl) ?_
 delta DA GI LN N1 N4 SI SM Z0 ZI QrF Qwj Qwk QrG Qwl Qwm Qm4 Qwn Qwo Qm5 QFL QFM Qwp QFN Qwq QrH RT
 simp only[Bg,Be,decide_eq_true_eq,decide_eq_false_iff_not,true_and,and_true,beq_iff_eq,bne_iff_ne,bne_eq_false_iff_eq,beq_eq_false_iff_ne,ne_eq,exists_const,forall_const,implies_true,Int.toNat_natCast,Bool.not_eq_true',Bool.not_eq_false',Bo,eq_self,CL]
 simp only[maxLen] at ha hb
 obtain ⟨a1,a2,a3⟩:=ha
 obtain ⟨b1,b2,b3⟩:=hb
 have no:∀ {α:Type} {x y:α},Bk x y=false->x≠y:=fun h e=>by rw[Bq.2 e] at h;cases h
 exact fun _ _ _=>⟨fun hk=>⟨⟨⟨BU _,a1⟩,BU _,b1⟩,fun hs=>⟨⟨⟨BU _,a2⟩,BU _,b2⟩,fun hn=>Cw ⟨fun e=>BcB hk (Bq.1 hs) (Bq.1 hn) e,fun e=>by rw[e]⟩,fun hn=>Bi fun e=>no hn (by rw[e])⟩,fun hs=>Bi fun e=>no hs (by rw[e])⟩,fun h=>Bi fun e=>h (by rw[e])⟩
theorem Ben{a b:Arr}{k:Nat}{d:D}(h:ACalls Tryz.prog k [.agg a.row2,.agg b.row2] ⟨[],[]⟩ (SpecR (sC [.agg a.row2,.agg b.row2] d) ())):ACalls Tryz.prog k [.agg a.row1,.agg b.row1] ⟨[],[]⟩ (SpecR (sC [.agg a.row1,.agg b.row1] d) ()) :=
 (h.wkArgs (by simp only[wkL,wkD];exact⟨Eh _,Eh _,trivial⟩)).mono fun _ _ ⟨y,q1,q2,q3⟩=>⟨y,q1,q2,q3⟩
theorem Bfe:∀(a b:Arr),a.ok->b.ok->ACalls Tryz.prog 82 [.agg a.row2,.agg b.row2] ⟨[],[]⟩ (SpecR (sC [.agg a.row2,.agg b.row2] (.bool (Bk a b))) ())
 |.mk k s n is,.mk k' s' n' is',ha,hb=>by
  simp only[Arr.ok] at ha hb
  obtain ⟨_,_,_,a1,a2,a3,a4⟩:=ha
  obtain ⟨_,_,_,b1,b2,b3,b4⟩:=hb
  refine BkP _ _ ⟨a1,a2,a3⟩ ⟨b1,b2,b3⟩ ?_
  intro f ds S A h
  unfold Bh9 at h
  split at h
  ·injection h with h;subst h
   refine C4 fun e=>⟨Bo _,CU e (Bib _ _ a3 b3 ?_)⟩
   intro f ds S A h
   unfold Bif at h
   split at h
   ·injection h with h;subst h
    refine Bml fun (x:Arr×Arr) hx=>?_
    obtain ⟨x,y⟩:=x
    have hx1:x∈is:=hx.1
    have hx2:y∈is':=hx.2
    exact Ben (Bfe x y ((Ev _).1 a4 x hx1) ((Ev _).1 b4 y hx2))
   ·cases h
  ·split at h
   ·injection h with h;subst h
    exact C4 fun ⟨⟨h1,h2⟩,h3,h4⟩=>⟨Bo _,CU (us:=[isl (Bu _ _) .any,isl (Bu _ _) .any]) ⟨(CN h1).1,(CN h3).1,trivial⟩ (Bms _ _ (by rw[Ck];exact h2) (by rw[Ck];exact h4))⟩
   ·cases h
  ·cases h
termination_by a=>SizeOf.sizeOf a
decreasing_by
 have:=List.sizeOf_lt_of_mem hx1
 simp;omega
theorem OI{l:List Nd}{m:List Int}:(l.map Nd.cl==m)=true↔l.length=m.length/\∀j,j<l.length->(l.getD j default).cl=m.getD j 0:=by
 rw[beq_iff_eq]
 constructor
 ·rintro rfl
  refine⟨by simp,fun j hj=>?_⟩
  simp[List.getD_eq_getElem?_getD,hj]
 ·rintro ⟨h1,h2⟩
  apply List.ext_getElem (by simpa using h1)
  intro i h3 h4
  have h3:i<l.length:=by simpa using h3
  have:=h2 i h3
  simpa[List.getD_eq_getElem?_getD,h3,h4] using this
theorem Uh{l:List Nd}{m:List Int}(h:¬(l.length=m.length/\∀j,j<l.length->(l.getD j default).cl=m.getD j 0)):false=(l.map Nd.cl==m):=by
 cases e:(l.map Nd.cl==m) with
 |false=>rfl
 |true=>exact (h (OI.1 e)).elim
noncomputable def Eqc(l:List Nd)(m:List Int):Senv:={ EC CK 32 3 [6,7,8,9,14,15,16,17,18,30] (fun _=>([],[])) with
 ann:=fun q _ S=>match q with
  |0=>some { slots:=[17],keep:=[0,1,2,15,16],α:=Nat,st:=fun i=>([.int .i64 i],S),inv:=fun i=>i<=l.length/\∀j,j<i->(l.getD j default).cl=m.getD j 0,mu:=fun i=>l.length-i }
  |_=>none }
def Qwr(a:List Nd)(b:List Int):Prop:=RT (false=(List.map Nd.cl a==b))
def Qws:Arr:=DA
def Ql3:Nd:=Nd.mk Z0 Z0 Z0 [] Z0 Z0 Qws [] [] Z0 Z0 Z0
def Vy(a:List Nd)(b:Nat):Nd:=List.getD a b Ql3
def Qwt(a:List Nd)(b:Nat):Int:=Nd.cl (Vy a b)
def QrI(a:Nat)(b:List Nd)(c:List Int):Prop:=a<=LN b/\∀(j:Nat),j<a->Qwt b j=GI c j
def Qm6(a:List Nd)(b:Nat):Arr:=Nd.va (Vy a b)
def QFO(a:List Nd)(b:Nat):List Int:=Arr.sh (Qm6 a b)
def QFP(a:List Nd)(b:Nat):List Int:=Arr.nu (Qm6 a b)
def Qwu(a:List Nd)(b:Nat):List Arr:=Arr.it (Qm6 a b)
def Qwv(a:List Nd)(b:Nat):List Nd:=Nd.ki (Vy a b)
def Qww(a:List Nd)(b:Nat):List Sm:=Nd.bo (Vy a b)
def QFQ(a:List Nd):D:=D.sl 15 (LN a) (fun i=>[ZI (Nd.kd (Vy a i)),ZI (Nd.at_ (Vy a i)),ZI (Qwt a i),D.str (Nd.tx (Vy a i)),ZI (Nd.pr (Vy a i)),ZI (Nd.op (Vy a i)),ZI (Arr.k (Qm6 a i)),SI (QFO a i),SI (QFP a i),D.sl N4 (LN (Qwu a i)) (fun i_1=>Arr.row (List.getD (Qwu a i) i_1 Qws)) Mode.any,D.sl 15 (LN (Qwv a i)) (fun i_1=>Nd.row (List.getD (Qwv a i) i_1 Ql3)) Mode.any,D.sl 34 (LN (Qww a i)) (fun i_1=>Sm.row (List.getD (Qww a i) i_1 (Sm.mk Z0 Z0 [] Z0 Ql3 Ql3))) Mode.any,ZI (Nd.de (Vy a i)),ZI (Nd.sl (Vy a i)),ZI (Nd.ss (Vy a i))]) Mode.any
def Qwx(a:List Nd):Prop:=SM (QFQ a)
def QFR(a:List Int):D:=SI a
theorem Bmq(l:List Nd)(m:List Int)(hl:l.length<=maxLen)(hm:m.length<=maxLen):CD 140 [gsl 15 Nd.row1 l,isl m .any,.fn (.func 141) [] []] (.bool (l.map Nd.cl==m)):=by
 refine Bh (A:=sC _ _) (x:=()) (E:=Eqc l m) (eOk BE rfl) Tryz.func140 rfl (by kernel_rfl) rfl (by simp[sC,Eqc,EC,E0]) ?_
 refine Bl (T :=
  ifB ((LI l) != (LI m)) (Qwr l m) ((∃(x:Nat),QrI x l m/\(Z0=(↑x:Int)/\True)/\True/\True)/\∀(x:Nat),QrI x l m->ifB (decide ((↑x:Int)<(LI l))) (Bf (Z0<=(↑x:Int)/\(↑x:Int)<(LI l)) (∀(x_1:Nat),True->SM x_1/\Bf (Z0<=(↑x:Int)/\(↑x:Int)<(LI m)) (SM x_1/\∀(x_2:Nat),x_1≠x_2/\True->SM x_2/\True/\ifB (!Nd.cl (List.getD l (Int.toNat (↑x:Int)) Ql3)==GI m (Int.toNat (↑x:Int))) (Qwr l m) ((Qwx l/\SM (QFR m)/\SM (D.fn (Fn.func (141:Nat)) [] [])/\Qwx l/\SM (ZI (LI l))/\True)/\∃(y:Nat),QrI y l m/\LN l-y<LN l-x/\(IntKind.wrap IntKind.i64 ((↑x:Int)+Z1)=(↑y:Int)/\True)/\True/\True)))) (RT (true=(List.map Nd.cl l==m))))) (by kernel_rfl) ?_
 delta DA GI LI LN N1 N4 SI SM Z0 Z1 ZI Qwr Qws Qwv Qww QFQ Qwx QFR Ql3 Vy Qwt QrI Qm6 QFO QFP Qwu RT
 simp only[eq_self,ne_eq,implies_true,Bo,Int.toNat_natCast,Bg,Be,decide_eq_true_eq,decide_eq_false_iff_not,true_and,and_true,beq_iff_eq,bne_iff_ne,bne_eq_false_iff_eq,beq_eq_false_iff_ne,Bool.not_eq_true',Bool.not_eq_false',exists_const,forall_const]
 simp only[<- dn]
 simp only[maxLen] at hl hm
 refine⟨fun h=>Uh fun ⟨e,_⟩=>h (by omega),fun he=>⟨⟨0,⟨Nat.zero_le _,fun j hj=>by omega⟩,rfl⟩,fun x ⟨x1,hx⟩=>⟨fun hlt=>⟨⟨by omega,by omega⟩,fun _=>⟨⟨by omega,by omega⟩,fun _ _=>⟨fun h=>Uh fun ⟨_,e⟩=>h (e x (by omega)),fun h=>⟨x+1,⟨by omega,fun j hj=>by
   by_cases e:j=x
   ·rw[e];exact h
   ·exact hx j (by omega)⟩,by omega,Bb (by omega) (by omega)⟩⟩⟩⟩,fun hge=>(OI.2 ⟨by omega,fun j hj=>hx j (by omega)⟩).symm⟩⟩⟩
def Bfj(n:Nd):Con:=fun k ds S=>match k with
 |140=>match ds with
  | [_,.sl 1 m f _,_]=>some (pA ds S (.bool (n.ki.map Nd.cl==Bu m f)) (wkL ds [gsl 15 Nd.row1 n.ki,isl (Bu m f) .any,.fn (.func 141) [] []]/\m<=maxLen))
  |_=>none
 |_=>none
theorem BhP{n:Nd}(h:n.ki.length<=maxLen):ConOk Tryz.prog (Bfj n):=by
 intro k ds S A hh
 unfold Bfj at hh
 split at hh
 ·split at hh
  ·injection hh with hh;subst hh
   exact Bm fun ⟨e,hm⟩=>CD.at_ (CD.wk (Bmq _ _ h (by rw[Ck];exact hm)) e) _
  ·cases hh
 ·cases hh
noncomputable def Ecls(n:Nd):Senv:=EC (Bfj n) 9 3 [4] (fun _=>([],[]))
def Qwy(a:Nd):D:=D.sl 15 (LN (Nd.ki a)) (fun i=>Nd.row1 (List.getD (Nd.ki a) i (Nd.mk Z0 Z0 Z0 [] Z0 Z0 DA [] [] Z0 Z0 Z0))) Mode.any
def Qwz:List D:=[D.fn (Fn.func (141:Nat)) [] []]
def QwA(a:List Int):List Int:=Bu (LN a) fun i=>[ZI (GI a i)]
theorem Bk5(n:Nd)(m:List Int)(hl:n.ki.length<=maxLen)(hm:m.length<=maxLen):CD 125 [.agg n.row2,isl m .any] (.bool (Bj n m)):=by
 refine Bh (A:=sC _ _) (x:=()) (E:=Ecls n) (eOk (BhP hl) rfl) Tryz.func125 rfl (by kernel_rfl) rfl (by simp[sC,Ecls,EC,E0]) ?_
 refine Bl (T :=
  ∀(x:Nat),True->SM x/\∃(x:Unit),(wkL (Qwy n::SI m::Qwz) (Qwy n::SI (QwA m)::Qwz)/\LN m<=9223372036854775807)/\∀(y:Unit),True->RT ((List.map Nd.cl (Nd.ki n)==QwA m)=Bj n m)) (by kernel_rfl) ?_
 delta DA GI LN N1 SI SM Z0 ZI Qwy Qwz QwA RT
 simp only[true_and,and_true,exists_const,forall_const,CL]
 exact⟨⟨Bc _,hm⟩,rfl⟩
def Bjn(n:Nd):Con:=fun k ds S=>match k with
 |124=>some (pA ds S (.int .i64 (BB n.va).1) (wkL ds [.agg n.va.row1]))
 |69=>some (pA ds S (.bool (Cb n.tx)) (wkL ds [.str n.tx]))
 |102=>some (pA ds S (.str (EF n.pr)) (wkL ds [.int .i64 n.pr]))
 |103=>some (pA ds S (.str (opT n.op)) (wkL ds [.int .i64 n.op]))
 |_=>none
theorem BiT{n:Nd}(h:n.va.ok):ConOk Tryz.prog (Bjn n):=by
 intro k ds S A hh
 unfold Bjn at hh
 split at hh
 ·injection hh with hh;subst hh
  exact Bm fun e=>CD.at_ (CD.wk (Bjh n.va h) e) _
 ·injection hh with hh;subst hh
  exact Bm fun e=>CD.at_ (CD.wk (BlA n.tx) e) _
 ·injection hh with hh;subst hh
  exact Bm fun e=>CD.at_ (CD.wk (BlQ n.pr) e) _
 ·injection hh with hh;subst hh
  exact Bm fun e=>CD.at_ (CD.wk (BlK n.op) e) _
 ·cases hh
noncomputable def Ele(n:Nd):Senv:=EC (Bjn n) 104 7 [10,12,13,49,64,71,82,89,93] (fun _=>([],[]))
def HQ(a:Nd):Bool:=EN a
def HE(a:Nd):Prop:=True/\∃(_y:Unit),True/\false=HQ a/\True/\True
def Jy(a:Nd):Int:=Nd.kd a
def Ql4(a:Nd):Arr:=Nd.va a
def QwB(a:Nd):List Int:=Arr.sh (Ql4 a)
def QwC(a:Nd):Nat:=LN (QwB a)
def QwD(a:Nd):Int:=(NI (QwC a))
def QwE(a:Nd):Bool:=QwD a==Z0
def QrJ(a:Nd):Int:=Arr.k (Ql4 a)
def QwF(a:Nd):Bool:=QrJ a != (3:Int)
def QrK(a:Nd):Bool:=bif QwE a then QwF a else false
def QwG(a:Nd):Bool:=QwD a==Z1
def QwH(a:Nd):Bool:=QrJ a==2
def QrL(a:Nd):Bool:=bif QwG a then QwH a else false
def HR(a:Nd):Int:=Nd.cl a
def QFS(a:Nd):List Int:=Arr.nu (Ql4 a)
def QwI(a:Nd):List Arr:=Arr.it (Ql4 a)
def QwJ(a:Nd):List D:=[D.agg [ZI (QrJ a),D.sl N1 (QwC a) (fun i=>[ZI (GI (QwB a) i)]) Mode.any,SI (QFS a),D.sl N4 (LN (QwI a)) (fun i=>Arr.row (GA (QwI a) i)) Mode.any]]
def QrM(a:Nat)(b:Nd):Prop:=SM a/\True/\∃(_y:Unit),True/\(HR b==Z1)=HQ b/\True/\True
def QrN(a:Nat)(b:Nd):Prop:=SM a/\True/\∃(_y:Unit),True/\(HR b==2)=HQ b/\True/\True
def QwK(a:Nat)(b:Nd):Prop:=SM a/\∃(_x:Unit),wkL [ZI (Nd.op b)] [ZI (Nd.op b)]/\∀(_y:Unit),True->True/\∃(_y:Unit),True/\(opT (Nd.op b) != [])=HQ b/\True/\True
def QrO(a:Nd)(b:Nat):Prop:=ifB (Jy a==17) (SM b/\ifB (decide (Nd.op a<=5)) (SM b/\ifB (HR a==3) (QwK b a) (HE a)) (SM b/\ifB (HR a==4) (QwK b a) (HE a))) (HE a)
def QrP(a:Nd)(b:Nat):Prop:=ifB (Jy a==9) (SM b/\ifB (HR a==2) (SM b/\∃(_x:Unit),wkL [ZI (Nd.pr a)] [ZI (Nd.pr a)]/\∀(_y:Unit),True->True/\∃(_y:Unit),True/\(EF (Nd.pr a) != [])=HQ a/\True/\True) (HE a)) (ifB (Jy a==11) (ifB (Jy a==11) (QrN b a) (QrO a b)) (ifB (Jy a==12) (ifB (Jy a==12) (QrN b a) (QrO a b)) (ifB (Jy a==13) (QrN b a) (QrO a b))))
theorem Bm9(n:Nd)(h:n.va.ok):CD 99 [.agg n.row2] (.bool (EN n)) := by
  refine Bh (A := sC _ _) (x := ()) (E := Ele n) (eOk (BiT h) rfl) Tryz.func99 rfl (by kernel_rfl) rfl (by simp [sC,Ele,EC,E0]) ?_
  refine Bl (T :=
    ∀ (x:Nat),True->SM x/\ifB (decide (Z0 < (LI (Nd.ki n)))) (HE n) (SM x/\ifB (Jy n == Z1) (SM x/\∀ (x_1:Nat),x ≠ x_1/\True->SM x_1/\(SM x_1/\ifB (QwE n) (SM x_1/\QwF n = QrK n/\True) (false = QrK n/\True))/\(SM x_1/\ifB (QwG n) (SM x_1/\QwH n = QrL n/\True) (false = QrL n/\True))/\SM x/\ifB (HR n == Z1) (SM x_1/\∃ (x:Unit),wkL (QwJ n) (QwJ n)/\∀ (y:Unit),True->ifB (Prod.fst (BB (Ql4 n)) == Z0) (ifB (QrK n) (True/\∃ (y:Unit),True/\true = HQ n/\True/\True) (True/\∃ (y:Unit),True/\QrL n = HQ n/\True/\True)) (HE n)) (HE n)) (ifB (Jy n == (2:Int)) (SM x/\ifB (decide (Z1 <= HR n)) (SM x/\ifB (decide (HR n <= (4:Int))) (SM x/\∃ (x:Unit),wkL [D.str (Nd.tx n)] [D.str (Nd.tx n)]/\∀ (y:Unit),True->True/\∃ (y:Unit),True/\Cb (Nd.tx n) = HQ n/\True/\True) (HE n)) (HE n)) (ifB (Jy n == (6:Int)) (ifB (Jy n == (6:Int)) (QrM x n) (QrP n x)) (ifB (Jy n == (7:Int)) (ifB (Jy n == (7:Int)) (QrM x n) (QrP n x)) (ifB (Jy n == (8:Int)) (QrM x n) (QrP n x))))))) (by kernel_rfl) ?_
  delta DA GA GI LI LN N1 N4 NI SI SM Z0 Z1 ZI HQ HE QrK QwG QwH QrL HR QFS QwI QwJ QrM QrN Jy QwK QrO QrP Ql4 QwB QwC QwD QwE QrJ QwF
  try simp only []
  try simp only [<- dn]
  simp only [ne_eq,Bg,decide_eq_true_eq,decide_eq_false_iff_not,true_and,and_true,beq_iff_eq,beq_eq_false_iff_ne,exists_const,forall_const]
  have e1:n.ki.isEmpty = (n.ki.length == 0) := by cases n.ki <;> rfl
  have e2:n.va.sh.isEmpty = (n.va.sh.length == 0) := by cases n.va.sh <;> rfl
  have e3:∀ l:List UInt8,(l != []) = !l.isEmpty := fun l => by cases l <;> rfl
  have e40:((n.va.sh.length:Int) == 0) = (n.va.sh.length == 0) := by rw [Bool.eq_iff_iff,beq_iff_eq,beq_iff_eq]; omega
  have e41:((n.va.sh.length:Int) == 1) = (n.va.sh.length == 1) := by rw [Bool.eq_iff_iff,beq_iff_eq,beq_iff_eq]; omega
  simp only [e3,e40,e41]
  intro x
  repeat' (first | exact Bc _ | refine And.intro ?_ ?_ | intro _)
  all_goals first
    | exact Bc _
    | (exfalso; omega)
    | (simp_all [EN]; done)
    | (simp_all [EN]; omega)
    | (have h9 : n.ki.isEmpty = false := by rw [e1, beq_eq_false_iff_ne]; omega
       unfold EN; rw [h9]; rfl)
theorem Bmj(x y:Nat)(hx:x<18446744073709551616)(hy:y<18446744073709551616):CD 142 [.int .u64 x,.int .u64 y] (.tup [.int .u64 ((x*y / 18446744073709551616:Nat):Int),.int .u64 ((x*y % 18446744073709551616:Nat):Int)]):=by
 refine ACalls.of_shelf ⟨_,Tryz.func142,by kernel_rfl,by kernel_rfl⟩ fun C args w ha=>?_
 obtain ⟨u,v,e,hu,hv⟩:=Ol ha
 have e2:args=[u,v].toArray:=by rw[<- e]
 subst e2
 simp only[Rep] at hu hv;subst hu hv
 have:=Tryz.bits_Mul x y hx hy w
 exact this.mono fun e w' ⟨h1,h2⟩=>⟨⟨_,h1,by simp[Rep,RepL]⟩,by rw[h2];exact Go.RowKit.Below.refl _ _⟩
def Bhv(j:Nat):Nat->List D:=fun i=>[.int .i64 (if i<j then 1 else 0)]
def BlI(n:Nat):Con:=fun k ds S=>match k with
 |142=>some (pA ds S (.tup [.int .u64 0,.int .u64 n]) (ds=[.int .u64 1,.int .u64 n]))
 |_=>none
noncomputable def Erp(n:Nat):Senv:={ EC (BlI n) 48 2 [4,5,6,7,8,10,26,37] (fun id=>match id with | 9=>([0,1,2,3,4,5,6,7,8,9],[7]) | _=>([],[])) with
 gr:=[.slot 4]
 ann:=fun b env _S=>match b with
  |0=>match Ab.look env 7 with
   |.vs _k x _len cap _w=>some { slots:=[8],keep:=[0,1,7],α:=Nat,st:=fun j=>([.int .i64 j],⟨[(0,x,.vec 1 n cap (Bhv j))],[]⟩),inv:=fun j=>1<=j/\j<=n,mu:=fun j=>n-j }
   |_=>none
  |_=>none }
def QcM(a:Nat):Int:=IntKind.wrap IntKind.i64 (↑a:Int)
def Yf(a:Nat):Nat:=Int.toNat (QcM a)
def Qm7(a:Nat):Prop:=SM (Yf a)
def QrQ(a b:Nat):Prop:=a<Yf b
def QcN(a b:Nat):List D:=Bhv a b
def Qm8(a:Nat):Int:=(NI (Yf a))
def Ym(a:Nat):Nat:=Int.toNat (↑a:Int)
def QFT:D:=D.sl N1 N1 (fun _x=>[ZI Z1]) Mode.full
def QFU(a b:Nat):D:=D.vs N0 a (Yf b) (Yf b) N1
def QwL(a b:Nat):Nat:=min (Yf a-Ym b) (Ym b)
theorem Bm4(n:Nat)(h1:2<=n)(h2:n<=1000):CD 126 [.sl 1 1 (fun _=>[.int .i64 1]) .full,.int .i64 n] (isl (List.replicate n 1) .any):=by
 refine Bh (A:=sC _ _) (x:=()) (E:=Erp n) (eOk ?_ rfl) Tryz.func126 rfl (by kernel_rfl) rfl (by simp[sC,Erp,EC,E0]) ?_
 ·intro k ds S A hh
  unfold BlI at hh
  split at hh
  ·injection hh with hh;subst hh
   refine Bm fun e=>?_
   rw[e]
   have:=Bmj 1 n (by omega) (by omega)
   rw[Nat.one_mul,Nat.div_eq_of_lt (by omega),Nat.mod_eq_of_lt (by omega)] at this
   exact CD.at_ this _
  ·cases hh
 refine Bl (T :=
  ∃(x:Unit),[D.int IntKind.u64 Z1,D.int IntKind.u64 (IntKind.wrap IntKind.u64 (↑n:Int))]=[D.int IntKind.u64 Z1,D.int IntKind.u64 (↑n:Int)]/\∀(y:Unit),True->(SM (decide ((9223372036854775807:Int)<(↑n:Int)))/\True)/\ifB (decide ((9223372036854775807:Int)<(↑n:Int))) (∃(y:Unit),True/\False/\True/\True) (Bf (Z0<=QcM n/\QcM n<=QcM n/\(8:Int)*QcM n<=281474976710656/\QcM n<=9223372036854775807) (∀(x:Nat),True->SM x/\N1<=Yf n/\Qm7 n/\(∃(x_1:Nat),(N1<=x_1/\x_1<=n)/\(Z1=(↑x_1:Int)/\True)/\(SM x/\(Yf n=n/\Qm7 n/\∀(i:Nat),QrQ i n->(if i<N1 then [ZI Z1] else [ZI Z0])=QcN x_1 i)/\True)/\True)/\∀(x_1:Nat),N1<=x_1/\x_1<=n->ifB (decide ((↑x_1:Int)<Qm8 n)) (Z0<=(↑x_1:Int)/\(↑x_1:Int)<=Qm8 n/\(↑x_1:Int)<Qm8 n/\Bf (Z0<=(↑x_1:Int)/\(↑x_1:Int)<=Qm8 n) (SM x/\SM x/\Ym x_1*N1=Ym x_1/\Ym x_1*N1+(Yf n-Ym x_1)=n/\(∀(i:Nat),i<Ym x_1->SM true)/\(SM QFT/\SM (ZI (↑n:Int))/\SM (QFU x n)/\True)/\∃(y:Nat),(N1<=y/\y<=n)/\n-y<n-x_1/\(IntKind.wrap IntKind.i64 ((↑x_1:Int)+(NI (QwL n x_1)))=(↑y:Int)/\True)/\(SM x/\(SM n/\Qm7 n/\∀(i:Nat),i<n->(if i<Ym x_1 then QcN x_1 i else if i<Ym x_1+QwL n x_1 then Bhv x_1 (i-Ym x_1) else QcN x_1 i)=QcN y i)/\True)/\True)) (SM x/\Qm7 n/\Bf (Yf n<=n) ((∀(i:Nat),QrQ i n->(List.all (QcN x_1 i) fun (x:D)=>match x with | D.unk=>false | D.agg cs=>false | D.tup ds=>false | x=>true)=true)/\∀(t:Nat),True/\∃(y:Unit),True/\(Yf n=LN (List.replicate n Z1)/\(∀(i:Nat),QrQ i n->QcN x_1 i=[ZI (GI (List.replicate n Z1) i)])/\True)/\True/\True))))) (by kernel_rfl) ?_
 delta GI LN N0 N1 NI SM Z0 Z1 ZI QcM Yf Qm7 QrQ QcN Qm8 Ym QFT QFU QwL
 simp only[eq_self,implies_true,Int.toNat_natCast,Bg,Be,decide_eq_true_eq,decide_eq_false_iff_not,true_and,and_true,exists_const,forall_const]
 have w64:IntKind.i64.wrap (n:Int)=n:=Bb (by omega) (by omega)
 have wu:IntKind.u64.wrap (n:Int)=n:=by
  simp only[IntKind.wrap,IntKind.signed,IntKind.bits]
  simp
  omega
 simp only[w64,wu,Int.toNat_natCast]
 refine⟨trivial,fun h=>by omega,fun _=>⟨⟨by omega,by omega,by omega,by omega⟩,by omega,⟨1,⟨by omega,by omega⟩,rfl,trivial,fun i _=>?_⟩,fun j ⟨j1,j2⟩=>⟨fun hlt=>⟨by omega,by omega,hlt,⟨by omega,by omega⟩,by omega,by omega,j+min (n-j) j,⟨by omega,by omega⟩,by omega,Bb (by omega) (by omega),fun i hi=>?_⟩,fun hge=>⟨Nat.le_refl _,fun i _=>rfl,by simp,fun i hi=>?_⟩⟩⟩⟩
 ·unfold Bhv
  split<;>rfl
 ·unfold Bhv
  by_cases a1:i<j
  ·rw[if_pos a1,if_pos a1,if_pos (by omega)]
  ·rw[if_neg a1]
   by_cases a2:i<j+min (n-j) j
   ·rw[if_pos a2,if_pos (by omega),if_pos a2]
   ·rw[if_neg a2,if_neg a1,if_neg a2]
 ·unfold Bhv
  rw[if_pos (by omega)]
  simp[List.getD_eq_getElem?_getD,hi]
def Bjs(n:Nd):Con:=fun k ds S=>match k with
 |125=>match ds with
  | [_,.sl 1 m f _]=>some (pA ds S (.bool (Bj n (Bu m f))) (wkL ds [.agg n.row2,isl (Bu m f) .any]/\m<=maxLen))
  |_=>none
 |126=>some (pA ds S (isl (List.replicate n.ki.length 1) .any) (2<=n.ki.length/\n.ki.length<=1000/\wkL ds [.sl 1 1 (fun _=>[.int .i64 1]) .full,.int .i64 n.ki.length]))
 |_=>none
theorem Bil{n:Nd}(h:n.ki.length<=maxLen):ConOk Tryz.prog (Bjs n):=by
 intro k ds S A hh
 unfold Bjs at hh
 split at hh
 ·split at hh
  ·injection hh with hh;subst hh
   exact Bm fun ⟨e,hm⟩=>CD.at_ (CD.wk (Bk5 n _ h (by rw[Ck];exact hm)) e) _
  ·cases hh
 ·injection hh with hh;subst hh
  exact Bm fun ⟨h1,h2,e⟩=>CD.at_ (CD.wk (Bm4 _ h1 h2) e) _
 ·cases hh
theorem Bep{n:Nd}(h:n.kd=15):Ej n=(n.cl==2&&Bj n [4,2,EG n]):=by
 unfold Ej
 simp only[h]
 rfl
theorem Bkh{n:Nd}(h:n.kd=15)(hc:(bif n.cl != 2 then true else ((n.ki.length:Int) != 3))=true):false=Ej n:=by
 rw[Bep h]
 by_cases h2:n.cl=2
 ·have e:(n.cl != 2)=false:=by simp[h2]
  rw[e] at hc
  have hl:n.ki.length≠3:=by
   have:((n.ki.length:Int) != 3)=true:=hc
   rw[bne_iff_ne] at this
   omega
  have:Bj n [4,2,EG n]=false:=by
   unfold Bj
   rw[beq_eq_false_iff_ne]
   intro e
   have:=congrArg List.length e
   simp at this
   exact hl this
  rw[this];simp
 ·have:(n.cl==2)=false:=by simpa using h2
  rw[this];rfl
theorem BgJ{n:Nd}(hc:(bif n.cl != 2 then true else ((n.ki.length:Int) != 3))=false):(n.cl==2)=true:=by
 cases h2:n.cl != 2 with
 |true=>rw[h2] at hc;cases hc
 |false=>simpa using h2
theorem Bmf{n:Nd}(h:n.kd=15)(hc:(bif n.cl != 2 then true else ((n.ki.length:Int) != 3))=false)(hr:(bif (n.ki.getD 0 default).kd==17 then bif bif (n.ki.getD 0 default).op==7 then true else (n.ki.getD 0 default).op==8 then true else (n.ki.getD 0 default).op==9 else false)=true):Bj n [4,2,1]=Ej n:=by
 rw[Bep h,BgJ hc]
 have:EG n=1:=by
  unfold EG
  refine if_pos ?_
  cases a:(n.ki.getD 0 default).kd==17<;>cases b:(n.ki.getD 0 default).op==7<;>cases c:(n.ki.getD 0 default).op==8<;>cases d:(n.ki.getD 0 default).op==9<;>simp[] at hr<;>simp_all
 rw[this];simp
theorem BlW{n:Nd}(h:n.kd=15)(hc:(bif n.cl != 2 then true else ((n.ki.length:Int) != 3))=false)(hr:(bif (n.ki.getD 0 default).kd==17 then bif bif (n.ki.getD 0 default).op==7 then true else (n.ki.getD 0 default).op==8 then true else (n.ki.getD 0 default).op==9 else false)=false):Bj n [4,2,2]=Ej n:=by
 rw[Bep h,BgJ hc]
 have:EG n=2:=by
  unfold EG
  refine if_neg ?_
  cases a:(n.ki.getD 0 default).kd==17<;>cases b:(n.ki.getD 0 default).op==7<;>cases c:(n.ki.getD 0 default).op==8<;>cases d:(n.ki.getD 0 default).op==9<;>simp[] at hr<;>simp_all
 rw[this];simp
theorem Ma{r:List D}{m:Nat}{f:Nat->List D}{md:Ab.Mode}(h:IntsP m f):wkL [.agg r,.sl 1 m f md] [.agg r,isl (Bu m f) .any]:=by
 simp only[wkL]
 refine⟨Bd _,?_,trivial⟩
 simp only[isl,wkD,Ba]
 refine⟨by simp,by simp[Ck],fun i hi=>?_,by simp[BG]⟩
 have e:(Bu m f).getD i 0=BjV (f i):=by simp[Bu,List.getD_eq_getElem?_getD,hi]
 rw[e,h i hi]
 exact Bc _
noncomputable def Ecm(n:Nd):Senv:=EC (Bjs n) 146 7 [8,9,37,50,64,76,87,110,117] (fun id=>match id with | 4=>([0,1,2,3,4,5,6,7,8,9,10,11,12,13,14,15,16,17,18,20,21,22,19,23,24,25,26],[19,23,24]) | _=>([],[]))
def Qci(a:Nd):Int:=Nd.kd a
def QcO(a:Nd):Int:=Nd.cl a
def QrR(a:Nd):Bool:=QcO a==Z1
def QcP(a:Nd):Nat:=LN (Nd.ki a)
def QcQ(a:Nd):Int:=(NI (QcP a))
def QrS:Arr:=DA
def Ql5:Nd:=Nd.mk Z0 Z0 Z0 [] Z0 Z0 QrS [] [] Z0 Z0 Z0
def Vz(a:Nd)(b:Nat):Nd:=List.getD (Nd.ki a) b Ql5
def Qm9(a:Nd)(b:Nat):Arr:=Nd.va (Vz a b)
def QFV(a:Nd)(b:Nat):List Int:=Arr.sh (Qm9 a b)
def QFW(a:Nd)(b:Nat):List Int:=Arr.nu (Qm9 a b)
def QwM(a:Nd)(b:Nat):List Arr:=Arr.it (Qm9 a b)
def QwN(a:Nd)(b:Nat):List Nd:=Nd.ki (Vz a b)
def QwO(a:Nd)(b:Nat):List Sm:=Nd.bo (Vz a b)
def QwP:Sm:=Sm.mk Z0 Z0 [] Z0 Ql5 Ql5
def QwQ(a:Nd):D:=D.sl 15 (QcP a) (fun i=>[ZI (Nd.kd (Vz a i)),ZI (Nd.at_ (Vz a i)),ZI (Nd.cl (Vz a i)),D.str (Nd.tx (Vz a i)),ZI (Nd.pr (Vz a i)),ZI (Nd.op (Vz a i)),ZI (Arr.k (Qm9 a i)),SI (QFV a i),SI (QFW a i),D.sl N4 (LN (QwM a i)) (fun i_1=>Arr.row (List.getD (QwM a i) i_1 QrS)) Mode.any,D.sl 15 (LN (QwN a i)) (fun i_1=>Nd.row (List.getD (QwN a i) i_1 Ql5)) Mode.any,D.sl 34 (LN (QwO a i)) (fun i_1=>Sm.row (List.getD (QwO a i) i_1 QwP)) Mode.any,ZI (Nd.de (Vz a i)),ZI (Nd.sl (Vz a i)),ZI (Nd.ss (Vz a i))]) Mode.any
def Qna(a:Nd):Arr:=Nd.va a
def QFX(a:Nd):List Int:=Arr.sh (Qna a)
def QFY(a:Nd):List Int:=Arr.nu (Qna a)
def QwR(a:Nd):List Arr:=Arr.it (Qna a)
def KR(a:Nd):D:=D.agg [ZI (Qci a),ZI (Nd.at_ a),ZI (QcO a),D.str (Nd.tx a),ZI (Nd.pr a),ZI (Nd.op a),ZI (Arr.k (Qna a)),SI (QFX a),SI (QFY a),D.sl N4 (LN (QwR a)) (fun i=>Arr.row (List.getD (QwR a) i QrS)) Mode.any,QwQ a,D.sl 34 (LN (Nd.bo a)) (fun i=>Sm.row1 (List.getD (Nd.bo a) i QwP)) Mode.any,ZI (Nd.de a),ZI (Nd.sl a),ZI (Nd.ss a)]
def QwS(a:Nat)(b:Nd):Prop:=SM a/\SM (KR b)
def Qnb:List D:=[ZI Z1]
def QrT:List (List D):=[Qnb]
def QwT(a:Nd):List D:=[ZI (QcQ a)]
def QrU(a:Nd):Nat:=LN (List.replicate (QcP a) Z1)
def QwU(a:Nd)(b:Nat):List D:=[ZI (GI (List.replicate (QcP a) Z1) b)]
def QwV(a:Nd):List Int:=Bu (QrU a) fun i=>QwU a i
def HF(a:Nd):Bool:=Ej a
def HG(a:Nd):Prop:=True/\∃(_y:Unit),True/\false=HF a/\True/\True
def QcR:List D:=[ZI 2]
def QwW:List (List D):=QcR::QrT
def QwX(a:Nat):List D:=List.getD QwW a []
def QwY:List Int:=Bu N2 fun i=>QwX i
def QwZ(a:Nat):List D:=List.getD (QcR::Qnb::QrT) a []
def Qw0:List Int:=Bu (3:Nat) fun i=>QwZ i
def Qw1(a:Nat):List D:=List.getD [[ZI 3],QcR] a []
def Qw2:List Int:=Bu N2 fun i=>Qw1 i
def QrV(a:Nd):Bool:=bif QcO a != (2:Int) then true else QcQ a != (3:Int)
def Qw3(a:Nd):Nd:=List.getD (Nd.ki a) N0 Ql5
def Qw4(a:Nd):Bool:=Nd.kd (Qw3 a)==17
def QrW(a:Nd):Int:=Nd.op (Qw3 a)
def Qw5(a:Nd):Bool:=QrW a==7
def Qw6(a:Nd):Bool:=QrW a==8
def Qw7(a:Nd):Bool:=QrW a==9
def Qnc(a:Nd):Bool:=bif Qw4 a then bif bif Qw5 a then true else Qw6 a then true else Qw7 a else false
def Qw8(a:Nd):Prop:=true=Qnc a/\True
def Qw9(a:Nat):List D:=List.getD ([ZI 4]::QwW) a []
def Qxa:List Int:=Bu (3:Nat) fun i=>Qw9 i
def Qnd:List (List D):=[QcR,QcR]
def Qxb(a:Nat):List D:=List.getD ([ZI 4]::Qnd) a []
def Qxc:List Int:=Bu (3:Nat) fun i=>Qxb i
def Qxd(a:Nat):List D:=List.getD Qnd a []
def Qxe:List Int:=Bu N2 fun i=>Qxd i
def Qxf(a:Nd):Prop:=True/\∃(_y:Unit),True/\true=HF a/\True/\True
def Qxg(a:Nat):List D:=List.getD (QcR::Qnd) a []
def Qxh:List Int:=Bu (3:Nat) fun i=>Qxg i
def Qxi(a:Nat):List D:=List.getD (Qnb::Qnd) a []
def Qxj:List Int:=Bu (3:Nat) fun i=>Qxi i
theorem Bnc(n:Nd)(h:n.ki.length<=maxLen):CD 100 [.agg n.row2] (.bool (Ej n)):=by
 refine Bh (A:=sC _ _) (x:=()) (E:=Ecm n) (eOk (Bil h) rfl) Tryz.func100 rfl (by kernel_rfl) rfl (by simp[sC,Ecm,EC,E0]) ?_
 refine Bl (T :=
  ∀(x:Nat),True->SM x/\ifB (Qci n==3) (SM x/\ifB (QrR n) (SM x/\ifB (decide ((2:Int)<=QcQ n)) (SM x/\ifB (decide (QcQ n<=1000)) (SM x/\SM x/\(SM x/\SM (QwQ n))/\QwS x n/\∃(x_1:Unit),(N2<=QcP n/\QcP n<=1000/\wkL (D.sl N1 N1 (fun i=>List.getD QrT i []) Mode.full::QwT n) (D.sl N1 N1 (fun x=>Qnb) Mode.full::QwT n))/\∀(y:Unit),True->QwS x n/\∃(x:Unit),(wkL [KR n,D.sl N1 (QrU n) (fun i=>QwU n i) Mode.any] [KR n,SI (QwV n)]/\QrU n<=9223372036854775807)/\∀(y:Unit),True->RT (Bj n (QwV n)=HF n)) (HG n)) (HG n)) (HG n)) (ifB (Qci n==4) (SM x/\ifB (QrR n) (SM x/\∃(x:Unit),(wkL [KR n,D.sl N1 N2 (fun i=>QwX i) Mode.full] [KR n,SI QwY]/\N2<=9223372036854775807)/\∀(y:Unit),True->RT (Bj n QwY=HF n)) (HG n)) (ifB (Qci n==5) (SM x/\ifB (QrR n) (SM x/\∃(x:Unit),(wkL [KR n,D.sl N1 (3:Nat) (fun i=>QwZ i) Mode.full] [KR n,SI Qw0]/\(3:Nat)<=9223372036854775807)/\∀(y:Unit),True->RT (Bj n Qw0=HF n)) (HG n)) (ifB (Qci n==14) (SM x/\ifB (QcO n==2) (SM x/\∃(x:Unit),(wkL [KR n,D.sl N1 N2 (fun i=>Qw1 i) Mode.full] [KR n,SI Qw2]/\N2<=9223372036854775807)/\∀(y:Unit),True->RT (Bj n Qw2=HF n)) (HG n)) (ifB (Qci n==15) ((SM x/\ifB (QcO n != (2:Int)) (true=QrV n/\True) (SM x/\(QcQ n != (3:Int))=QrV n/\True))/\ifB (QrV n) (HG n) (SM x/\Bf (Z0<=Z0/\Z0<QcQ n) (∀(x_1:Nat),x≠x_1/\True->SM x_1/\(SM x_1/\ifB (Qw4 n) (SM x_1/\ifB (Qw5 n) (Qw8 n) (SM x_1/\ifB (Qw6 n) (Qw8 n) (SM x_1/\Qw7 n=Qnc n/\True))) (false=Qnc n/\True))/\ifB (Qnc n) (SM x/\∃(x:Unit),(wkL [KR n,D.sl N1 (3:Nat) (fun i=>Qw9 i) Mode.full] [KR n,SI Qxa]/\(3:Nat)<=9223372036854775807)/\∀(y:Unit),True->RT (Bj n Qxa=HF n)) (SM x/\∃(x:Unit),(wkL [KR n,D.sl N1 (3:Nat) (fun i=>Qxb i) Mode.full] [KR n,SI Qxc]/\(3:Nat)<=9223372036854775807)/\∀(y:Unit),True->RT (Bj n Qxc=HF n))))) (ifB (Qci n==16) (SM x/\ifB (QcO n==2) (SM x/\∃(x_1:Unit),(wkL [KR n,D.sl N1 N2 (fun i=>Qxd i) Mode.full] [KR n,SI Qxe]/\N2<=9223372036854775807)/\∀(y:Unit),True->ifB (Bj n Qxe) (Qxf n) (SM x/\∃(x_2:Unit),(wkL [KR n,D.sl N1 (3:Nat) (fun i=>Qxg i) Mode.full] [KR n,SI Qxh]/\(3:Nat)<=9223372036854775807)/\∀(y:Unit),True->ifB (Bj n Qxh) (Qxf n) (SM x/\∃(x:Unit),(wkL [KR n,D.sl N1 (3:Nat) (fun i=>Qxi i) Mode.full] [KR n,SI Qxj]/\(3:Nat)<=9223372036854775807)/\∀(y:Unit),True->RT (Bj n Qxj=HF n)))) (HG n)) (HG n))))))) (by kernel_rfl) ?_
 delta DA GI LN N0 N1 N2 N4 NI SI SM Z0 Z1 ZI Qci QcO QrR QcP QcQ QrS Ql5 Vz Qm9 QFV QFW QwM QwN QwO QwP QwQ Qna QFX QFY QwR KR QwS Qnb QrT QwT QrU QwU QwV HF HG QcR QwW QwX QwY QwZ Qw0 Qw1 Qw2 QrV Qw3 Qw4 QrW Qw5 Qw6 Qw7 Qnc Qw8 Qw9 Qxa Qnd Qxb Qxc Qxd Qxe Qxf Qxg Qxh Qxi Qxj RT
 try simp only[<- dm]
 try simp only[<- dn]
 simp only[ne_eq,Bg,Be,decide_eq_true_eq,decide_eq_false_iff_not,true_and,and_true,beq_iff_eq,bne_iff_ne,bne_eq_false_iff_eq,beq_eq_false_iff_ne,exists_const,forall_const]
 have i2:∀a b:Int,Bu 2 (fun i=>[[D.int IntKind.i64 a],[D.int IntKind.i64 b]].getD i [])=[a,b]:=fun _ _=>rfl
 have i3:∀a b c:Int,Bu 3 (fun i=>[[D.int IntKind.i64 a],[D.int IntKind.i64 b],[D.int IntKind.i64 c]].getD i [])=[a,b,c]:=fun _ _ _=>rfl
 have p2:∀a b:Int,IntsP 2 (fun i=>[[D.int IntKind.i64 a],[D.int IntKind.i64 b]].getD i []):=fun _ _ i hi=>by
  match i,hi with
  |0,_=>rfl
  |1,_=>rfl
 have p3:∀a b c:Int,IntsP 3 (fun i=>[[D.int IntKind.i64 a],[D.int IntKind.i64 b],[D.int IntKind.i64 c]].getD i []):=fun _ _ _ i hi=>by
  match i,hi with
  |0,_=>rfl
  |1,_=>rfl
  |2,_=>rfl
 have w1:wkL [D.sl 1 1 (fun i=>[[D.int IntKind.i64 1]].getD i []) Mode.full,D.int IntKind.i64 n.ki.length] [D.sl 1 1 (fun _=>[D.int IntKind.i64 1]) Mode.full,D.int IntKind.i64 n.ki.length]:=by
  simp only[wkL,wkD,Ba]
  refine⟨⟨by simp,by simp,fun i hi=>?_,by simp[BG]⟩,by simp[Br,Ba,kEq],trivial⟩
  match i,hi with
  |0,_=>exact Bc _
 intro x
 repeat' (first | exact Bc _ | exact w1 | exact Ma (p2 _ _) | exact Ma (p3 _ _ _) | exact Ma (BU _) | refine And.intro ?_ ?_ | intro _)
 all_goals try simp only[CL,i2,i3] at *
 clear w1 i2 i3 p2 p3
 all_goals first
  |omega
  |(simp only[List.length_replicate];omega)
  |(simp_all[Ej];done)
  |exact Bkh (by assumption) (by assumption)
  |exact Bmf (by assumption) (by assumption) (by assumption)
  |exact BlW (by assumption) (by assumption) (by assumption)
  |(simp_all[Ej];omega)
def BK(l:List Sm):List (List UInt8):=(l.filter fun s=>s.kd==2).map Sm.nm
theorem MV{l:List Sm}{i:Nat}(h:i<l.length):BK (l.take (i+1))=if (l.getD i default).kd=2 then BK (l.take i)++[(l.getD i default).nm] else BK (l.take i):=by
 rw[Cf h]
 unfold BK
 rw[List.filter_append,List.map_append]
 generalize l.getD i default=x
 by_cases e:x.kd=2
 ·rw[if_pos e];simp[e]
 ·rw[if_neg e]
  simp[e]
theorem Ie{g:Bool}{l:List Sm}{i:Nat}(h:i<l.length):BR g (BK (l.take i)) (l.drop i)=(Id g (BK (l.take i)) (l.getD i default)&&BR g (BK (l.take (i+1))) (l.drop (i+1))):=by
 rw[BN h,BR,MV h]
theorem O0{g:Bool}{names:List (List UInt8)}{l:List Sm}{i:Nat}(h:l.length<=i):BR g names (l.drop i)=true:=by
 rw[List.drop_eq_nil_of_le h,BR]
theorem BkN(n:Nd)(k:Int):CD 97 [.agg n.row2,.int .i64 k] (.bool (ED n k)):=by
 rw[<- BcX]
 exact Blv n.kd n.at_ n.cl n.tx n.pr n.op n.va.k _ _ _ _ _ _ _ _ _ _ n.de n.sl n.ss k
theorem BiW(n:Nd):CD 68 [.agg n.row2] (.bool (B4 n)):=by
 rw[<- Bhn]
 exact Bnj n.kd n.at_ n.cl n.tx n.pr n.op n.va.k _ _ _ _ _ _ _ _ _ _ n.de n.sl n.ss
def RNode(n:Nd):Prop:=CD 67 [.agg n.row2] (.bool (BC n))
def RBody(l:List Sm)(g:Bool):Prop:=CD 41 [gsl 34 Sm.row1 l,.bool g] (.bool (BF g l))
def Bju(n:Nd):Con:=fun k ds S=>match k with
 |72=>match ds with
  | [_,.int .i64 q]=>some (pA ds S (.bool (C8 n.bo q)) (wkL ds [gsl 34 Sm.row1 n.bo,.int .i64 q]))
  |_=>none
 |41=>some (pA ds S (.bool (BF true n.bo)) (wkL ds [gsl 34 Sm.row1 n.bo,.bool true]))
 |_=>none
theorem Cu{n:Nd}(h:n.sm):∀s∈n.bo,s.sm:=by
 cases n with
 |mk kd at_ cl tx pr op va ki bo de sl ss =>
  simp only[Nd.sm] at h
  exact (IS _).1 h.2.2.2
theorem Bkb{n:Nd}(hn:n.sm)(h:RBody n.bo true):ConOk Tryz.prog (Bju n):=by
 intro k ds S A hh
 unfold Bju at hh
 split at hh
 ·split at hh
  ·injection hh with hh;subst hh
   exact Bm fun e=>CD.at_ (CD.wk (Blu n.bo _ (BD (BZ hn).2.2) (Cu hn)) e) _
  ·cases hh
 ·injection hh with hh;subst hh
  exact Bm fun e=>CD.at_ (CD.wk h e) _
 ·cases hh
noncomputable def Ela(n:Nd):Senv:={ EC (Bju n) 55 5 [26,34,35,40,41,47,48,51] (fun id=>match id with | 3=>([0,1,3,4,2,5,6,7],[2,5]) | _=>([],[])) with mg:=fun _=>2 }
def Qcj(a:Nd):List Sm:=Nd.bo a
def Qxk(a:Nd):Bool:=BF true (Qcj a)
def Qxl(a:Nd):Bool:=Mz a&&Qxk a
def HS(a:Nd):Prop:=True/\∃(_y:Unit),True/\false=Qxl a/\True/\True
def QrX(a:Nd):Int:=(LI (Qcj a))
def QrY(a:Nd):Int:=IntKind.wrap IntKind.i64 (QrX a-Z1)
def QrZ:Arr:=DA
def Qne:Nd:=Nd.mk Z0 Z0 Z0 [] Z0 Z0 QrZ [] [] Z0 Z0 Z0
def Qnf:Sm:=Sm.mk Z0 Z0 [] Z0 Qne Qne
def QcS(a:Nd)(b:Nat):Sm:=List.getD (Qcj a) b Qnf
def VA(a:Nd)(b:Nat):Nd:=Sm.te (QcS a b)
def Qng(a:Nd)(b:Nat):Arr:=Nd.va (VA a b)
def QFZ(a:Nd)(b:Nat):List Int:=Arr.sh (Qng a b)
def QF0(a:Nd)(b:Nat):List Int:=Arr.nu (Qng a b)
def Qxm(a:Nd)(b:Nat):List Arr:=Arr.it (Qng a b)
def Qxn(a:Nd)(b:Nat):List Nd:=Nd.ki (VA a b)
def Qxo(a:Nd)(b:Nat):List Sm:=Nd.bo (VA a b)
def VB(a:Nd)(b:Nat):Nd:=Sm.nd (QcS a b)
def Qnh(a:Nd)(b:Nat):Arr:=Nd.va (VB a b)
def QF1(a:Nd)(b:Nat):List Int:=Arr.sh (Qnh a b)
def QF2(a:Nd)(b:Nat):List Int:=Arr.nu (Qnh a b)
def Qxp(a:Nd)(b:Nat):List Arr:=Arr.it (Qnh a b)
def Qxq(a:Nd)(b:Nat):List Nd:=Nd.ki (VB a b)
def Qxr(a:Nd)(b:Nat):List Sm:=Nd.bo (VB a b)
def Qni(a:Nd):D:=D.sl 34 (LN (Qcj a)) (fun i=>[ZI (Sm.kd (QcS a i)),ZI (Sm.at_ (QcS a i)),D.str (Sm.nm (QcS a i)),ZI (Sm.sl (QcS a i)),ZI (Nd.kd (VA a i)),ZI (Nd.at_ (VA a i)),ZI (Nd.cl (VA a i)),D.str (Nd.tx (VA a i)),ZI (Nd.pr (VA a i)),ZI (Nd.op (VA a i)),ZI (Arr.k (Qng a i)),SI (QFZ a i),SI (QF0 a i),D.sl N4 (LN (Qxm a i)) (fun i_1=>Arr.row (List.getD (Qxm a i) i_1 QrZ)) Mode.any,D.sl 15 (LN (Qxn a i)) (fun i_1=>Nd.row (List.getD (Qxn a i) i_1 Qne)) Mode.any,D.sl 34 (LN (Qxo a i)) (fun i_1=>Sm.row (List.getD (Qxo a i) i_1 Qnf)) Mode.any,ZI (Nd.de (VA a i)),ZI (Nd.sl (VA a i)),ZI (Nd.ss (VA a i)),ZI (Nd.kd (VB a i)),ZI (Nd.at_ (VB a i)),ZI (Nd.cl (VB a i)),D.str (Nd.tx (VB a i)),ZI (Nd.pr (VB a i)),ZI (Nd.op (VB a i)),ZI (Arr.k (Qnh a i)),SI (QF1 a i),SI (QF2 a i),D.sl N4 (LN (Qxp a i)) (fun i_1=>Arr.row (List.getD (Qxp a i) i_1 QrZ)) Mode.any,D.sl 15 (LN (Qxq a i)) (fun i_1=>Nd.row (List.getD (Qxq a i) i_1 Qne)) Mode.any,D.sl 34 (LN (Qxr a i)) (fun i_1=>Sm.row (List.getD (Qxr a i) i_1 Qnf)) Mode.any,ZI (Nd.de (VB a i)),ZI (Nd.sl (VB a i)),ZI (Nd.ss (VB a i))]) Mode.any
def Qxs(a:Nd):List D:=[Qni a,ZI 12]
def Qxt(a:Nd):List D:=[Qni a,ZI 13]
def Qxu(a:Nd):Bool:=C8 (Qcj a) (12:Int)
def Qxv(a:Nd):Bool:=C8 (Qcj a) (13:Int)
def Qxw(a:Nd):List D:=[Qni a,D.bool true]
def Qxx(a:Nat)(b:Nd):Prop:=SM a/\∃(_x:Unit),wkL (Qxw b) (Qxw b)/\∀(_y:Unit),True->True/\∃(_y:Unit),True/\Qxk b=Qxl b/\True/\True
def Qxy(a:Nd)(b:Nat):Prop:=ifB (Qxv a) (HS a) (Qxx b a)
theorem Bla(n:Nd)(hn:n.sm)(h:RBody n.bo true):CD 98 [.agg n.row2] (.bool (Mz n && BF true n.bo)) := by
  refine Bh (A := sC _ _) (x := ()) (E := Ela n) (eOk (Bkb hn h) rfl) Tryz.func98 rfl (by kernel_rfl) rfl (by simp [sC,Ela,EC,E0]) ?_
  refine Bl (T :=
    ∀ (x:Nat),True->SM x/\ifB (decide (Z0 < (LI (Nd.ki n)))) (HS n) (SM x/\ifB (QrX n == Z0) (HS n) (SM x/\SM x/\Bf (Z0 <= QrY n/\QrY n < QrX n) (ifB (Sm.kd (List.getD (Qcj n) (Int.toNat (QrY n)) Qnf) != Z1) (HS n) (SM x/\SM x/\∃ (x_1:Unit),wkL (Qxs n) (Qxs n)/\∀ (y:Unit),True->(SM x/\SM (Qni n))/\∃ (x_2:Unit),wkL (Qxt n) (Qxt n)/\∀ (y:Unit),True->SM x/\ifB (Nd.cl n == (2:Int)) (ifB (Qxu n) (HS n) (Qxy n x)) (ifB (Nd.cl n == (3:Int)) (ifB (!Qxu n) (HS n) (Qxy n x)) (ifB (Nd.cl n == (4:Int)) (ifB (!Qxv n) (HS n) (Qxx x n)) (HS n)))))))) (by kernel_rfl) ?_
  delta DA GI LI LN N1 N4 SI SM Z0 Z1 ZI Qcj Qxk VA Qng QFZ QF0 Qxm Qxn Qxo VB Qnh QF1 Qxl QF2 Qxp Qxq Qxr Qni Qxs Qxt Qxu Qxv Qxw HS Qxx Qxy QrX QrY QrZ Qne Qnf QcS
  try simp only [<- dm]
  try simp only [<- dn]
  simp only [ne_eq,Bg,Be,decide_eq_true_eq,decide_eq_false_iff_not,true_and,and_true,beq_iff_eq,bne_iff_ne,bne_eq_false_iff_eq,beq_eq_false_iff_ne,Bool.not_eq_true',Bool.not_eq_false',exists_const,forall_const]
  have e1:n.ki.isEmpty = (n.ki.length == 0) := by cases n.ki <;> rfl
  have e2:n.bo.isEmpty = (n.bo.length == 0) := by cases n.bo <;> rfl
  have hlen := (BZ hn).2.2
  unfold BX at hlen
  by_cases hb:n.bo.length = 0
  · skip
    repeat' (first | exact Bc _ | refine And.intro ?_ ?_ | intro _)
    all_goals first
      | (exfalso; omega)
      | (unfold Mz; rw [e1,e2,hb]; simp; done)
  · have w:IntKind.i64.wrap ((n.bo.length:Int) - 1) = ((n.bo.length - 1:Nat):Int) := by rw [Bb (by omega) (by omega)]; omega
    simp only [w,Int.toNat_natCast]
    have e3:(n.bo.length == 0) = false := by simpa using hb
    repeat' (first | exact Bc _ | refine And.intro ?_ ?_ | intro _)
    all_goals first
      | omega
      | (unfold Mz; rw [e1,e2,e3]; simp_all; done)
      | (have h9 : n.ki.isEmpty = false := by rw [e1, beq_eq_false_iff_ne]; omega
         unfold Mz; rw [h9]; simp; done)
def Bjw(n:Nd):Con:=fun k ds S=>match k with
 |97=>match ds with
  | [_,.int .i64 q]=>some (pA ds S (.bool (ED n q)) (isN2 n ds [.int .i64 q]))
  |_=>none
 |98=>some (pA ds S (.bool (Mz n&&BF true n.bo)) (isN2 n ds []))
 |99=>some (pA ds S (.bool (EN n)) (isN2 n ds []))
 |100=>some (pA ds S (.bool (Ej n)) (isN2 n ds []))
 |55=>some (pA ds S (.bool (n.ki.any fun b=>!BC b)) (wkL ds [gsl 15 Nd.row1 n.ki,.fn (.func 101) [] []]))
 |_=>none
def Blq(b:Nd):Con:=fun k ds S=>match k with
 |67=>some (pA ds S (.bool (BC b)) (isN b ds []))
 |_=>none
noncomputable def En1(b:Nd):Senv:=EC (Blq b) 6 3 [] (fun _=>([],[]))
def Qnj(a:Nd):Arr:=Nd.va a
def QF3(a:Nd):List Int:=Arr.sh (Qnj a)
def QF4(a:Nd):List Int:=Arr.nu (Qnj a)
def Qxz(a:Nd):List Arr:=Arr.it (Qnj a)
def QxA:Arr:=DA
def Qr0:Nd:=Nd.mk Z0 Z0 Z0 [] Z0 Z0 QxA [] [] Z0 Z0 Z0
theorem BmQ(b:Nd)(h:RNode b):CS 101 [.agg b.row1] ⟨[],[]⟩ (.bool (!BC b)):=by
 refine CS.of (Bh (A:=sS _ _ _) (x:=()) (E:=En1 b) (eOk ?_ rfl) Tryz.func101 rfl (by kernel_rfl) rfl (by simp[sS,En1,EC,E0]) ?_)
 ·intro k ds S A hh
  try unfold Blq at hh
  try dsimp only at hh
  split at hh
  ·injection hh with hh;subst hh
   exact Bm fun e=>CD.at_ (CD.isN h e) _
  ·cases hh
 refine Bl (T :=
  ∀(x:Nat),True->SM x/\∃(x:Unit),isN b [D.agg [ZI (Nd.kd b),ZI (Nd.at_ b),ZI (Nd.cl b),D.str (Nd.tx b),ZI (Nd.pr b),ZI (Nd.op b),ZI (Arr.k (Qnj b)),SI (QF3 b),SI (QF4 b),D.sl N4 (LN (Qxz b)) (fun i=>Arr.row (List.getD (Qxz b) i QxA)) Mode.any,D.sl 15 (LN (Nd.ki b)) (fun i=>Nd.row (List.getD (Nd.ki b) i Qr0)) Mode.any,D.sl 34 (LN (Nd.bo b)) (fun i=>Sm.row (List.getD (Nd.bo b) i (Sm.mk Z0 Z0 [] Z0 Qr0 Qr0))) Mode.any,ZI (Nd.de b),ZI (Nd.sl b),ZI (Nd.ss b)]] []/\∀(y:Unit),True->RT ((!BC b)=!BC b)) (by kernel_rfl) ?_
 delta DA GI LN N1 N4 SI SM Z0 ZI Qnj QF3 QF4 Qxz QxA Qr0 RT
 try simp only[<- dm]
 try simp only[<- dn]
 simp only[implies_true,true_and,and_true,exists_const,forall_const]
 first
  |exact BH _ _
  |exact fun _=>BH _ _
theorem BhZ{n:Nd}(hn:n.sm)(ho:n.va.ok)(h1:RBody n.bo true)(h2:∀b∈n.ki,RNode b):ConOk Tryz.prog (Bjw n):=by
 intro k ds S A hh
 have hl:=BD (BZ hn).2.1
 unfold Bjw at hh
 split at hh
 ·split at hh
  ·injection hh with hh;subst hh
   exact Bm fun e=>CD.at_ (CD.wk (BkN n _) e) _
  ·cases hh
 ·injection hh with hh;subst hh
  exact Bm fun e=>CD.at_ (CD.wk (Bla n hn h1) e) _
 ·injection hh with hh;subst hh
  exact Bm fun e=>CD.at_ (CD.wk (Bm9 n ho) e) _
 ·injection hh with hh;subst hh
  exact Bm fun e=>CD.at_ (CD.wk (Bnc n hl) e) _
 ·injection hh with hh;subst hh
  exact Bm fun e=>CD.at_ (CD.wk (CS.cd (Nxc_ok n.ki (fun b=>!BC b) (fun b hb=>BmQ b (h2 b hb)) hl)) e) _
 ·cases hh
noncomputable def End(n:Nd):Senv:=EC (Bjw n) 25 3 [7,10] (fun _=>([],[]))
def Qnk(a:Nd):Arr:=Nd.va a
def QF5(a:Nd):List Int:=Arr.sh (Qnk a)
def QF6(a:Nd):List Int:=Arr.nu (Qnk a)
def QxB(a:Nd):List Arr:=Arr.it (Qnk a)
def QxC:Arr:=DA
def Qr1:Nd:=Nd.mk Z0 Z0 Z0 [] Z0 Z0 QxC [] [] Z0 Z0 Z0
def QxD(a:Nd):D:=D.sl 15 (LN (Nd.ki a)) (fun i=>Nd.row1 (List.getD (Nd.ki a) i Qr1)) Mode.any
def QxE(a:Nd):D:=D.agg [ZI (Nd.kd a),ZI (Nd.at_ a),ZI (Nd.cl a),D.str (Nd.tx a),ZI (Nd.pr a),ZI (Nd.op a),ZI (Arr.k (Qnk a)),SI (QF5 a),SI (QF6 a),D.sl N4 (LN (QxB a)) (fun i=>Arr.row (List.getD (QxB a) i QxC)) Mode.any,QxD a,D.sl 34 (LN (Nd.bo a)) (fun i=>Sm.row1 (List.getD (Nd.bo a) i (Sm.mk Z0 Z0 [] Z0 Qr1 Qr1))) Mode.any,ZI (Nd.de a),ZI (Nd.sl a),ZI (Nd.ss a)]
def Ql6(a:Nd):Bool:=BC a
def QxF(a:Nd):Prop:=True/\∃(_y:Unit),True/\false=Ql6 a/\True/\True
def Qr2(a:Nd):Prop:=isN2 a [QxE a] []
def QxG(a:Nd):List D:=[QxD a,D.fn (Fn.func (101:Nat)) [] []]
theorem BkW(n:Nd)(hn:n.sm)(ho:n.va.ok)(h1:RBody n.bo true)(h2:∀b∈n.ki,RNode b):RNode n:=by
 refine Bh (A:=sC _ _) (x:=()) (E:=End n) (eOk (BhZ hn ho h1 h2) rfl) Tryz.func67 rfl (by kernel_rfl) rfl (by simp[sC,End,EC,E0]) ?_
 refine Bl (T :=
  ∀(x:Nat),True->SM x/\SM x/\∃(x_1:Unit),isN2 n [QxE n,ZI (Nd.kd n)] [ZI (Nd.kd n)]/\∀(y:Unit),True->ifB (!ED n (Nd.kd n)) (QxF n) (SM x/\ifB (Nd.kd n==10) (SM x/\∃(x:Unit),Qr2 n/\∀(y:Unit),True->RT ((Mz n&&BF true (Nd.bo n))=Ql6 n)) (SM x/\∃(x_2:Unit),Qr2 n/\∀(y:Unit),True->ifB (EN n) (RT (true=Ql6 n)) (SM x/\∃(x_3:Unit),Qr2 n/\∀(y:Unit),True->ifB (Ej n) (SM x/\∃(x:Unit),wkL (QxG n) (QxG n)/\∀(y:Unit),True->RT ((!List.any (Nd.ki n) fun (b:Nd)=>!Ql6 b)=Ql6 n)) (QxF n))))) (by kernel_rfl) ?_
 delta DA GI LN N1 N4 SI SM Z0 ZI Qnk QF5 QF6 QxB QxC Qr1 QxD QxE Ql6 QxF Qr2 QxG RT
 try simp only[<- dm]
 try simp only[<- dn]
 simp only[ne_eq,Bg,true_and,and_true,beq_iff_eq,beq_eq_false_iff_ne,Bool.not_eq_true',Bool.not_eq_false',exists_const,forall_const]
 have e:n.ki.all BC=!(n.ki.any fun b=>!BC b):=List.all_eq_not_any_not
 rw[Io,e]
 repeat' (first | exact Cq n _ | exact Bc _ | refine And.intro ?_ ?_ | intro _)
 all_goals first
  |(simp_all;done)
def BeJ(prs:List (List UInt8×Int))(names:List (List UInt8)):Prop:=∀s,(GK prs s).getD 0=(names.count s:Int)
theorem Bat(nm:List UInt8)(v:Int):∀(l:List (List UInt8×Int)) (s:List UInt8),GK (Wj l nm v) s=if nm=s then some v else GK l s
 | [],s=>by
  simp only[Wj,GK]
 |(t,n)::r,s=>by
  simp only[Wj]
  by_cases e:t=nm
  ·rw[if_pos e]
   simp only[GK,e]
   by_cases e2:nm=s
   ·rw[if_pos e2,if_pos e2]
   ·rw[if_neg e2,if_neg e2,if_neg e2]
  ·rw[if_neg e]
   simp only[GK,Bat nm v r s]
   by_cases e2:t=s
   ·rw[if_pos e2,if_pos e2,if_neg (fun e3=>e (e2.trans e3.symm))]
   ·rw[if_neg e2,if_neg e2]
theorem Bj2{prs:List (List UInt8×Int)}{names:List (List UInt8)}(h:BeJ prs names)(nm:List UInt8):BeJ (Wj prs nm ((GK prs nm).getD 0+1)) (names++[nm]):=by
 intro s
 rw[Bat,List.count_append,h nm]
 by_cases e:nm=s
 ·subst e
  rw[if_pos rfl]
  simp
 ·rw[if_neg e,h s]
  simp[e]
theorem Bkd{prs:List (List UInt8×Int)}{names:List (List UInt8)}(h:BeJ prs names)(nm:List UInt8):((GK prs nm).getD 0+1=1)↔names.contains nm=false:=by
 rw[h nm]
 constructor
 ·intro e
  have:names.count nm=0:=by omega
  simpa using List.count_eq_zero.1 this
 ·intro e
  have:names.count nm=0:=List.count_eq_zero.2 (by simpa using e)
  omega
def BjE:Con:=fun k ds S=>match k with
 |67=>some (pE (β:=Nd) ds S (fun b=>.bool (BC b)) (fun b=>isN b ds []/\RNode b))
 |68=>some (pE (β:=Nd) ds S (fun b=>.bool (B4 b)) (fun b=>isN b ds []))
 |69=>match ds with
  | [.str s]=>some (pA ds S (.bool (Cb s)) True)
  |_=>none
 |_=>none
theorem Bi1:ConOk Tryz.prog BjE:=by
 intro k ds S A hh
 unfold BjE at hh
 split at hh
 ·injection hh with hh;subst hh
  exact B7 fun b ⟨e,h⟩=>CD.at_ (CD.isN h e) _
 ·injection hh with hh;subst hh
  exact B7 fun b e=>CD.at_ (CD.isN (BiW b) e) _
 ·split at hh
  ·injection hh with hh;subst hh
   exact Bm fun _=>CD.at_ (BlA _) _
  ·cases hh
 ·cases hh
structure BoI (l:List Sm) (g:Bool) (i:Nat) (r:Bool) (prs:List (List UInt8×Int)):Prop where
 le:i<=l.length
 cnt:r=true->BeJ prs (BK (l.take i))
 tot:BF g l=(r&&BR g (BK (l.take i)) (l.drop i))
noncomputable def Ebo(l:List Sm)(g:Bool):Senv:={ EC BjE 128 2 [4,5,6,8,9,14,15,16,17,32,37,38,57,98] (fun _=>([],[])) with
 mg:=fun _=>2
 ann:=fun b env _S=>match b with
  |0=>match Ab.look env 6 with
   |.map _k x=>some { slots:=[16,5],keep:=[0,1,6,14,15],α:=Nat×Bool×List (List UInt8×Int),st:=fun y=>([.int .i64 y.1,.bool y.2.1],⟨[(0,x,.amap .i64 y.2.2)],[]⟩),inv:=fun y=>BoI l g y.1 y.2.1 y.2.2,mu:=fun y=>l.length-y.1 }
   |_=>none
  |_=>none }
def Qck(a:List Sm)(b:Bool)(c:Nat)(d:Bool)(e:List (List UInt8×Int)):Prop:=BoI a b c d e
def Ql7:Arr:=DA
def QcT:Nd:=Nd.mk Z0 Z0 Z0 [] Z0 Z0 Ql7 [] [] Z0 Z0 Z0
def QcU:Sm:=Sm.mk Z0 Z0 [] Z0 QcT QcT
def QcV(a:List Sm)(b:Nat):Sm:=List.getD a (Int.toNat (↑b:Int)) QcU
def VC(a:List Sm)(b:Nat):Nd:=Sm.nd (QcV a b)
def QxH(a:List Sm)(b:Nat):Int:=Nd.kd (VC a b)
def Qr3(a:List Sm)(b:Nat):Int:=Nd.cl (VC a b)
def Qnl(a:List Sm)(b:Nat):Arr:=Nd.va (VC a b)
def QF7(a:List Sm)(b:Nat):List Int:=Arr.sh (Qnl a b)
def QF8(a:List Sm)(b:Nat):List Int:=Arr.nu (Qnl a b)
def QxI(a:List Sm)(b:Nat):List Arr:=Arr.it (Qnl a b)
def QxJ(a:List Sm)(b:Nat):List Nd:=Nd.ki (VC a b)
def QxK(a:List Sm)(b:Nat):List Sm:=Nd.bo (VC a b)
def Qr4(a:List Sm)(b:Nat):Int:=Sm.kd (QcV a b)
def Qr5(a:List Sm)(b:Nat):Bool:=Qr3 a b==Z1
def Ql8(a:List Sm)(b:Nat):List UInt8:=Sm.nm (QcV a b)
def QxL(a:List Sm)(b:Nat):Bool:=Ql8 a b==[]
def QxM(a:List Sm)(b:Nat):Int:=Sm.sl (QcV a b)
def QxN(a:List Sm)(b:Nat):Bool:=QxM a b==Z0
def VD(a:List Sm)(b:Nat):Nd:=Sm.te (QcV a b)
def QxO(a:List Sm)(b:Nat):Int:=Nd.cl (VD a b)
def Qnm(a:List Sm)(b:Nat):Arr:=Nd.va (VD a b)
def QF9(a:List Sm)(b:Nat):List Int:=Arr.sh (Qnm a b)
def QGa(a:List Sm)(b:Nat):List Int:=Arr.nu (Qnm a b)
def QxP(a:List Sm)(b:Nat):List Arr:=Arr.it (Qnm a b)
def QxQ(a:List Sm)(b:Nat):List Nd:=Nd.ki (VD a b)
def QxR(a:List Sm)(b:Nat):List Sm:=Nd.bo (VD a b)
def Qr6(a:Nd)(b:List Sm)(c:Nat):Prop:=isN a [D.agg [ZI (Nd.kd (VD b c)),ZI (Nd.at_ (VD b c)),ZI (QxO b c),D.str (Nd.tx (VD b c)),ZI (Nd.pr (VD b c)),ZI (Nd.op (VD b c)),ZI (Arr.k (Qnm b c)),SI (QF9 b c),SI (QGa b c),D.sl N4 (LN (QxP b c)) (fun i=>Arr.row (List.getD (QxP b c) i Ql7)) Mode.any,D.sl 15 (LN (QxQ b c)) (fun i=>Nd.row (List.getD (QxQ b c) i QcT)) Mode.any,D.sl 34 (LN (QxR b c)) (fun i=>Sm.row (List.getD (QxR b c) i QcU)) Mode.any,ZI (Nd.de (VD b c)),ZI (Nd.sl (VD b c)),ZI (Nd.ss (VD b c))]] []
def QcW(a:List Sm)(b:Nat):Sm:=List.getD a b QcU
def VE(a:List Sm)(b:Nat):Nd:=Sm.te (QcW a b)
def Qnn(a:List Sm)(b:Nat):Arr:=Nd.va (VE a b)
def QGb(a:List Sm)(b:Nat):List Int:=Arr.sh (Qnn a b)
def QGc(a:List Sm)(b:Nat):List Int:=Arr.nu (Qnn a b)
def QxS(a:List Sm)(b:Nat):List Arr:=Arr.it (Qnn a b)
def QxT(a:List Sm)(b:Nat):List Nd:=Nd.ki (VE a b)
def QxU(a:List Sm)(b:Nat):List Sm:=Nd.bo (VE a b)
def VF(a:List Sm)(b:Nat):Nd:=Sm.nd (QcW a b)
def Qno(a:List Sm)(b:Nat):Arr:=Nd.va (VF a b)
def QGd(a:List Sm)(b:Nat):List Int:=Arr.sh (Qno a b)
def QGe(a:List Sm)(b:Nat):List Int:=Arr.nu (Qno a b)
def QxV(a:List Sm)(b:Nat):List Arr:=Arr.it (Qno a b)
def QxW(a:List Sm)(b:Nat):List Nd:=Nd.ki (VF a b)
def QxX(a:List Sm)(b:Nat):List Sm:=Nd.bo (VF a b)
def QGf(a:List Sm):D:=D.sl 34 (LN a) (fun i=>[ZI (Sm.kd (QcW a i)),ZI (Sm.at_ (QcW a i)),D.str (Sm.nm (QcW a i)),ZI (Sm.sl (QcW a i)),ZI (Nd.kd (VE a i)),ZI (Nd.at_ (VE a i)),ZI (Nd.cl (VE a i)),D.str (Nd.tx (VE a i)),ZI (Nd.pr (VE a i)),ZI (Nd.op (VE a i)),ZI (Arr.k (Qnn a i)),SI (QGb a i),SI (QGc a i),D.sl N4 (LN (QxS a i)) (fun i_1=>Arr.row (List.getD (QxS a i) i_1 Ql7)) Mode.any,D.sl 15 (LN (QxT a i)) (fun i_1=>Nd.row (List.getD (QxT a i) i_1 QcT)) Mode.any,D.sl 34 (LN (QxU a i)) (fun i_1=>Sm.row (List.getD (QxU a i) i_1 QcU)) Mode.any,ZI (Nd.de (VE a i)),ZI (Nd.sl (VE a i)),ZI (Nd.ss (VE a i)),ZI (Nd.kd (VF a i)),ZI (Nd.at_ (VF a i)),ZI (Nd.cl (VF a i)),D.str (Nd.tx (VF a i)),ZI (Nd.pr (VF a i)),ZI (Nd.op (VF a i)),ZI (Arr.k (Qno a i)),SI (QGd a i),SI (QGe a i),D.sl N4 (LN (QxV a i)) (fun i_1=>Arr.row (List.getD (QxV a i) i_1 Ql7)) Mode.any,D.sl 15 (LN (QxW a i)) (fun i_1=>Nd.row (List.getD (QxW a i) i_1 QcT)) Mode.any,D.sl 34 (LN (QxX a i)) (fun i_1=>Sm.row (List.getD (QxX a i) i_1 QcU)) Mode.any,ZI (Nd.de (VF a i)),ZI (Nd.sl (VF a i)),ZI (Nd.ss (VF a i))]) Mode.any
def QxY(a:List Sm):Prop:=SM (QGf a)
def Ql9(a:List Sm)(b:Bool)(c:Nat):Prop:=QxY a/\SM (D.bool b)/\SM (D.map N0 c)/\QxY a/\SM (ZI (LI a))/\True
def Qnp(a b:Nat):Prop:=IntKind.wrap IntKind.i64 ((↑a:Int)+Z1)=(↑b:Int)
def QxZ(a b:Nat)(c:Nd)(d:Bool):Prop:=Qnp a b/\B4 c=d/\True
def HH(a:List Sm)(b:Bool)(c d:Nat)(e:List (List UInt8×Int)):Prop:=Ql9 a b c/\∃(y:Nat×Bool×List (List UInt8×Int)),Qck a b y.1 y.2.1 y.2.2/\LN a-y.1<LN a-d/\(Qnp d y.1/\false=y.2.1/\True)/\(SM c/\e=y.2.2/\True)/\True
def Qx0(a:List (List UInt8×Int))(b:List Sm)(c:Nat):List (List UInt8×Int):=Wj a (Ql8 b c) (IntKind.wrap IntKind.i64 (Option.getD (GK a (Ql8 b c)) Z0+Z1))
def Qx1(a:Nat)(b:List (List UInt8×Int))(c:List Sm)(d:Nat)(e:List (List UInt8×Int)):Prop:=(SM a/\Qx0 b c d=e/\True)/\True
def Qnq(a:List Sm)(b:Bool)(c d:Nat)(e:List (List UInt8×Int)):Prop:=Ql9 a b c/\∃(y:Nat×Bool×List (List UInt8×Int)),Qck a b y.1 y.2.1 y.2.2/\LN a-y.1<LN a-d/\(Qnp d y.1/\false=y.2.1/\True)/\Qx1 c e a d y.2.2
def Qr7(a:Nat)(b:List Sm)(c:Nat)(d:Bool)(e:Nat)(f:List (List UInt8×Int)):Prop:=SM a/\ifB (decide (Z0<=QxM b c)) (SM a/\∃(x:Nd),Qr6 x b c/\∀(_y:Unit),True->Ql9 b d e/\∃(y:Nat×Bool×List (List UInt8×Int)),Qck b d y.1 y.2.1 y.2.2/\LN b-y.1<LN b-c/\QxZ c y.1 x y.2.1/\Qx1 e f b c y.2.2) (Qnq b d e c f)
def Qx2(a:Bool)(b:List Sm):Prop:=True/\∃(_y:Unit),True/\false=BF a b/\True/\True
theorem Bgg(l:List Sm)(g:Bool)(hl:l.length<=BX)(h:∀s∈l,RNode s.nd/\RNode s.te):RBody l g:=by
 refine Bh (A:=sC _ _) (x:=()) (E:=Ebo l g) (eOk Bi1 rfl) Tryz.func41 rfl (by kernel_rfl) rfl (by simp[sC,Ebo,EC,E0]) ?_
 refine Bl (T :=
  ∀(y:Nat),True->(∃(x:Nat×Bool×List (List UInt8×Int)),Qck l g x.1 x.2.1 x.2.2/\(Z0=(NI x.1)/\decide ((LI l)<=1000)=x.2.1/\True)/\(SM y/\BV (List (List UInt8×Int)) [] x.2.2/\True)/\True)/\∀(x:Nat×Bool×List (List UInt8×Int)),Qck l g x.1 x.2.1 x.2.2->ifB (decide ((NI x.1)<(LI l))) (Bf (Z0<=(NI x.1)/\(NI x.1)<(LI l)) (∀(x_1:Nat),y≠x_1/\True->SM x_1/\ifB x.2.1 (SM x_1/\ifB (decide (Z0<=Sm.at_ (QcV l x.1))) (SM x_1/\∃(x_2:Nd),(isN x_2 [D.agg [ZI (QxH l x.1),ZI (Nd.at_ (VC l x.1)),ZI (Qr3 l x.1),D.str (Nd.tx (VC l x.1)),ZI (Nd.pr (VC l x.1)),ZI (Nd.op (VC l x.1)),ZI (Arr.k (Qnl l x.1)),SI (QF7 l x.1),SI (QF8 l x.1),D.sl N4 (LN (QxI l x.1)) (fun i=>Arr.row (List.getD (QxI l x.1) i Ql7)) Mode.any,D.sl 15 (LN (QxJ l x.1)) (fun i=>Nd.row (List.getD (QxJ l x.1) i QcT)) Mode.any,D.sl 34 (LN (QxK l x.1)) (fun i=>Sm.row (List.getD (QxK l x.1) i QcU)) Mode.any,ZI (Nd.de (VC l x.1)),ZI (Nd.sl (VC l x.1)),ZI (Nd.ss (VC l x.1))]] []/\RNode x_2)/\∀(y_1:Unit),True->ifB (!BC x_2) (RT (BC x_2=BF g l)) (SM x_1/\SM x_1/\ifB (Qr4 l x.1==Z1) (ifB (Qr5 l x.1) (SM x_1/\ifB (QxL l x.1) (SM x_1/\ifB (QxN l x.1) (SM x_1/\∃(x_3:Nd),Qr6 x_3 l x.1/\∀(y_2:Unit),True->Ql9 l g y/\∃(y_3:Nat×Bool×List (List UInt8×Int)),Qck l g y_3.1 y_3.2.1 y_3.2.2/\LN l-y_3.1<LN l-x.1/\QxZ x.1 y_3.1 x_3 y_3.2.1/\(SM y/\x.2.2=y_3.2.2/\True)/\True) (HH l g y x.1 x.2.2)) (HH l g y x.1 x.2.2)) (HH l g y x.1 x.2.2)) (ifB (Qr4 l x.1==2) (SM x_1/\SM y/\SM y/\SM x_1/\∃(x_3:Unit),True/\∀(y_2:Unit),True->ifB (Cb (Ql8 l x.1)) (SM x_1/\SM y/\ifB (Option.getD (GK (Qx0 x.2.2 l x.1) (Ql8 l x.1)) Z0==Z1) (ifB (Qr5 l x.1) (Qr7 x_1 l x.1 g y x.2.2) (ifB (Qr3 l x.1==2) (Qr7 x_1 l x.1 g y x.2.2) (SM x_1/\ifB (QxH l x.1==10) (Qr7 x_1 l x.1 g y x.2.2) (Qnq l g y x.1 x.2.2)))) (Qnq l g y x.1 x.2.2)) (Qnq l g y x.1 x.2.2)) (ifB (Qr4 l x.1==3) (ifB g (SM x_1/\∃(x_3:Nd),(Qr6 x_3 l x.1/\RNode x_3)/\∀(y_2:Unit),True->ifB (BC x_3) (SM x_1/\ifB (QxO l x.1==Z1) (ifB (Qr5 l x.1) (SM x_1/\ifB (QxL l x.1) (SM x_1/\Ql9 l g y/\∃(y_3:Nat×Bool×List (List UInt8×Int)),Qck l g y_3.1 y_3.2.1 y_3.2.2/\LN l-y_3.1<LN l-x.1/\(Qnp x.1 y_3.1/\QxN l x.1=y_3.2.1/\True)/\(SM y/\x.2.2=y_3.2.2/\True)/\True) (HH l g y x.1 x.2.2)) (HH l g y x.1 x.2.2)) (HH l g y x.1 x.2.2)) (HH l g y x.1 x.2.2)) (HH l g y x.1 x.2.2)) (HH l g y x.1 x.2.2))))) (Qx2 g l)) (Qx2 g l))) (RT (x.2.1=BF g l))) (by kernel_rfl) ?_
 delta DA GI LI LN N0 N1 N4 NI SI SM Z0 Z1 ZI Qck Ql7 QF8 QxI QxJ QxK Qr4 Qr5 Ql8 QxL QxM QxN QcT VD QxO Qnm QF9 QGa QxP QxQ QxR Qr6 QcW QcU VE Qnn QGb QGc QxS QxT QxU VF Qno QGd QcV QGe QxV QxW QxX QGf QxY Ql9 Qnp QxZ HH VC Qx0 Qx1 Qnq Qr7 Qx2 QxH Qr3 Qnl QF7 RT
 try simp only[<- dm]
 try simp only[<- dn]
 simp only[ne_eq,Int.toNat_natCast,Bg,Be,decide_eq_true_eq,decide_eq_false_iff_not,true_and,and_true,beq_iff_eq,beq_eq_false_iff_ne,Bool.not_eq_true',Bool.not_eq_false',exists_const,forall_const,Prod.exists]
 intro y
 unfold BX at hl
 have hnd1:(decide ((l.length:Int)<=1000))=decide (l.length<=1000):=decide_eq_decide.2 (by omega)
 refine⟨⟨0,decide ((l.length:Int)<=1000),[],⟨Nat.zero_le _,fun _ s=>by simp[GK,BK],?_⟩,⟨rfl,rfl⟩,rfl⟩,?_⟩
 ·rw[hnd1]
  rfl
 rintro ⟨i,r,prs⟩ hI
 simp only at hI ⊢
 refine⟨fun hlt=>⟨⟨by omega,hlt⟩,fun z _=>?_⟩,fun hge=>?_⟩
 ·have hlt':i<l.length:=by omega
  have hm:=CT hlt'
  have hnm:=MV hlt'
  obtain ⟨hnd,hte⟩:=h _ hm
  have tot:=hI.tot
  rw[Ie hlt',Et] at tot
  have w:IntKind.i64.wrap ((i:Int)+1)=((i+1:Nat):Int):=by rw[Bb (by omega) (by omega)];rfl
  have go : ∀(r2 : Bool) (prs2 : List (List UInt8×Int)), (r2=true -> BeJ prs2 (BK (l.take (i+1)))) -> BF g l=(r2&&BR g (BK (l.take (i+1))) (l.drop (i+1))) ->
    ∃a a_1 b,BoI l g a a_1 b/\l.length-a<l.length-i/\(IntKind.i64.wrap ((i:Int)+1)=(a:Int)/\r2=a_1)/\prs2=b:=fun r2 prs2 c1 c2 =>
   ⟨i+1,r2,prs2,⟨hlt',c1,c2⟩,by omega,⟨w,rfl⟩,rfl⟩
  have hcount:∀nm,(BK (l.take i)).count nm<=8589934592:=fun nm=>by
   have h1:=List.count_le_length (a:=nm) (l:=BK (l.take i))
   have h2:(BK (l.take i)).length<=(l.take i).length:=by
    unfold BK
    rw[List.length_map]
    exact List.length_filter_le _ _
   rw[List.length_take] at h2
   omega
  generalize BR g (BK (l.take (i+1))) (l.drop (i+1))=rest at tot go
  generalize hs:l.getD i default=s at *
  cases r with
  |false =>
   simp only[Bool.false_and] at tot
   simp[tot]
  |true =>
   have hc:=hI.cnt rfl
   have wc:IntKind.i64.wrap ((GK prs s.nm).getD 0+1)=(GK prs s.nm).getD 0+1:=by
    have:=hcount s.nm
    rw[hc s.nm]
    exact Bb (by omega) (by omega)
   have one:=Bkd hc s.nm
   have put:=Bj2 hc s.nm
   simp only[wc,Bat,if_true,Option.getD_some,one]
   have c1:s.kd≠2->BeJ prs (BK (l.take (i+1))):=fun e=>by rw[hnm,if_neg e];exact hc
   have c2:s.kd=2->BeJ (Wj prs s.nm ((GK prs s.nm).getD 0+1)) (BK (l.take (i+1))):=fun e=>by rw[hnm,if_pos e];exact put
   clear hs hI hm h hc put
   repeat' (first
    |exact fun _=>c1 (by omega)
    |exact fun _=>c2 (by assumption)
    |refine⟨s.nd,⟨BH _ _,hnd⟩,?_⟩
    |refine⟨s.te,⟨BH _ _,hte⟩,?_⟩
    |refine⟨s.te,BH _ _,?_⟩
    |refine go _ _ ?_ ?_
    |refine And.intro ?_ ?_
    |intro _)
   all_goals first
    |(clear c1 c2 hnm go;rw[tot];simp_all;done)
    |(clear c1 c2 hnm go;rw[tot];simp_all;omega)
    |trace_state
 ·have e:i=l.length:=by have:=hI.le;omega
  have tot:=hI.tot
  rw[e,O0 (Nat.le_refl _),Bool.and_true] at tot
  exact tot.symm
def OW(s:Int)(k:Nat):Int:=if s+(k:Int)<=16385 then s+(k:Int) else 16385
theorem Bi5{l:List Nd}{i:Nat}(h:i<l.length):szL (l.take (i+1))=szL (l.take i)+szN (l.getD i default):=by
 rw[Cf h,GR]
 simp only[szL]
 omega
theorem BdV(l:List Nd)(i:Nat):szL (l.take i)<=szL l:=by
 have h:=GR (l.take i) (l.drop i)
 rw[List.take_append_drop] at h
 omega
def Bki(xs xc:Nat)(s:Int):St:=⟨[(2,xc,.cells [.fn (.func 66) [] [.ref 1 xs 0,.ref 2 xc 0]]),(1,xs,.cells [.int .i64 s])],[]⟩
def sSz(xs xc:Nat)(q:Nd×Int->Prop):FnSpec where
 β:=Nd×Int
 α:=Unit
 args:=fun y=>[.agg y.1.row1,.ref 1 xs 0,.ref 2 xc 0]
 st:=fun y=>Bki xs xc y.2
 pre:=q
 post:=fun _ _=>True
 res:=fun _ _=>.ret (.tup [])
 out:=fun y _=>Bki xs xc (OW y.2 (szN y.1))
def US(xs xc:Nat):FnSpec where
 β:=Nd×Int
 α:=Unit
 args:=fun y=>[.agg y.1.row2,.ref 1 xs 0,.ref 2 xc 0]
 st:=fun y=>Bki xs xc y.2
 pre:=fun _=>True
 post:=fun _ _=>True
 res:=fun _ _=>.ret (.tup [])
 out:=fun y _=>Bki xs xc (OW y.2 (szN y.1))
def Bkc(xs xc:Nat)(n:Nd):Con:=fun k ds S=>match k with
 |64=>some (pA ds S (gsl 15 Nd.row1 (B0 n)) (isN2 n ds []))
 |66=>some (sSz xs xc (fun y=>y.1∈B0 n/\0<=y.2/\y.2<=16384))
 |_=>none
noncomputable def Esz1(xs xc:Nat)(n:Nd)(s:Int):Senv:={ EC (Bkc xs xc n) 21 4 [5,9,10,11,12,16] (fun _=>([],[])) with
 ann:=fun b _ _S=>match b with
  |0=>some { slots:=[11],keep:=[0,1,2,3,9,10],α:=Nat×Int,st:=fun y=>([.int .i64 y.1],⟨[(2,xc,.cells [.fn (.func 66) [] [.ref 1 xs 0,.ref 2 xc 0]]),(1,xs,.cells [.int .i64 y.2])],[]⟩),inv:=fun y=>y.1<=(B0 n).length/\y.2=OW (s+1) (szL ((B0 n).take y.1)),mu:=fun y=>(B0 n).length-y.1 }
  |_=>none }
def Qnr(a:Nd):Arr:=Nd.va a
def Qx3(a:Nd):Int:=Arr.k (Qnr a)
def Qx4(a:Nd):List Int:=Arr.sh (Qnr a)
def Qx5(a:Nd):Nat:=LN (Qx4 a)
def Qx6(a:Nd)(b:Nat):List D:=[ZI (GI (Qx4 a) b)]
def Qx7(a:Nd):List Int:=Arr.nu (Qnr a)
def Qx8(a:Nd):Nat:=LN (Qx7 a)
def Qx9(a:Nd)(b:Nat):List D:=[ZI (GI (Qx7 a) b)]
def Qya(a:Nd):List Arr:=Arr.it (Qnr a)
def Qyb(a:Nd):Nat:=LN (Qya a)
def Qr8:Arr:=DA
def Qyc(a:Nd)(b:Nat):List D:=Arr.row (List.getD (Qya a) b Qr8)
def QcX:Nd:=Nd.mk Z0 Z0 Z0 [] Z0 Z0 Qr8 [] [] Z0 Z0 Z0
def Qyd(a:Nd)(b:Nat):Nd:=List.getD (Nd.ki a) b QcX
def Qye:Sm:=Sm.mk Z0 Z0 [] Z0 QcX QcX
def Qyf(a:Nd)(b:Nat):Sm:=List.getD (Nd.bo a) b Qye
def Qyg(a:Nd):D:=D.agg [ZI (Nd.kd a),ZI (Nd.at_ a),ZI (Nd.cl a),D.str (Nd.tx a),ZI (Nd.pr a),ZI (Nd.op a),ZI (Qx3 a),D.sl N1 (Qx5 a) (fun i=>Qx6 a i) Mode.any,D.sl N1 (Qx8 a) (fun i=>Qx9 a i) Mode.any,D.sl N4 (Qyb a) (fun i=>Qyc a i) Mode.any,D.sl 15 (LN (Nd.ki a)) (fun i=>Nd.row1 (Qyd a i)) Mode.any,D.sl 34 (LN (Nd.bo a)) (fun i=>Sm.row1 (Qyf a i)) Mode.any,ZI (Nd.de a),ZI (Nd.sl a),ZI (Nd.ss a)]
def Qma(a:Nd):List Nd:=B0 a
def Qmb(a:Nd):Nat:=LN (Qma a)
def Qr9(a:Nat)(b:Nd)(c d:Int):Prop:=a<=Qmb b/\c=OW (d+Z1) (szL (List.take a (Qma b)))
def QGg(a b:Nat):D:=D.fn (Fn.func (66:Nat)) [] [D.ref N1 a N0,D.ref N2 b N0]
def Qns(a b:Nat):Prop:=SM (QGg a b)/\True
def Qsa(a:Nd):Int:=(NI (Qmb a))
def Qyh(a b:Nat)(c d:Int)(e:Nd):Prop:=True/\∃(_y:Unit),True/\True/\(SM a/\Qns b a/\SM b/\(c=OW d (szN e)/\True)/\True)/\True
def VG(a:Nd)(b:Nat):Nd:=List.getD (Qma a) (Int.toNat (↑b:Int)) QcX
def Qnt(a:Nd)(b:Nat):Arr:=Nd.va (VG a b)
def Qyi(a:Nd)(b:Nat):List Int:=Arr.sh (Qnt a b)
def Qyj(a:Nd)(b:Nat):Nat:=LN (Qyi a b)
def Qyk(a:Nd)(b:Nat):List Int:=Arr.nu (Qnt a b)
def Qyl(a:Nd)(b:Nat):Nat:=LN (Qyk a b)
def Qym(a:Nd)(b:Nat):List Arr:=Arr.it (Qnt a b)
def Qyn(a:Nd)(b:Nat):Nat:=LN (Qym a b)
def Qyo(a:Nd)(b:Nat):List Nd:=Nd.ki (VG a b)
def Qyp(a:Nd)(b:Nat):Nat:=LN (Qyo a b)
def Qyq(a:Nd)(b:Nat):List Sm:=Nd.bo (VG a b)
def Qyr(a:Nd)(b:Nat):Nat:=LN (Qyq a b)
def QGh(a:Nd):D:=D.sl 15 (Qmb a) (fun i=>Nd.row1 (List.getD (Qma a) i QcX)) Mode.any
theorem Bj6(xs xc : Nat)(n : Nd)(s : Int)(hn : n.sm)(h0 : 0<=s)(h1 : s<=16384)(h : ∀b∈B0 n, ∀z, 0<=z -> z<=16384 -> ACalls Tryz.prog 66 ((US xs xc).args (b, z)) ((US xs xc).st (b, z)) (SpecR (US xs xc) (b, z))) :
  ACalls Tryz.prog 66 ((US xs xc).args (n,s)) ((US xs xc).st (n,s)) (SpecR (US xs xc) (n,s)):=by
 obtain ⟨_,k1,k2⟩:=BZ hn
 refine Bh (A:=US xs xc) (x:=(n,s)) (E:=Esz1 xs xc n s) (eOk ?_ rfl) Tryz.func66 rfl (by kernel_rfl) rfl (by simp[US,Esz1,EC,E0]) ?_
 ·intro k ds S A hh
  try unfold Bkc at hh
  try dsimp only at hh
  split at hh
  ·injection hh with hh;subst hh
   exact Bm fun e=>CD.at_ (CD.wk (BiN n k1 k2) e) _
  ·injection hh with hh;subst hh
   refine ConOk.plain (fun y hy=>?_) rfl rfl
   refine ((h y.1 hy.1 y.2 hy.2.1 hy.2.2).wkArgs ?_).mono fun _ _ ⟨u,q1,q2,q3⟩=>⟨u,q1,q2,q3⟩
   simp only[US,sSz,wkL,wkD]
   exact⟨Mk _,by simp[Br,Ba],by simp[Br,Ba],trivial⟩
  ·cases hh
 refine Bl (T :=
  ∀(x:Nat),xc≠x/\xs≠x/\True->SM xs/\SM xs/\SM x/\∃(x_1:Unit),isN2 n [Qyg n] []/\∀(y:Unit),True->(∃(x:Nat×Int),Qr9 x.1 n x.2 s/\(Z0=(NI x.1)/\True)/\(SM xc/\Qns xs xc/\SM xs/\(IntKind.wrap IntKind.i64 (s+Z1)=x.2/\True)/\True)/\True)/\∀(x_2:Nat×Int),Qr9 x_2.1 n x_2.2 s->ifB (decide ((NI x_2.1)<Qsa n)) (Bf (Z0<=(NI x_2.1)/\(NI x_2.1)<Qsa n) (∀(x_3:Nat),xc≠x_3/\xs≠x_3/\True->SM x_3/\SM xs/\ifB (decide ((16384:Int)<x_2.2)) (Qyh xc xs x_2.2 s n) (SM xc/\SM x_3/\∃(x_4:Nd×Int),((Nd.kd (VG n x_2.1)=Nd.kd x_4.1/\Nd.at_ (VG n x_2.1)=Nd.at_ x_4.1/\Nd.cl (VG n x_2.1)=Nd.cl x_4.1/\Nd.tx (VG n x_2.1)=Nd.tx x_4.1/\Nd.pr (VG n x_2.1)=Nd.pr x_4.1/\Nd.op (VG n x_2.1)=Nd.op x_4.1/\Arr.k (Qnt n x_2.1)=Qx3 x_4.1/\(Qyj n x_2.1=Qx5 x_4.1/\(∀(i:Nat),i<Qyj n x_2.1->[ZI (GI (Qyi n x_2.1) i)]=Qx6 x_4.1 i)/\True)/\(Qyl n x_2.1=Qx8 x_4.1/\(∀(i:Nat),i<Qyl n x_2.1->[ZI (GI (Qyk n x_2.1) i)]=Qx9 x_4.1 i)/\True)/\(Qyn n x_2.1=Qyb x_4.1/\(∀(i:Nat),i<Qyn n x_2.1->Arr.row (List.getD (Qym n x_2.1) i Qr8)=Qyc x_4.1 i)/\True)/\(Qyp n x_2.1=LN (Nd.ki x_4.1)/\(∀(i:Nat),i<Qyp n x_2.1->Nd.row (List.getD (Qyo n x_2.1) i QcX)=Nd.row (Qyd x_4.1 i))/\True)/\(Qyr n x_2.1=LN (Nd.bo x_4.1)/\(∀(i:Nat),i<Qyr n x_2.1->Sm.row (List.getD (Qyq n x_2.1) i Qye)=Sm.row (Qyf x_4.1 i))/\True)/\Nd.de (VG n x_2.1)=Nd.de x_4.1/\Nd.sl (VG n x_2.1)=Nd.sl x_4.1/\Nd.ss (VG n x_2.1)=Nd.ss x_4.1/\True)/\SM xs/\SM xc/\True)/\((SM xc/\Qns xs xc/\SM xs/\(x_2.2=x_4.2/\True)/\True)/\True)/\(x_4.1∈Qma n/\Z0<=x_4.2/\x_4.2<=16384)/\∀(y:Unit),True->(SM (Qyg n)/\SM (D.ref N1 xs N0)/\SM (D.ref N2 xc N0)/\SM (D.ref (3:Nat) x N0)/\SM (QGh n)/\SM (ZI (Qsa n))/\True)/\∃(y:Nat×Int),Qr9 y.1 n y.2 s/\Qmb n-y.1<Qmb n-x_2.1/\(IntKind.wrap IntKind.i64 ((NI x_2.1)+Z1)=(NI y.1)/\True)/\(SM xc/\Qns xs xc/\SM xs/\(OW x_4.2 (szN x_4.1)=y.2/\True)/\True)/\True))) (Qyh xc xs x_2.2 s n)) (by kernel_rfl) ?_
 delta DA GI LN N0 N1 N2 N4 NI SM Z0 Z1 ZI Qnr Qx3 Qr8 Qyc QcX Qyd Qye Qyf Qyg Qma Qmb Qr9 Qx4 QGg Qns Qsa Qyh VG Qnt Qyi Qyj Qyk Qyl Qx5 Qym Qyn Qyo Qyp Qyq Qyr QGh Qx6 Qx7 Qx8 Qx9 Qya Qyb
 try simp only[<- dm]
 try simp only[<- dn]
 simp only[ne_eq,Int.toNat_natCast,Bg,Be,decide_eq_true_eq,decide_eq_false_iff_not,true_and,and_true,exists_const,forall_const,Prod.exists]
 have hsz:=BaW n
 have w1:IntKind.i64.wrap (s+1)=s+1:=Bb (by omega) (by omega)
 intro x _
 refine⟨Cq n _,⟨0,s+1,⟨Nat.zero_le _,by simp only[List.take_zero,szL,OW];split<;>omega⟩,rfl,w1⟩,?_⟩
 rintro ⟨i,c⟩ ⟨hi,hc⟩
 simp only at hi hc ⊢
 have hl:=BdY hn
 unfold maxLen at hl
 have hle:=BdV (B0 n) i
 refine⟨fun hlt=>⟨⟨by omega,hlt⟩,fun _ _=>⟨fun hb=>?_,fun hb=>?_⟩⟩,fun hge=>?_⟩
 ·rw[hc]
  unfold OW at hc ⊢
  split at hc<;>split<;>omega
 ·have hlt':i<(B0 n).length:=by omega
  have ht:=Bi5 hlt'
  refine⟨(B0 n).getD i default,c,⟨rfl,rfl,rfl,rfl,rfl,rfl,rfl,⟨rfl,fun _ _=>rfl⟩,⟨rfl,fun _ _=>rfl⟩,⟨rfl,fun _ _=>rfl⟩,⟨rfl,fun _ _=>rfl⟩,⟨rfl,fun _ _=>rfl⟩,rfl,rfl,rfl⟩,rfl,⟨Ci hlt',?_,by omega⟩,i+1,OW c (szN ((B0 n).getD i default)),⟨hlt',?_⟩,by omega,Bb (by omega) (by omega),rfl⟩
  ·unfold OW at hc
   split at hc<;>omega
  ·rw[ht]
   unfold OW at hc ⊢
   split at hc<;>split<;>split<;>omega
 ·have e:i=(B0 n).length:=by omega
  rw[e,List.take_length] at hc
  rw[hc]
  unfold OW
  split<;>split<;>omega
theorem Bj9(xs xc:Nat)(n:Nd)(s:Int)(hn:n.sm)(h0:0<=s)(h1:s<=16384):ACalls Tryz.prog 66 ((US xs xc).args (n,s)) ((US xs xc).st (n,s)) (SpecR (US xs xc) (n,s)) :=
 Bj6 xs xc n s hn h0 h1 fun b hb z z0 z1=>Bj9 xs xc b z (Cv hn hb) z0 z1
termination_by szN n
decreasing_by exact M6 hb
def II(n:Nd):Int:=if szN n<=16385 then (szN n:Int) else 16385
def BjU(n:Nd):Con:=fun k ds _=>match k with
 |66=>match ds with
  | [_,.ref _ xs _,.ref _ xc _]=>some (sSz xs xc (fun y=>y.1=n/\y.2=0))
  |_=>none
 |_=>none
noncomputable def Eszs(n:Nd):Senv:=EC (BjU n) 11 5 [] (fun _=>([],[]))
def Qnu(a:Nd):Arr:=Nd.va a
def Qys(a:Nd):Int:=Arr.k (Qnu a)
def Qyt(a:Nd):List Int:=Arr.sh (Qnu a)
def Qsb(a:Nd):Nat:=LN (Qyt a)
def Qyu(a:Nd)(b:Nat):List D:=[ZI (GI (Qyt a) b)]
def Qyv(a:Nd):List Int:=Arr.nu (Qnu a)
def Qsc(a:Nd):Nat:=LN (Qyv a)
def Qyw(a:Nd)(b:Nat):List D:=[ZI (GI (Qyv a) b)]
def Qyx(a:Nd):List Arr:=Arr.it (Qnu a)
def Qsd(a:Nd):Nat:=LN (Qyx a)
def Qyy:Arr:=DA
def Qyz(a:Nd)(b:Nat):List D:=Arr.row (List.getD (Qyx a) b Qyy)
def Qse(a:Nd):Nat:=LN (Nd.ki a)
def Qsf:Nd:=Nd.mk Z0 Z0 Z0 [] Z0 Z0 Qyy [] [] Z0 Z0 Z0
def QyA(a:Nd)(b:Nat):List D:=Nd.row (List.getD (Nd.ki a) b Qsf)
def Qsg(a:Nd):Nat:=LN (Nd.bo a)
def QyB(a:Nd)(b:Nat):List D:=Sm.row (List.getD (Nd.bo a) b (Sm.mk Z0 Z0 [] Z0 Qsf Qsf))
theorem BmD(n:Nd)(hn:n.sm):CD 40 [.agg n.row1] (.int .i64 (II n)):=by
 refine Bh (A:=sC _ _) (x:=()) (E:=Eszs n) (eOk ?_ rfl) Tryz.func40 rfl (by kernel_rfl) rfl (by simp[sC,Eszs,EC,E0]) ?_
 ·intro k ds S A hh
  try unfold BjU at hh
  try dsimp only at hh
  split at hh
  ·split at hh
   ·injection hh with hh;subst hh
    refine ConOk.plain (fun y hy=>?_) rfl rfl
    obtain ⟨y,z⟩:=y
    obtain ⟨rfl,rfl⟩:y=n/\z=0:=hy
    refine ((Bj9 _ _ y 0 hn (by omega) (by omega)).wkArgs ?_).mono fun _ _ ⟨u,q1,q2,q3⟩=>⟨u,q1,q2,q3⟩
    simp only[US,sSz,wkL,wkD]
    exact⟨Mk _,by simp[Br,Ba],by simp[Br,Ba],trivial⟩
   ·cases hh
  ·cases hh
 refine Bl (T :=
  ∀(x:Nat),True->∀(x_1:Nat),x≠x_1/\True->SM x_1/\∀(x_2:Nat),x_1≠x_2/\x≠x_2/\True->SM x_2/\SM x_2/\SM x/\∃(x:Nd×Int),((Nd.kd n=Nd.kd x.1/\Nd.at_ n=Nd.at_ x.1/\Nd.cl n=Nd.cl x.1/\Nd.tx n=Nd.tx x.1/\Nd.pr n=Nd.pr x.1/\Nd.op n=Nd.op x.1/\Qys n=Qys x.1/\(Qsb n=Qsb x.1/\(∀(i:Nat),i<Qsb n->Qyu n i=Qyu x.1 i)/\True)/\(Qsc n=Qsc x.1/\(∀(i:Nat),i<Qsc n->Qyw n i=Qyw x.1 i)/\True)/\(Qsd n=Qsd x.1/\(∀(i:Nat),i<Qsd n->Qyz n i=Qyz x.1 i)/\True)/\(Qse n=Qse x.1/\(∀(i:Nat),i<Qse n->QyA n i=QyA x.1 i)/\True)/\(Qsg n=Qsg x.1/\(∀(i:Nat),i<Qsg n->QyB n i=QyB x.1 i)/\True)/\Nd.de n=Nd.de x.1/\Nd.sl n=Nd.sl x.1/\Nd.ss n=Nd.ss x.1/\True)/\SM x_1/\SM x_2/\True)/\((SM x_2/\(D.fn (Fn.func (66:Nat)) [] [D.ref (max (N0+N1) N0) x_1 N0,D.ref (max N2 (max (N0+N1) N0)) x_2 N0]=D.fn (Fn.func (66:Nat)) [] [D.ref N1 x_1 N0,D.ref N2 x_2 N0]/\True)/\SM x_1/\(Z0=x.2/\True)/\True)/\True)/\(x.1=n/\x.2=Z0)/\∀(y:Unit),True->SM x_1/\RT ((if (16385:Int)<OW x.2 (szN x.1) then (16385:Int) else OW x.2 (szN x.1))=II n)) (by kernel_rfl) ?_
 delta DA GI LN N0 N1 N2 SM Z0 ZI Qnu Qys Qyt Qsb Qyu Qyv Qsc Qyw Qyx Qsd Qyy Qyz Qse Qsf QyA Qsg QyB RT
 try simp only[<- dm]
 try simp only[<- dn]
 simp only[ne_eq,true_and,and_true,exists_const,forall_const,Prod.exists]
 refine fun _ _ _ _ _=>⟨n,0,⟨rfl,rfl,rfl,rfl,rfl,rfl,rfl,⟨rfl,fun _ _=>rfl⟩,⟨rfl,fun _ _=>rfl⟩,⟨rfl,fun _ _=>rfl⟩,⟨rfl,fun _ _=>rfl⟩,⟨rfl,fun _ _=>rfl⟩,rfl,rfl,rfl⟩,⟨rfl,rfl⟩,⟨rfl,rfl⟩,?_⟩
 unfold OW II
 split<;>split<;>split<;>omega
theorem Ih{n:Nd}(h:n.ok):n.va.ok:=by
 cases n with
 |mk kd at_ cl tx pr op va ki bo de sl ss =>
  simp only[Nd.ok] at h
  exact h.2.1
theorem Ip{n:Nd}(h:n.ok):∀b∈n.ki,b.ok:=by
 cases n with
 |mk kd at_ cl tx pr op va ki bo de sl ss =>
  simp only[Nd.ok] at h
  exact (UC _).1 h.2.2.1
theorem Co{n:Nd}(h:n.ok):∀s∈n.bo,s.ok:=by
 cases n with
 |mk kd at_ cl tx pr op va ki bo de sl ss =>
  simp only[Nd.ok] at h
  exact (Oy _).1 h.2.2.2
theorem BM{s:Sm}(h:s.ok):s.te.ok/\s.nd.ok:=by
 cases s with
 |mk kd at_ nm sl te nd =>
  simp only[Sm.ok] at h
  exact h.2
theorem By{s:Sm}(h:s.sm):s.te.sm/\s.nd.sm:=by
 cases s with
 |mk kd at_ nm sl te nd =>
  simp only[Sm.sm] at h
  exact h.2
theorem BdC(n:Nd)(ho:n.ok)(hn:n.sm):RNode n :=
 BkW n hn (Ih ho) (Bgg n.bo true (BZ hn).2.2 fun s hs =>
  have h1:=BM (Co ho s hs)
  have h2:=By (Cu hn s hs)
  ⟨BdC s.nd h1.2 h2.2,BdC s.te h1.1 h2.1⟩) fun b hb=>BdC b (Ip ho b hb) (Cv hn (BQ hb))
termination_by SizeOf.sizeOf n
decreasing_by
 ·have:=Nd.size_stmt hs
  have:=Sm.size_nd s
  omega
 ·have:=Nd.size_stmt hs
  have:=Sm.size_te s
  omega
 ·exact Nd.size_kid hb
theorem Bmb(l:List Sm)(g:Bool)(hl:l.length<=BX)(ho:∀s∈l,s.ok)(hs:∀s∈l,s.sm):RBody l g :=
 Bgg l g hl fun s h=>⟨BdC s.nd (BM (ho s h)).2 (By (hs s h)).2,BdC s.te (BM (ho s h)).1 (By (hs s h)).1⟩
def RQ(l:List Nd):Bool:=l.any fun b=>EE b 60
def BdX(l:List Sm):Bool:=l.any fun s=>RQ (Bs s)
def GG:List Nd->Int
 | []=>0
 |x::r=>II x+GG r
def Mi:List Sm->Int
 | []=>0
 |s::r=>GG (Bs s)+Mi r
theorem BhT{l:List Nd}{i:Nat}(h:i<l.length):RQ (l.take (i+1))=(RQ (l.take i)||EE (l.getD i default) 60):=by
 unfold RQ
 rw[Cf h,List.any_append]
 simp
theorem BhL{l:List Sm}{i:Nat}(h:i<l.length):BdX (l.take (i+1))=(BdX (l.take i)||RQ (Bs (l.getD i default))):=by
 unfold BdX
 rw[Cf h,List.any_append]
 simp
theorem RN:∀a b:List Nd,GG (a++b)=GG a+GG b
 | [],b=>by simp only[List.nil_append,GG];omega
 |x::a,b=>by simp only[List.cons_append,GG,RN a b];omega
theorem Bda:∀a b:List Sm,Mi (a++b)=Mi a+Mi b
 | [],b=>by simp only[List.nil_append,Mi];omega
 |x::a,b=>by simp only[List.cons_append,Mi,Bda a b];omega
theorem BhJ{l:List Nd}{i:Nat}(h:i<l.length):GG (l.take (i+1))=GG (l.take i)+II (l.getD i default):=by
 rw[Cf h,RN]
 simp only[GG]
 omega
theorem Bhh{l:List Sm}{i:Nat}(h:i<l.length):Mi (l.take (i+1))=Mi (l.take i)+GG (Bs (l.getD i default)):=by
 rw[Cf h,Bda]
 simp only[Mi]
 omega
theorem BdZ(n:Nd):0<=II n/\II n<=16385:=by
 unfold II
 split<;>omega
theorem Wo:∀l:List Nd,0<=GG l/\GG l<=16385*(l.length:Int)
 | []=>by simp[GG]
 |x::r=>by
  have:=BdZ x
  have:=Wo r
  simp only[GG,List.length_cons]
  omega
theorem BgP:∀l:List Sm,0<=Mi l/\Mi l<=32770*(l.length:Int)
 | []=>by simp[Mi]
 |s::r=>by
  have h1:=Wo (Bs s)
  have:=BgP r
  have:=G6 s
  simp only[Mi,List.length_cons]
  omega
theorem Bgc:∀l:List Nd,GG l<=(szL l:Int)/\(szL l<=16384->GG l=(szL l:Int))/\(16384<szL l->16384<GG l)
 | []=>by simp[GG,szL]
 |x::r=>by
  have:=Bgc r
  have:=Wo r
  have h:II x=if szN x<=16385 then (szN x:Int) else 16385:=rfl
  simp only[GG,szL]
  split at h<;>omega
theorem Bbu:∀l:List Sm,Mi l=GG (l.flatMap Bs)
 | []=>by simp only[Mi,List.flatMap_nil,GG]
 |s::r=>by simp only[Mi,List.flatMap_cons,RN,Bbu r]
theorem Bld(l:List Sm):16384<Mi l↔16384<szB l:=by
 rw[Bbu,Un]
 have:=Bgc (l.flatMap Bs)
 omega
theorem BaY:∀l:List Sm,BdX l=RQ (l.flatMap Bs)
 | []=>rfl
 |s::r=>by
  have:=BaY r
  unfold BdX RQ at this ⊢
  rw[List.any_cons,this,List.flatMap_cons,List.any_append]
theorem BkK(l:List Sm):BdX l=true↔60<dpB l:=by
 rw[BaY,GY]
 unfold RQ
 rw[WM]
 constructor
 ·rintro ⟨_,h⟩;omega
 ·intro h
  refine⟨fun e=>?_,by omega⟩
  rw[e] at h
  simp[dpL] at h
def BjL(l:List Sm):Con:=fun k ds S=>match k with
 |38=>some (pE (β:=Sm) ds S (fun s=>gsl 15 Nd.row1 (Bs s)) (fun s=>isS s ds []))
 |39=>some (pE (β:=Nd) ds S (fun b=>.bool (EE b 60)) (fun b=>isN b ds [.int .i64 60]/\b.sm))
 |40=>some (pE (β:=Nd) ds S (fun b=>.int .i64 (II b)) (fun b=>isN b ds []/\b.sm))
 |41=>some (pA ds S (.bool (BF false l)) (wkL ds [gsl 34 Sm.row1 l,.bool false]))
 |42=>some (pA ds S (.bool (TE l)) (wkL ds [gsl 34 Sm.row1 l]))
 |_=>none
theorem Bj4{l:List Sm}(hl:l.length<=BX)(ho:∀s∈l,s.ok)(hs:∀s∈l,s.sm):ConOk Tryz.prog (BjL l):=by
 intro k ds S A hh
 unfold BjL at hh
 split at hh
 ·injection hh with hh;subst hh
  exact B7 fun s e=>CD.at_ (CD.wk (Bjy s) e) _
 ·injection hh with hh;subst hh
  exact B7 fun b ⟨e,hb⟩=>CD.at_ (CD.isN (Blz b 60 hb (by unfold Cs;omega)) e) _
 ·injection hh with hh;subst hh
  exact B7 fun b ⟨e,hb⟩=>CD.at_ (CD.wk (BmD b hb) e) _
 ·injection hh with hh;subst hh
  exact Bm fun e=>CD.at_ (CD.wk (Bmb l false hl ho hs) e) _
 ·injection hh with hh;subst hh
  exact Bm fun e=>CD.at_ (CD.wk (BmM l (BD hl) hs) e) _
 ·cases hh
noncomputable def Epr(l:List Sm):Senv:={ EC (BjL l) 72 5 [6,8,10,12,16,18,19,20,21,25,26,27,28,38,40,41,42,43,47,48,49,50,59,62] (fun _=>([],[])) with
 mg:=fun _=>2
 ann:=fun b env S=>match b with
  |0=>some { slots:=[20,4],keep:=[0,1,3,18,19],α:=Nat×Bool,st:=fun y=>([.int .i64 y.1,.bool y.2],S),inv:=fun y=>y.1<=l.length/\y.2=BdX (l.take y.1),mu:=fun y=>l.length-y.1 }
  |2=>match Ab.look env 25,Ab.look env 20,Ab.look env 4 with
   |.sl _ n _f _,.int _ i,.bool t=>some { slots:=[27,4],keep:=[0,1,3,18,19,20,25,26],α:=Nat×Bool,st:=fun y=>([.int .i64 y.1,.bool y.2],S),inv:=fun y=>y.1<=n/\y.2=(t||RQ ((Bs (l.getD i.toNat default)).take y.1)),mu:=fun y=>n-y.1 }
   |_,_,_=>none
  |4=>some { slots:=[42,3],keep:=[0,1,40,41],α:=Nat×Int,st:=fun y=>([.int .i64 y.1,.int .i64 y.2],S),inv:=fun y=>y.1<=l.length/\y.2=Mi (l.take y.1),mu:=fun y=>l.length-y.1 }
  |6=>match Ab.look env 47,Ab.look env 42,Ab.look env 3 with
   |.sl _ n _f _,.int _ i,.int _ t=>some { slots:=[49,3],keep:=[0,1,40,41,42,47,48],α:=Nat×Int,st:=fun y=>([.int .i64 y.1,.int .i64 y.2],S),inv:=fun y=>y.1<=n/\y.2=t+GG ((Bs (l.getD i.toNat default)).take y.1),mu:=fun y=>n-y.1 }
   |_,_,_=>none
  |_=>none }
def Qmc(a:List Sm):Int:=Bw a
def Qsh(a:Nat)(b:List Sm)(c:Bool):Prop:=a<=LN b/\c=BdX (List.take a b)
def QcY:Arr:=DA
def HI:Nd:=Nd.mk Z0 Z0 Z0 [] Z0 Z0 QcY [] [] Z0 Z0 Z0
def Qcl:Sm:=Sm.mk Z0 Z0 [] Z0 HI HI
def QcZ(a:List Sm)(b:Nat):Sm:=List.getD a b Qcl
def VH(a:List Sm)(b:Nat):Nd:=Sm.te (QcZ a b)
def Qnv(a:List Sm)(b:Nat):Arr:=Nd.va (VH a b)
def QGi(a:List Sm)(b:Nat):List Int:=Arr.sh (Qnv a b)
def QGj(a:List Sm)(b:Nat):List Int:=Arr.nu (Qnv a b)
def QyC(a:List Sm)(b:Nat):List Arr:=Arr.it (Qnv a b)
def QyD(a:List Sm)(b:Nat):List Nd:=Nd.ki (VH a b)
def QyE(a:List Sm)(b:Nat):List Sm:=Nd.bo (VH a b)
def VI(a:List Sm)(b:Nat):Nd:=Sm.nd (QcZ a b)
def Qnw(a:List Sm)(b:Nat):Arr:=Nd.va (VI a b)
def QGk(a:List Sm)(b:Nat):List Int:=Arr.sh (Qnw a b)
def QGl(a:List Sm)(b:Nat):List Int:=Arr.nu (Qnw a b)
def QyF(a:List Sm)(b:Nat):List Arr:=Arr.it (Qnw a b)
def QyG(a:List Sm)(b:Nat):List Nd:=Nd.ki (VI a b)
def QyH(a:List Sm)(b:Nat):List Sm:=Nd.bo (VI a b)
def QyI(a:List Sm)(b:Nat):List D:=[ZI (Sm.kd (QcZ a b)),ZI (Sm.at_ (QcZ a b)),D.str (Sm.nm (QcZ a b)),ZI (Sm.sl (QcZ a b)),ZI (Nd.kd (VH a b)),ZI (Nd.at_ (VH a b)),ZI (Nd.cl (VH a b)),D.str (Nd.tx (VH a b)),ZI (Nd.pr (VH a b)),ZI (Nd.op (VH a b)),ZI (Arr.k (Qnv a b)),SI (QGi a b),SI (QGj a b),D.sl N4 (LN (QyC a b)) (fun i=>Arr.row (List.getD (QyC a b) i QcY)) Mode.any,D.sl 15 (LN (QyD a b)) (fun i=>Nd.row (List.getD (QyD a b) i HI)) Mode.any,D.sl 34 (LN (QyE a b)) (fun i=>Sm.row (List.getD (QyE a b) i Qcl)) Mode.any,ZI (Nd.de (VH a b)),ZI (Nd.sl (VH a b)),ZI (Nd.ss (VH a b)),ZI (Nd.kd (VI a b)),ZI (Nd.at_ (VI a b)),ZI (Nd.cl (VI a b)),D.str (Nd.tx (VI a b)),ZI (Nd.pr (VI a b)),ZI (Nd.op (VI a b)),ZI (Arr.k (Qnw a b)),SI (QGk a b),SI (QGl a b),D.sl N4 (LN (QyF a b)) (fun i=>Arr.row (List.getD (QyF a b) i QcY)) Mode.any,D.sl 15 (LN (QyG a b)) (fun i=>Nd.row (List.getD (QyG a b) i HI)) Mode.any,D.sl 34 (LN (QyH a b)) (fun i=>Sm.row (List.getD (QyH a b) i Qcl)) Mode.any,ZI (Nd.de (VI a b)),ZI (Nd.sl (VI a b)),ZI (Nd.ss (VI a b))]
def QyJ(a:Nat)(b:List Sm):Prop:=SM a/\((SM (LN b)/\(∀(i:Nat),i<LN b->SM (QyI b i))/\True)/\True)/\True
def Qnx(a:Nat)(b:List Sm):Prop:=QyJ a b/\True
def Qcm(a:List Sm)(b:Nat):Sm:=List.getD a (Int.toNat (↑b:Int)) Qcl
def QyK(a:List Sm)(b:Nat):Int:=Sm.kd (Qcm a b)
def QyL(a:List Sm)(b:Nat):Int:=Sm.at_ (Qcm a b)
def QyM(a:List Sm)(b:Nat):List UInt8:=Sm.nm (Qcm a b)
def QyN(a:List Sm)(b:Nat):Int:=Sm.sl (Qcm a b)
def VJ(a:List Sm)(b:Nat):Nd:=Sm.te (Qcm a b)
def QyO(a:List Sm)(b:Nat):Int:=Nd.kd (VJ a b)
def QyP(a:List Sm)(b:Nat):Int:=Nd.at_ (VJ a b)
def QyQ(a:List Sm)(b:Nat):Int:=Nd.cl (VJ a b)
def QyR(a:List Sm)(b:Nat):List UInt8:=Nd.tx (VJ a b)
def QyS(a:List Sm)(b:Nat):Int:=Nd.pr (VJ a b)
def QyT(a:List Sm)(b:Nat):Int:=Nd.op (VJ a b)
def Qny(a:List Sm)(b:Nat):Arr:=Nd.va (VJ a b)
def QyU(a:List Sm)(b:Nat):Int:=Arr.k (Qny a b)
def QyV(a:List Sm)(b:Nat):List Int:=Arr.sh (Qny a b)
def Qsi(a:List Sm)(b:Nat):Nat:=LN (QyV a b)
def QyW(a:List Sm)(b c:Nat):List D:=[ZI (GI (QyV a b) c)]
def QyX(a:List Sm)(b:Nat):List Int:=Arr.nu (Qny a b)
def Qsj(a:List Sm)(b:Nat):Nat:=LN (QyX a b)
def QyY(a:List Sm)(b c:Nat):List D:=[ZI (GI (QyX a b) c)]
def QyZ(a:List Sm)(b:Nat):List Arr:=Arr.it (Qny a b)
def Qsk(a:List Sm)(b:Nat):Nat:=LN (QyZ a b)
def Qy0(a:List Sm)(b c:Nat):List D:=Arr.row (List.getD (QyZ a b) c QcY)
def Qy1(a:List Sm)(b:Nat):List Nd:=Nd.ki (VJ a b)
def Qsl(a:List Sm)(b:Nat):Nat:=LN (Qy1 a b)
def Qy2(a:List Sm)(b c:Nat):List D:=Nd.row (List.getD (Qy1 a b) c HI)
def Qy3(a:List Sm)(b:Nat):List Sm:=Nd.bo (VJ a b)
def Qsm(a:List Sm)(b:Nat):Nat:=LN (Qy3 a b)
def Qy4(a:List Sm)(b c:Nat):List D:=Sm.row (List.getD (Qy3 a b) c Qcl)
def Qy5(a:List Sm)(b:Nat):Int:=Nd.de (VJ a b)
def Qy6(a:List Sm)(b:Nat):Int:=Nd.sl (VJ a b)
def Qy7(a:List Sm)(b:Nat):Int:=Nd.ss (VJ a b)
def VK(a:List Sm)(b:Nat):Nd:=Sm.nd (Qcm a b)
def Qy8(a:List Sm)(b:Nat):Int:=Nd.kd (VK a b)
def Qy9(a:List Sm)(b:Nat):Int:=Nd.at_ (VK a b)
def Qza(a:List Sm)(b:Nat):Int:=Nd.cl (VK a b)
def Qzb(a:List Sm)(b:Nat):List UInt8:=Nd.tx (VK a b)
def Qzc(a:List Sm)(b:Nat):Int:=Nd.pr (VK a b)
def Qzd(a:List Sm)(b:Nat):Int:=Nd.op (VK a b)
def Qnz(a:List Sm)(b:Nat):Arr:=Nd.va (VK a b)
def Qze(a:List Sm)(b:Nat):Int:=Arr.k (Qnz a b)
def Qzf(a:List Sm)(b:Nat):List Int:=Arr.sh (Qnz a b)
def Qsn(a:List Sm)(b:Nat):Nat:=LN (Qzf a b)
def Qzg(a:List Sm)(b c:Nat):List D:=[ZI (GI (Qzf a b) c)]
def Qzh(a:List Sm)(b:Nat):List Int:=Arr.nu (Qnz a b)
def Qso(a:List Sm)(b:Nat):Nat:=LN (Qzh a b)
def Qzi(a:List Sm)(b c:Nat):List D:=[ZI (GI (Qzh a b) c)]
def Qzj(a:List Sm)(b:Nat):List Arr:=Arr.it (Qnz a b)
def Qsp(a:List Sm)(b:Nat):Nat:=LN (Qzj a b)
def Qzk(a:List Sm)(b c:Nat):List D:=Arr.row (List.getD (Qzj a b) c QcY)
def Qzl(a:List Sm)(b:Nat):List Nd:=Nd.ki (VK a b)
def Qsq(a:List Sm)(b:Nat):Nat:=LN (Qzl a b)
def Qzm(a:List Sm)(b c:Nat):List D:=Nd.row (List.getD (Qzl a b) c HI)
def Qzn(a:List Sm)(b:Nat):List Sm:=Nd.bo (VK a b)
def Qsr(a:List Sm)(b:Nat):Nat:=LN (Qzn a b)
def Qzo(a:List Sm)(b c:Nat):List D:=Sm.row (List.getD (Qzn a b) c Qcl)
def Qzp(a:List Sm)(b:Nat):Int:=Nd.de (VK a b)
def Qzq(a:List Sm)(b:Nat):Int:=Nd.sl (VK a b)
def Qzr(a:List Sm)(b:Nat):Int:=Nd.ss (VK a b)
def Qzs(a:Sm)(b:List Sm)(c:Nat):Prop:=isS a [D.agg [ZI (QyK b c),ZI (QyL b c),D.str (QyM b c),ZI (QyN b c),ZI (QyO b c),ZI (QyP b c),ZI (QyQ b c),D.str (QyR b c),ZI (QyS b c),ZI (QyT b c),ZI (QyU b c),D.sl N1 (Qsi b c) (fun i=>QyW b c i) Mode.any,D.sl N1 (Qsj b c) (fun i=>QyY b c i) Mode.any,D.sl N4 (Qsk b c) (fun i=>Qy0 b c i) Mode.any,D.sl 15 (Qsl b c) (fun i=>Qy2 b c i) Mode.any,D.sl 34 (Qsm b c) (fun i=>Qy4 b c i) Mode.any,ZI (Qy5 b c),ZI (Qy6 b c),ZI (Qy7 b c),ZI (Qy8 b c),ZI (Qy9 b c),ZI (Qza b c),D.str (Qzb b c),ZI (Qzc b c),ZI (Qzd b c),ZI (Qze b c),D.sl N1 (Qsn b c) (fun i=>Qzg b c i) Mode.any,D.sl N1 (Qso b c) (fun i=>Qzi b c i) Mode.any,D.sl N4 (Qsp b c) (fun i=>Qzk b c i) Mode.any,D.sl 15 (Qsq b c) (fun i=>Qzm b c i) Mode.any,D.sl 34 (Qsr b c) (fun i=>Qzo b c i) Mode.any,ZI (Qzp b c),ZI (Qzq b c),ZI (Qzr b c)]] []
def Qss(a:Sm):List Nd:=Bs a
def Qc0(a:Sm):Nat:=LN (Qss a)
def Qzt(a:Nat)(b:List Sm)(c:Nat):List Nd:=List.take a (Bs (Qcm b c))
def QnA(a:Nat)(b:Sm)(c d:Bool)(e:List Sm)(f:Nat):Prop:=a<=Qc0 b/\c=(d||RQ (Qzt a e f))
def Qmd(a:Nat)(b:List Sm)(c d:Nat):Prop:=(SM a/\(SM (QyK b c)/\SM (QyL b c)/\SM (QyM b c)/\SM (QyN b c)/\SM (QyO b c)/\SM (QyP b c)/\SM (QyQ b c)/\SM (QyR b c)/\SM (QyS b c)/\SM (QyT b c)/\SM (QyU b c)/\(SM (Qsi b c)/\(∀(i:Nat),i<Qsi b c->SM (QyW b c i))/\True)/\(SM (Qsj b c)/\(∀(i:Nat),i<Qsj b c->SM (QyY b c i))/\True)/\(SM (Qsk b c)/\(∀(i:Nat),i<Qsk b c->SM (Qy0 b c i))/\True)/\(SM (Qsl b c)/\(∀(i:Nat),i<Qsl b c->SM (Qy2 b c i))/\True)/\(SM (Qsm b c)/\(∀(i:Nat),i<Qsm b c->SM (Qy4 b c i))/\True)/\SM (Qy5 b c)/\SM (Qy6 b c)/\SM (Qy7 b c)/\SM (Qy8 b c)/\SM (Qy9 b c)/\SM (Qza b c)/\SM (Qzb b c)/\SM (Qzc b c)/\SM (Qzd b c)/\SM (Qze b c)/\(SM (Qsn b c)/\(∀(i:Nat),i<Qsn b c->SM (Qzg b c i))/\True)/\(SM (Qso b c)/\(∀(i:Nat),i<Qso b c->SM (Qzi b c i))/\True)/\(SM (Qsp b c)/\(∀(i:Nat),i<Qsp b c->SM (Qzk b c i))/\True)/\(SM (Qsq b c)/\(∀(i:Nat),i<Qsq b c->SM (Qzm b c i))/\True)/\(SM (Qsr b c)/\(∀(i:Nat),i<Qsr b c->SM (Qzo b c i))/\True)/\SM (Qzp b c)/\SM (Qzq b c)/\SM (Qzr b c)/\True)/\QyJ d b)/\True
def QnB(a:Sm):Int:=(NI (Qc0 a))
def Qzu(a:Nat)(b:Sm):Bool:=decide ((↑a:Int)<QnB b)
def Qst(a:List Sm):D:=D.sl 34 (LN a) (fun i=>QyI a i) Mode.any
def Qsu(a:List Sm):List D:=[Qst a]
def QGm(a:List Sm):D:=D.agg (Qsu a)
def QnC(a:List Sm):Prop:=SM (QGm a)
def QnD(a:Nat):Prop:=SM (D.ref N0 a N0)
def Qzv(a:List Sm):Prop:=SM (Qst a)
def QGn(a:Sm):D:=D.sl 15 (Qc0 a) (fun i=>Nd.row1 (List.getD (Qss a) i HI)) Mode.any
def Qzw(a:List Sm)(b:Nat)(c:Sm):Prop:=Qzv a/\SM (ZI (LI a))/\SM (ZI (↑b:Int))/\SM (QGn c)/\SM (ZI (QnB c))/\True
def Qzx(a:List Sm)(b c:Nat)(d:Sm):Prop:=QnC a/\QnD b/\SM (ZI Z0)/\Qzw a c d
def Qsv(a:Sm)(b c:Nat):Prop:=Qc0 a-b<Qc0 a-c
def Qme(a b:Nat):Prop:=IntKind.wrap IntKind.i64 ((↑a:Int)+Z1)=(↑b:Int)
def VL(a:Sm)(b:Nat):Nd:=List.getD (Qss a) (Int.toNat (↑b:Int)) HI
def QnE(a:Sm)(b:Nat):Arr:=Nd.va (VL a b)
def QGo(a:Sm)(b:Nat):List Int:=Arr.sh (QnE a b)
def QGp(a:Sm)(b:Nat):List Int:=Arr.nu (QnE a b)
def Qzy(a:Sm)(b:Nat):List Arr:=Arr.it (QnE a b)
def Qzz(a:Sm)(b:Nat):List Nd:=Nd.ki (VL a b)
def QzA(a:Sm)(b:Nat):List Sm:=Nd.bo (VL a b)
def QzB(a:Sm)(b:Nat):D:=D.agg [ZI (Nd.kd (VL a b)),ZI (Nd.at_ (VL a b)),ZI (Nd.cl (VL a b)),D.str (Nd.tx (VL a b)),ZI (Nd.pr (VL a b)),ZI (Nd.op (VL a b)),ZI (Arr.k (QnE a b)),SI (QGo a b),SI (QGp a b),D.sl N4 (LN (Qzy a b)) (fun i=>Arr.row (List.getD (Qzy a b) i QcY)) Mode.any,D.sl 15 (LN (Qzz a b)) (fun i=>Nd.row (List.getD (Qzz a b) i HI)) Mode.any,D.sl 34 (LN (QzA a b)) (fun i=>Sm.row (List.getD (QzA a b) i Qcl)) Mode.any,ZI (Nd.de (VL a b)),ZI (Nd.sl (VL a b)),ZI (Nd.ss (VL a b))]
def QzC(a:List Sm):Prop:=Qzv a/\SM (ZI (LI a))/\True
def Qsw(a:Nat)(b:List Sm)(c:Int):Prop:=a<=LN b/\c=Mi (List.take a b)
def Qsx(a:Nat)(b:Sm)(c d:Int)(e:List Sm)(f:Nat):Prop:=a<=Qc0 b/\c=d+GG (Qzt a e f)
def QzD(a:List Sm):List D:=[Qst a,D.bool false]
def QzE(a:List Sm):Prop:=True/\∃(_y:Unit),True/\(11:Int)=Qmc a/\True/\True
theorem Blw(l:List Sm)(hl:l.length<=BX)(ho:∀s∈l,s.ok)(hs:∀s∈l,s.sm):CD 20 [.agg [gsl 34 Sm.row1 l]] (.int .i64 (Bw l)):=by
 refine Bh (A:=sC _ _) (x:=()) (E:=Epr l) (eOk (Bj4 hl ho hs) rfl) Tryz.func20 rfl (by kernel_rfl) rfl (by simp[sC,Epr,EC,E0]) ?_
 refine Bl (T :=
  ∀(x:Nat),True->SM x/\ifB (decide ((1000:Int)<(LI l))) (RT ((2:Int)=Qmc l)) (SM x/\(∃(x_1:Nat×Bool),Qsh x_1.1 l x_1.2/\(Z0=(NI x_1.1)/\false=x_1.2/\True)/\Qnx x l)/\∀(x_1:Nat×Bool),Qsh x_1.1 l x_1.2->ifB (decide ((NI x_1.1)<(LI l))) (Bf (Z0<=(NI x_1.1)/\(NI x_1.1)<(LI l)) (∀(x_2:Nat),x≠x_2/\True->SM x_2/\SM x_2/\∃(x_3:Sm),Qzs x_3 l x_1.1/\∀(y:Unit),True->(∃(x_4:Nat×Bool),QnA x_4.1 x_3 x_4.2 x_1.2 l x_1.1/\(Z0=(NI x_4.1)/\x_1.2=x_4.2/\True)/\Qmd x_2 l x_1.1 x)/\∀(x_4:Nat×Bool),QnA x_4.1 x_3 x_4.2 x_1.2 l x_1.1->ifB (Qzu x_4.1 x_3) (Bf (Z0<=(NI x_4.1)/\(NI x_4.1)<QnB x_3) (∀(x_5:Nat),x_2≠x_5/\x≠x_5/\True->SM x_5/\ifB x_4.2 (Qzx l x x_1.1 x_3/\∃(y:Nat×Bool),QnA y.1 x_3 y.2 x_1.2 l x_1.1/\Qsv x_3 y.1 x_4.1/\(Qme x_4.1 y.1/\true=y.2/\True)/\Qmd x_2 l x_1.1 x) (SM x_5/\∃(x_6:Nd),(isN x_6 [QzB x_3 x_4.1,ZI 60] [ZI 60]/\Nd.sm x_6)/\∀(y:Unit),True->Qzx l x x_1.1 x_3/\∃(y:Nat×Bool),QnA y.1 x_3 y.2 x_1.2 l x_1.1/\Qsv x_3 y.1 x_4.1/\(Qme x_4.1 y.1/\EE x_6 (60:Int)=y.2/\True)/\Qmd x_2 l x_1.1 x))) ((QnC l/\QnD x/\SM (ZI Z0)/\QzC l)/\∃(y:Nat×Bool),Qsh y.1 l y.2/\LN l-y.1<LN l-x_1.1/\(Qme x_1.1 y.1/\x_4.2=y.2/\True)/\Qnx x l))) (ifB x_1.2 (RT ((8:Int)=Qmc l)) (SM x/\(∃(x_2:Nat×Int),Qsw x_2.1 l x_2.2/\(Z0=(NI x_2.1)/\Z0=x_2.2/\True)/\Qnx x l)/\∀(x_2:Nat×Int),Qsw x_2.1 l x_2.2->ifB (decide ((NI x_2.1)<(LI l))) (Bf (Z0<=(NI x_2.1)/\(NI x_2.1)<(LI l)) (∀(x_3:Nat),x≠x_3/\True->SM x_3/\SM x_3/\∃(x_4:Sm),Qzs x_4 l x_2.1/\∀(y:Unit),True->(∃(x_5:Nat×Int),Qsx x_5.1 x_4 x_5.2 x_2.2 l x_2.1/\(Z0=(NI x_5.1)/\x_2.2=x_5.2/\True)/\Qmd x_3 l x_2.1 x)/\∀(x_5:Nat×Int),Qsx x_5.1 x_4 x_5.2 x_2.2 l x_2.1->ifB (Qzu x_5.1 x_4) (Bf (Z0<=(NI x_5.1)/\(NI x_5.1)<QnB x_4) (∀(x_6:Nat),x_3≠x_6/\x≠x_6/\True->SM x_6/\SM x_6/\∃(x_7:Nd),(isN x_7 [QzB x_4 x_5.1] []/\Nd.sm x_7)/\∀(y:Unit),True->(QnC l/\QnD x/\Qzw l x_2.1 x_4)/\∃(y:Nat×Int),Qsx y.1 x_4 y.2 x_2.2 l x_2.1/\Qsv x_4 y.1 x_5.1/\(Qme x_5.1 y.1/\IntKind.wrap IntKind.i64 (x_5.2+II x_7)=y.2/\True)/\Qmd x_3 l x_2.1 x)) ((QnC l/\QnD x/\QzC l)/\∃(y:Nat×Int),Qsw y.1 l y.2/\LN l-y.1<LN l-x_2.1/\(Qme x_2.1 y.1/\x_5.2=y.2/\True)/\Qnx x l))) (ifB (decide ((16384:Int)<x_2.2)) (RT ((21:Int)=Qmc l)) (SM x/\∃(x_3:Unit),wkL (QzD l) (QzD l)/\∀(y:Unit),True->ifB (!BF false l) (QzE l) (SM x/\∃(x:Unit),wkL (Qsu l) (Qsu l)/\∀(y:Unit),True->ifB (TE l) (QzE l) (RT (Z0=Qmc l))))))))) (by kernel_rfl) ?_
 delta DA GI LI LN N0 N1 N4 NI SI SM Z0 Z1 ZI Qmc Qsh QyC Qme VL QnE QGo QGp Qzy Qzz QzA QzB QzC QyD Qsw Qsx QzD QzE QyE VI Qnw QGk QGl QyF QyG QyH QcY QyI QyJ Qnx Qcm QyK QyL QyM QyN VJ QyO HI QyP QyQ QyR QyS QyT Qny QyU QyV Qsi QyW Qcl QyX Qsj QyY QyZ Qsk Qy0 Qy1 Qsl Qy2 Qy3 QcZ Qsm Qy4 Qy5 Qy6 Qy7 VK Qy8 Qy9 Qza Qzb VH Qzc Qzd Qnz Qze Qzf Qsn Qzg Qzh Qso Qzi Qnv Qzj Qsp Qzk Qzl Qsq Qzm Qzn Qsr Qzo Qzp QGi Qzq Qzr Qzs Qss Qc0 Qzt QnA Qmd QnB Qzu QGj Qst Qsu QGm QnC QnD Qzv QGn Qzw Qzx Qsv RT
 try simp only[<- dm]
 try simp only[<- dn]
 simp only[ne_eq,implies_true,Int.toNat_natCast,Bg,Be,decide_eq_true_eq,decide_eq_false_iff_not,true_and,and_true,Bool.not_eq_true',Bool.not_eq_false',exists_const,forall_const,Prod.exists]
 unfold BX at hl
 have hr:Bw l=if 1000<l.length then 2 else if 60<dpB l then 8 else if 16384<szB l then 21 else if (BF false l&&!TE l)=true then 0 else 11:=rfl
 rw[hr]
 intro x
 refine⟨fun h=>by rw[if_pos (by omega)],fun h=>?_⟩
 rw[if_neg (by omega)]
 refine⟨⟨0,false,⟨Nat.zero_le _,rfl⟩,rfl,rfl⟩,?_⟩
 rintro ⟨i,t⟩ ⟨hi,ht⟩
 simp only at hi ht ⊢
 refine⟨fun hlt=>⟨⟨by omega,hlt⟩,fun z _=>?_⟩,fun hge=>?_⟩
 ·have hlt':i<l.length:=by omega
  have hsm:=W9 (hs _ (CT hlt'))
  have h2:=G6 (l.getD i default)
  have hta:=BhL hlt'
  refine⟨l.getD i default,MA _ _,⟨0,t,⟨Nat.zero_le _,by simp[RQ]⟩,rfl,rfl⟩,?_⟩
  rintro ⟨j,u⟩ ⟨hj,hu⟩
  simp only at hj hu ⊢
  refine⟨fun hl2=>⟨⟨by omega,hl2⟩,fun _ _=>?_⟩,fun hg2=>?_⟩
  ·have hl2':j<(Bs (l.getD i default)).length:=by omega
   have htd:=BhT hl2'
   have w:IntKind.i64.wrap ((j:Int)+1)=((j+1:Nat):Int):=by rw[Bb (by omega) (by omega)];rfl
   refine⟨fun e=>⟨j+1,true,⟨hl2',?_⟩,by omega,w,rfl⟩,fun e=>⟨(Bs (l.getD i default)).getD j default,⟨BH _ _,hsm _ (Ci hl2')⟩,j+1,_,⟨hl2',?_⟩,by omega,w,rfl⟩⟩
   ·rw[htd,<- Bool.or_assoc,<- hu,e];rfl
   ·rw[htd,<- Bool.or_assoc,<- hu,e];rfl
  ·have e:j=(Bs (l.getD i default)).length:=by omega
   refine⟨i+1,u,⟨hlt',?_⟩,by omega,by rw[Bb (by omega) (by omega)];rfl,rfl⟩
   rw[hta,<- ht,hu,e,List.take_length]
 ·have e:i=l.length:=by omega
  rw[e,List.take_length] at ht
  have hdp:=BkK l
  rw[<- ht] at hdp
  refine⟨fun h3=>by rw[if_pos (hdp.1 h3)],fun h3=>?_⟩
  rw[if_neg (fun h4=>by rw[hdp.2 h4] at h3;cases h3)]
  refine⟨⟨0,0,⟨Nat.zero_le _,rfl⟩,rfl,rfl⟩,?_⟩
  rintro ⟨k,c⟩ ⟨hk,hc⟩
  simp only at hk hc ⊢
  have hb:=BgP (l.take k)
  rw[List.length_take] at hb
  refine⟨fun hlt=>⟨⟨by omega,hlt⟩,fun z _=>?_⟩,fun hge=>?_⟩
  ·have hlt':k<l.length:=by omega
   have hsm:=W9 (hs _ (CT hlt'))
   have h2:=G6 (l.getD k default)
   have hta:=Bhh hlt'
   refine⟨l.getD k default,MA _ _,⟨0,c,⟨Nat.zero_le _,by simp[GG]⟩,rfl,rfl⟩,?_⟩
   rintro ⟨j,u⟩ ⟨hj,hu⟩
   simp only at hj hu ⊢
   refine⟨fun hl2=>⟨⟨by omega,hl2⟩,fun _ _=>?_⟩,fun hg2=>?_⟩
   ·have hl2':j<(Bs (l.getD k default)).length:=by omega
    have htd:=BhJ hl2'
    have hz:=Wo ((Bs (l.getD k default)).take j)
    rw[List.length_take] at hz
    have hs1:=BdZ ((Bs (l.getD k default)).getD j default)
    have w:IntKind.i64.wrap ((j:Int)+1)=((j+1:Nat):Int):=by rw[Bb (by omega) (by omega)];rfl
    have w2:IntKind.i64.wrap (u+II ((Bs (l.getD k default)).getD j default))=u+II ((Bs (l.getD k default)).getD j default):=Bb (by omega) (by omega)
    refine⟨(Bs (l.getD k default)).getD j default,⟨BH _ _,hsm _ (Ci hl2')⟩,j+1,u+II ((Bs (l.getD k default)).getD j default),⟨hl2',?_⟩,by omega,w,w2⟩
    rw[htd,hu]
    omega
   ·have e:j=(Bs (l.getD k default)).length:=by omega
    refine⟨k+1,u,⟨hlt',?_⟩,by omega,by rw[Bb (by omega) (by omega)];rfl,rfl⟩
    rw[hta,<- hc,hu,e,List.take_length]
  ·have e:k=l.length:=by omega
   rw[e,List.take_length] at hc
   have hsz:=Bld l
   rw[<- hc] at hsz
   refine⟨fun h4=>by rw[if_pos (hsz.1 h4)],fun h4=>?_⟩
   rw[if_neg (fun h5=>h4 (hsz.2 h5))]
   exact⟨Bc _,fun h5=>by rw[h5];rfl,fun h5=>⟨Bc _,fun h6=>by rw[h5,h6];rfl,fun h6=>by rw[h5,h6];rfl⟩⟩
mutual
/-- A tree without what comparisons do not see. -/
def stN:Nd->Nd
 |.mk kd _ cl tx pr op va ki bo _ _ _=>.mk kd 0 cl tx pr op va (stL ki) (stB bo) 0 0 0
def stL:List Nd->List Nd
 | []=>[]
 |x::r=>stN x::stL r
def stB:List Sm->List Sm
 | []=>[]
 |x::r=>stM x::stB r
def stM:Sm->Sm
 |.mk kd _ nm _ te nd=>.mk kd 0 nm 0 (stN te) (stN nd)
end
theorem OG:∀l:List Nd,stL l=l.map stN
 | []=>by simp only[stL,List.map_nil]
 |x::r=>by simp only[stL,List.map_cons,OG r]
theorem OC:∀l:List Sm,stB l=l.map stM
 | []=>by simp only[stB,List.map_nil]
 |x::r=>by simp only[stB,List.map_cons,OC r]
theorem IN(a b:Nd):stN a=stN b↔a.kd=b.kd/\a.cl=b.cl/\a.tx=b.tx/\a.pr=b.pr/\a.op=b.op/\a.va=b.va/\a.ki.map stN=b.ki.map stN/\a.bo.map stM=b.bo.map stM:=by
 cases a;cases b
 simp only[stN,OG,OC,Nd.mk.injEq,Nd.kd,Nd.cl,Nd.tx,Nd.pr,Nd.op,Nd.va,Nd.ki,Nd.bo,true_and,and_true]
theorem Wz(a b:Sm):stM a=stM b↔a.kd=b.kd/\a.nm=b.nm/\stN a.te=stN b.te/\stN a.nd=stN b.nd:=by
 cases a;cases b
 simp only[stM,Sm.mk.injEq,Sm.kd,Sm.nm,Sm.te,Sm.nd,true_and]
theorem GD{a b:Nd}:wkL [.agg a.row1,.agg b.row1] [.agg a.row2,.agg b.row2]:=by
 simp only[wkL,wkD]
 exact⟨Mk a,Mk b,trivial⟩
def okS(l:List Sm):Prop:=l.length<=BX/\(∀s∈l,s.ok)/\∀s∈l,s.sm
abbrev Frm1:=List (List UInt8×Int)
abbrev Scp:=List Frm1
def Cx(nm:List UInt8):Frm1->Option (Nat×Int)
 | []=>none
 |d::r=>if d.1=nm then some (0,d.2) else (Cx nm r).map fun x=>(x.1+1,x.2)
def Bv(nm:List UInt8):Scp->Option (Nat×Nat×Int)
 | []=>none
 |f::r=>match Cx nm f with
  |some (i,c)=>some (0,i,c)
  |none=>(Bv nm r).map fun x=>(x.1+1,x.2.1,x.2.2)
abbrev Flt:=Int×Int×List UInt8
def Iz(f:Frm1)(s:Sm):Frm1:=if s.kd=2 then f++[(s.nm,s.nd.cl)] else f
mutual
def rvN(sc:Scp):Nd->Except Flt Nd
 |.mk kd at_ cl tx pr op va ki bo _de _sl _ss =>
  match rvL sc ki with
  |Except.error e=>Except.error e
  |Except.ok ki' =>
   if kd=2 then match Bv tx sc with
    |none=>Except.error (28,at_,tx)
    |some (d,i,c)=>if c=cl then Except.ok (Nd.mk kd at_ cl tx pr op va ki' bo d i 0) else Except.error (11,at_,tx)
   else if kd=10 then match rvB sc [] bo with
    |Except.error e=>Except.error e
    |Except.ok (bo',f)=>Except.ok (Nd.mk kd at_ cl tx pr op va ki' bo' 0 0 f.length)
   else Except.ok (Nd.mk kd at_ cl tx pr op va ki' bo 0 0 0)
def rvL(sc:Scp):List Nd->Except Flt (List Nd)
 | []=>Except.ok []
 |x::r=>match rvN sc x with
  |Except.error e=>Except.error e
  |Except.ok y=>match rvL sc r with
   |Except.error e=>Except.error e
   |Except.ok l=>Except.ok (y::l)
/-- A body's statements behind the definitions f of the same body. -/
def rvB(sc:Scp)(f:Frm1):List Sm->Except Flt (List Sm×Frm1)
 | []=>Except.ok ([],f)
 |s::r=>match rvM sc f s with
  |Except.error e=>Except.error e
  |Except.ok t=>match rvB sc (Iz f t) r with
   |Except.error e=>Except.error e
   |Except.ok (l,g)=>Except.ok (t::l,g)
def rvM(sc:Scp)(f:Frm1):Sm->Except Flt Sm
 |.mk kd at_ nm _sl te nd =>
  if kd=3 then match rvN (f::sc) te with
   |Except.error e=>Except.error e
   |Except.ok te'=>match rvN (f::sc) nd with
    |Except.error e=>Except.error e
    |Except.ok nd'=>Except.ok (Sm.mk kd at_ nm 0 te' nd')
  else match rvN (f::sc) nd with
   |Except.error e=>Except.error e
   |Except.ok nd'=>Except.ok (Sm.mk kd at_ nm (if kd=2 then (f.length:Int) else 0) te nd')
end
def rvP(l:List Sm):Except Flt (List Sm×Frm1):=if Bw l≠0 then Except.error (Bw l,0,[]) else rvB [] [] l
theorem BbT(sc : Scp)(f : Frm1)(s : Sm) : rvM sc f s=if s.kd=3 then match rvN (f::sc) s.te with
   |Except.error e=>Except.error e
   |Except.ok te'=>match rvN (f::sc) s.nd with
    |Except.error e=>Except.error e
    |Except.ok nd'=>Except.ok (Sm.mk s.kd s.at_ s.nm 0 te' nd')
  else match rvN (f::sc) s.nd with
   |Except.error e=>Except.error e
   |Except.ok nd'=>Except.ok (Sm.mk s.kd s.at_ s.nm (if s.kd=2 then (f.length:Int) else 0) s.te nd'):=by
 cases s
 rw[rvM]
 rfl
theorem WF{nm:List UInt8}:∀ {f:Frm1} {i:Nat} {c:Int},Cx nm f=some (i,c)->i<f.length/\f.getD i ([],0)=(nm,c)
 | [],_,_,h=>by simp[Cx] at h
 |d::r,i,c,h=>by
  rw[Cx] at h
  split at h
  ·rename_i e
   simp only[Option.some.injEq,Prod.mk.injEq] at h
   obtain ⟨rfl,rfl⟩:=h
   exact⟨by simp,by rw[<- e];rfl⟩
  ·rw[Option.map_eq_some_iff] at h
   obtain ⟨x,h1,h2⟩:=h
   simp only[Prod.mk.injEq] at h2
   obtain ⟨rfl,rfl⟩:=h2
   have:=WF h1
   exact⟨by simp only[List.length_cons];omega,by simpa using this.2⟩
theorem W8{nm:List UInt8}:∀ {f:Frm1},Cx nm f=none↔∀d∈f,d.1≠nm
 | []=>by simp[Cx]
 |d::r=>by
  rw[Cx]
  split
  ·rename_i e
   simp[e]
  ·rename_i e
   rw[Option.map_eq_none_iff,W8]
   simp[e]
theorem UN{sc : Scp}{kd at_ cl : Int}{tx : List UInt8}{pr op : Int}{va : Arr}{ki : List Nd}{bo : List Sm}{de sl ss : Int}{m : Nd}(h : rvN sc (.mk kd at_ cl tx pr op va ki bo de sl ss)=.ok m) :
  ∃ki' bo' de' sl' ss',m=.mk kd at_ cl tx pr op va ki' bo' de' sl' ss'/\rvL sc ki=.ok ki'/\0<=de'/\0<=sl'/\0<=ss' /\
   ((kd=2/\bo'=bo/\ss'=0/\∃(d i:Nat),Bv tx sc=some (d,i,cl)/\de'=d/\sl'=i)\/(kd=10/\de'=0/\sl'=0/\∃f,rvB sc [] bo=.ok (bo',f)/\ss'=f.length)\/(kd≠2/\kd≠10/\bo'=bo/\de'=0/\sl'=0/\ss'=0)):=by
 rw[rvN] at h
 cases hk:rvL sc ki with
 |error e=>rw[hk] at h;cases h
 |ok ki' =>
  rw[hk] at h
  simp only at h
  by_cases h2:kd=2
  ·rw[if_pos h2] at h
   cases hl:Bv tx sc with
   |none=>rw[hl] at h;cases h
   |some x =>
    obtain ⟨d,i,c⟩:=x
    rw[hl] at h
    simp only at h
    split at h
    ·rename_i hc
     subst hc
     injection h with h
     subst h
     exact⟨ki',bo,d,i,0,rfl,rfl,by omega,by omega,by omega,.inl ⟨h2,rfl,rfl,d,i,rfl,rfl,rfl⟩⟩
    ·cases h
  ·rw[if_neg h2] at h
   by_cases h10:kd=10
   ·rw[if_pos h10] at h
    cases hb:rvB sc [] bo with
    |error e=>rw[hb] at h;cases h
    |ok z =>
     obtain ⟨bo',f⟩:=z
     rw[hb] at h
     injection h with h
     subst h
     exact⟨ki',bo',0,0,f.length,rfl,rfl,by omega,by omega,by omega,.inr (.inl ⟨h10,rfl,rfl,f,rfl,rfl⟩)⟩
   ·rw[if_neg h10] at h
    injection h with h
    subst h
    exact⟨ki',bo,0,0,0,rfl,rfl,by omega,by omega,by omega,.inr (.inr ⟨h2,h10,rfl,rfl,rfl,rfl⟩)⟩
mutual
theorem Ex:∀(n:Nd) (sc:Scp) (m:Nd),rvN sc n=.ok m->rvN sc m=.ok m/\stN m=stN n
 |.mk kd at_ cl tx pr op va ki bo de sl ss,sc,m,h=>by
  obtain ⟨ki',bo',de',sl',ss',rfl,hk,_,_,_,hc⟩:=UN h
  obtain ⟨k1,k2⟩:=BaT ki sc ki' hk
  rcases hc with ⟨h2,rfl,rfl,d,i,hl,rfl,rfl⟩ | ⟨h10,rfl,rfl,f,hb,rfl⟩ | ⟨h2,h10,rfl,rfl,rfl,rfl⟩
  ·refine⟨?_,by simp only[stN,k2]⟩
   rw[rvN,k1]
   simp only[if_pos h2,hl,if_true]
  ·obtain ⟨b1,b2⟩:=UG bo sc [] bo' f hb
   refine⟨?_,by simp only[stN,k2,b2]⟩
   rw[rvN,k1]
   have h2:kd≠2:=by omega
   simp only[if_neg h2,if_pos h10,b1]
  ·refine⟨?_,by simp only[stN,k2]⟩
   rw[rvN,k1]
   simp only[if_neg h2,if_neg h10]
theorem BaT:∀(l:List Nd) (sc:Scp) (m:List Nd),rvL sc l=.ok m->rvL sc m=.ok m/\stL m=stL l
 | [],sc,m,h=>by
  rw[rvL] at h;injection h with h;subst h
  exact⟨by rw[rvL],rfl⟩
 |x::r,sc,m,h=>by
  rw[rvL] at h
  cases hx:rvN sc x with
  |error e=>rw[hx] at h;cases h
  |ok y =>
   rw[hx] at h
   simp only at h
   cases hr:rvL sc r with
   |error e=>rw[hr] at h;cases h
   |ok s =>
    rw[hr] at h
    injection h with h;subst h
    obtain ⟨a1,a2⟩:=Ex x sc y hx
    obtain ⟨b1,b2⟩:=BaT r sc s hr
    exact⟨by rw[rvL,a1];simp only[b1],by simp only[stL,a2,b2]⟩
theorem UG:∀(l:List Sm) (sc:Scp) (f:Frm1) (m:List Sm) (g:Frm1),rvB sc f l=.ok (m,g)->rvB sc f m=.ok (m,g)/\stB m=stB l
 | [],sc,f,m,g,h=>by
  rw[rvB] at h;injection h with h;injection h with h1 h2;subst h1 h2
  exact⟨by rw[rvB],rfl⟩
 |x::r,sc,f,m,g,h=>by
  rw[rvB] at h
  cases hx:rvM sc f x with
  |error e=>rw[hx] at h;cases h
  |ok y =>
   rw[hx] at h
   simp only at h
   cases hr:rvB sc (Iz f y) r with
   |error e=>rw[hr] at h;cases h
   |ok z =>
    obtain ⟨s,g'⟩:=z
    rw[hr] at h
    injection h with h;injection h with h1 h2;subst h1 h2
    obtain ⟨a1,a2⟩:=Bbe x sc f y hx
    obtain ⟨b1,b2⟩:=UG r sc (Iz f y) s g' hr
    exact⟨by rw[rvB,a1];simp only[b1],by simp only[stB,a2,b2]⟩
theorem Bbe:∀(s:Sm) (sc:Scp) (f:Frm1) (m:Sm),rvM sc f s=.ok m->rvM sc f m=.ok m/\stM m=stM s
 |.mk kd at_ nm sl te nd,sc,f,m,h=>by
  rw[rvM] at h
  by_cases h3:kd=3
  ·rw[if_pos h3] at h
   cases ht:rvN (f::sc) te with
   |error e=>rw[ht] at h;cases h
   |ok te' =>
    rw[ht] at h
    simp only at h
    cases hn:rvN (f::sc) nd with
    |error e=>rw[hn] at h;cases h
    |ok nd' =>
     rw[hn] at h
     injection h with h;subst h
     obtain ⟨a1,a2⟩:=Ex te (f::sc) te' ht
     obtain ⟨b1,b2⟩:=Ex nd (f::sc) nd' hn
     exact⟨by rw[rvM,if_pos h3,a1];simp only[b1],by simp only[stM,a2,b2]⟩
  ·rw[if_neg h3] at h
   cases hn:rvN (f::sc) nd with
   |error e=>rw[hn] at h;cases h
   |ok nd' =>
    rw[hn] at h
    injection h with h;subst h
    obtain ⟨b1,b2⟩:=Ex nd (f::sc) nd' hn
    exact⟨by rw[rvM,if_neg h3,b1],by simp only[stM,b2]⟩
end
mutual
theorem BeZ:∀n:Nd,dpN (stN n)=dpN n
 |.mk kd at_ cl tx pr op va ki bo de sl ss=>by simp only[stN,dpN,Biy ki,BcF bo]
theorem Biy:∀l:List Nd,dpL (stL l)=dpL l
 | []=>rfl
 |x::r=>by simp only[stL,dpL,BeZ x,Biy r]
theorem BcF:∀l:List Sm,dpB (stB l)=dpB l
 | []=>rfl
 |x::r=>by simp only[stB,dpB,BmE x,BcF r]
theorem BmE:∀s:Sm,dpM (stM s)=dpM s
 |.mk kd at_ nm sl te nd=>by simp only[stM,dpM,BeZ te,BeZ nd]
end
mutual
theorem BeK:∀n:Nd,szN (stN n)=szN n
 |.mk kd at_ cl tx pr op va ki bo de sl ss=>by simp only[stN,szN,Bir ki,Bcp bo]
theorem Bir:∀l:List Nd,szL (stL l)=szL l
 | []=>rfl
 |x::r=>by simp only[stL,szL,BeK x,Bir r]
theorem Bcp:∀l:List Sm,szB (stB l)=szB l
 | []=>rfl
 |x::r=>by simp only[stB,szB,Bmi x,Bcp r]
theorem Bmi:∀s:Sm,szM (stM s)=szM s
 |.mk kd at_ nm sl te nd=>by simp only[stM,szM,BeK te,BeK nd]
end
mutual
theorem Bgu(k:Int):∀n:Nd,Gs k (stN n)=Gs k n
 |.mk kd at_ cl tx pr op va ki bo de sl ss=>by simp only[stN,Gs,Bgf k ki]
theorem Bgf(k:Int):∀l:List Nd,Bdg k (stL l)=Bdg k l
 | []=>rfl
 |x::r=>by simp only[stL,Bdg,Bgu k x,Bgf k r]
end
theorem Bjd(s:Sm):Bs (stM s)=(Bs s).map stN:=by
 have e:(stM s).kd=s.kd/\(stM s).te=stN s.te/\(stM s).nd=stN s.nd:=by cases s;simp only[stM,Sm.kd,Sm.te,Sm.nd,and_self]
 unfold Bs
 rw[e.1,e.2.1,e.2.2]
 split<;>rfl
theorem Wr(k:Int):∀l:List Sm,C8 (stB l) k=C8 l k
 | []=>rfl
 |s::r=>by
  have ih:=Wr k r
  unfold C8 at ih ⊢
  rw[stB,List.any_cons,List.any_cons,ih,Bjd,List.any_map]
  congr 1
  exact GW fun x _=>Bgu k x
theorem Bbo(n:Nd):(stN n).cl=n.cl/\(stN n).kd=n.kd/\(stN n).op=n.op:=by cases n;simp only[stN,Nd.cl,Nd.kd,Nd.op,and_self]
theorem Wn:∀l:List Sm,(stB l).length=l.length:=fun l=>by rw[OC,List.length_map]
theorem Um(n:Nd):(stN n).tx=n.tx/\(stN n).pr=n.pr/\(stN n).va=n.va/\(stN n).ki=stL n.ki/\(stN n).bo=stB n.bo:=by
 cases n;simp only[stN,Nd.tx,Nd.pr,Nd.va,Nd.ki,Nd.bo,and_self]
theorem BaZ:∀l:List Nd,(stL l).isEmpty=l.isEmpty
 | []=>rfl
 |_::_=>rfl
theorem BhH:∀l:List Sm,(stB l).isEmpty=l.isEmpty
 | []=>rfl
 |_::_=>rfl
theorem Bis(n:Nd):EN (stN n)=EN n:=by
 obtain ⟨a1,a2,a3⟩:=Bbo n
 obtain ⟨b1,b2,b3,b4,b5⟩:=Um n
 simp only[EN,a1,a2,a3,b1,b2,b3,b4,BaZ]
theorem Bgd(l:List Nd)(i:Nat):((stL l).getD i default).kd=(l.getD i default).kd/\((stL l).getD i default).op=(l.getD i default).op:=by
 rw[OG]
 simp only[List.getD_eq_getElem?_getD,List.getElem?_map]
 cases l[i]? with
 |none=>simp
 |some x=>simp[(Bbo x).2.1,(Bbo x).2.2]
theorem Bja(n:Nd):Ej (stN n)=Ej n:=by
 obtain ⟨a1,a2,a3⟩:=Bbo n
 obtain ⟨b1,b2,b3,b4,b5⟩:=Um n
 have h1:(stL n.ki).length=n.ki.length:=by rw[OG,List.length_map]
 have h2:(stL n.ki).map Nd.cl=n.ki.map Nd.cl:=by
  rw[OG,List.map_map]
  exact List.map_congr_left fun x _=>(Bbo x).1
 have h3:EG (stN n)=EG n:=by simp only[EG,b4,(Bgd n.ki 0).1,(Bgd n.ki 0).2]
 simp only[Ej,Bj,a1,a2,b4,h1,h2,h3]
theorem Bje(l:List Sm):((stB l).getD ((stB l).length-1) default).kd=(l.getD (l.length-1) default).kd:=by
 rw[Wn,OC]
 simp only[List.getD_eq_getElem?_getD,List.getElem?_map]
 cases l[l.length-1]? with
 |none=>simp
 |some x=>cases x;simp[stM,Sm.kd]
theorem BkE(n:Nd):Mz (stN n)=Mz n:=by
 obtain ⟨a1,a2,a3⟩:=Bbo n
 obtain ⟨b1,b2,b3,b4,b5⟩:=Um n
 simp only[Mz,a1,b4,b5,BaZ,BhH,Bje n.bo,Wr]
theorem Bj3{α:Type}{F:Nd->α}(hF:∀n,F (stN n)=F n){m n:Nd}(h:stN m=stN n):F m=F n:=by rw[<- hF m,h,hF n]
theorem BgV{kd at_ cl : Int}{tx : List UInt8}{pr op : Int}{va : Arr}{ki ki' : List Nd}{bo bo' : List Sm}{de sl ss de' sl' ss' : Int}(hb : bo'.isEmpty=bo.isEmpty)(h1 : 0<=de')(h2 : 0<=sl')(h3 : 0<=ss')
  (h:ED (.mk kd at_ cl tx pr op va ki bo de sl ss) kd=true):ED (.mk kd at_ cl tx pr op va ki' bo' de' sl' ss') kd=true:=by
 simp only[ED,Nd.kd,Nd.at_,Nd.de,Nd.sl,Nd.ss,Nd.tx,Nd.pr,Nd.op,Nd.va,Nd.bo,Bool.and_eq_true] at h ⊢
 obtain ⟨⟨⟨⟨⟨⟨⟨⟨⟨a1,a2⟩,a3⟩,a4⟩,a5⟩,a6⟩,a7⟩,a8⟩,a9⟩,a10⟩:=h
 exact⟨⟨⟨⟨⟨⟨⟨⟨⟨a1,a2⟩,decide_eq_true h1⟩,decide_eq_true h2⟩,decide_eq_true h3⟩,a6⟩,a7⟩,a8⟩,a9⟩,by rw[hb];exact a10⟩
mutual
theorem Om:∀(n:Nd) (sc:Scp) (m:Nd),rvN sc n=.ok m->BC n=true->BC m=true
 |.mk kd at_ cl tx pr op va ki bo de sl ss,sc,m,h,hv=>by
  have hst:=(Ex _ _ _ h).2
  have e1:=Bj3 Bis hst
  have e2:=Bj3 Bja hst
  have e3:=Bj3 BkE hst
  obtain ⟨ki',bo',de',sl',ss',rfl,hk,p1,p2,p3,hc⟩:=UN h
  have hl:bo'.length=bo.length:=by
   have:=congrArg List.length (congrArg Nd.bo hst)
   simpa only[stN,Nd.bo,Wn] using this
  rw[BC] at hv ⊢
  rw[e1,e2,e3]
  rw[Bool.and_eq_true] at hv ⊢
  have hbe:bo'.isEmpty=bo.isEmpty:=by
   cases bo'<;>cases bo<;>first | rfl | (simp at hl)
  refine⟨BgV hbe p1 p2 p3 hv.1,?_⟩
  by_cases h10:kd=10
  ·have hv2:=hv.2
   rw[if_pos h10] at hv2 ⊢
   rcases hc with ⟨q,_⟩ | ⟨_,rfl,rfl,f,hb,rfl⟩ | ⟨_,q,_⟩
   ·omega
   ·rw[Bool.and_eq_true,Bool.and_eq_true] at hv2 ⊢
    refine⟨hv2.1,by rw[hl];exact hv2.2.1,Uw bo sc [] bo' f true [] hb hv2.2.2⟩
   ·exact (q h10).elim
  ·have hv2:=hv.2
   rw[if_neg h10] at hv2 ⊢
   rw[Bool.or_eq_true,Bool.and_eq_true] at hv2 ⊢
   rcases hv2 with q | ⟨q1,q2⟩
   ·exact .inl q
   ·exact .inr ⟨q1,BaS ki sc ki' hk q2⟩
theorem BaS:∀(l:List Nd) (sc:Scp) (m:List Nd),rvL sc l=.ok m->MP l=true->MP m=true
 | [],sc,m,h,hv=>by
  rw[rvL] at h;injection h with h;subst h;exact hv
 |x::r,sc,m,h,hv=>by
  rw[rvL] at h
  cases hx:rvN sc x with
  |error e=>rw[hx] at h;cases h
  |ok y =>
   rw[hx] at h
   simp only at h
   cases hr:rvL sc r with
   |error e=>rw[hr] at h;cases h
   |ok s =>
    rw[hr] at h
    injection h with h;subst h
    rw[MP,Bool.and_eq_true] at hv ⊢
    exact⟨Om x sc y hx hv.1,BaS r sc s hr hv.2⟩
theorem Uw:∀(l:List Sm) (sc:Scp) (f:Frm1) (m:List Sm) (g:Frm1) (gd:Bool) (names:List (List UInt8)),rvB sc f l=.ok (m,g)->BR gd names l=true->BR gd names m=true
 | [],sc,f,m,g,gd,names,h,hv=>by
  rw[rvB] at h;injection h with h;injection h with h1 h2;subst h1;exact hv
 |x::r,sc,f,m,g,gd,names,h,hv=>by
  rw[rvB] at h
  cases hx:rvM sc f x with
  |error e=>rw[hx] at h;cases h
  |ok y =>
   rw[hx] at h
   simp only at h
   cases hr:rvB sc (Iz f y) r with
   |error e=>rw[hr] at h;cases h
   |ok z =>
    obtain ⟨s,g'⟩:=z
    rw[hr] at h
    injection h with h;injection h with h1 h2;subst h1
    have hk:y.kd=x.kd/\y.nm=x.nm:=by
     have:=(Bbe x sc f y hx).2
     rw[Wz] at this
     exact⟨this.1,this.2.1⟩
    rw[BR,Bool.and_eq_true] at hv ⊢
    rw[hk.1,hk.2]
    exact⟨Bhk x sc f y gd names hx hv.1,Uw r sc (Iz f y) s g' gd _ hr hv.2⟩
theorem Bhk:∀(s:Sm) (sc:Scp) (f:Frm1) (m:Sm) (gd:Bool) (names:List (List UInt8)),rvM sc f s=.ok m->Id gd names s=true->Id gd names m=true
 |.mk kd at_ nm sl te nd,sc,f,m,gd,names,h,hv=>by
  rw[rvM] at h
  rw[Id,Bool.and_eq_true,Bool.and_eq_true] at hv
  obtain ⟨⟨v1,v2⟩,v3⟩:=hv
  by_cases h3:kd=3
  ·rw[if_pos h3] at h
   cases ht:rvN (f::sc) te with
   |error e=>rw[ht] at h;cases h
   |ok te' =>
    rw[ht] at h
    simp only at h
    cases hn:rvN (f::sc) nd with
    |error e=>rw[hn] at h;cases h
    |ok nd' =>
     rw[hn] at h
     injection h with h;subst h
     have c1:=(IN _ _).1 (Ex te (f::sc) te' ht).2
     have c2:=(IN _ _).1 (Ex nd (f::sc) nd' hn).2
     rw[Id,Bool.and_eq_true,Bool.and_eq_true]
     refine⟨⟨v1,Om nd _ nd' hn v2⟩,?_⟩
     have n1:kd≠1:=by omega
     have n2:kd≠2:=by omega
     rw[if_neg n1,if_neg n2,if_pos h3] at v3 ⊢
     simp only[Bool.and_eq_true] at v3 ⊢
     obtain ⟨⟨⟨⟨⟨w1,w2⟩,w3⟩,w4⟩,w5⟩,w6⟩:=v3
     exact⟨⟨⟨⟨⟨w1,Om te _ te' ht w2⟩,by rw[c1.2.1];exact w3⟩,by rw[c2.2.1];exact w4⟩,w5⟩,rfl⟩
  ·rw[if_neg h3] at h
   cases hn:rvN (f::sc) nd with
   |error e=>rw[hn] at h;cases h
   |ok nd' =>
    rw[hn] at h
    injection h with h;subst h
    have c2:=(IN _ _).1 (Ex nd (f::sc) nd' hn).2
    rw[Id,Bool.and_eq_true,Bool.and_eq_true]
    refine⟨⟨v1,Om nd _ nd' hn v2⟩,?_⟩
    rw[c2.1,c2.2.1]
    by_cases n1:kd=1
    ·rw[if_pos n1] at v3 ⊢
     have n2:kd≠2:=by omega
     simp only[Bool.and_eq_true] at v3 ⊢
     exact⟨⟨v3.1.1,by rw[if_neg n2];rfl⟩,v3.2⟩
    ·rw[if_neg n1] at v3 ⊢
     by_cases n2:kd=2
     ·rw[if_pos n2] at v3 ⊢
      simp only[Bool.and_eq_true,decide_eq_true_eq] at v3 ⊢
      exact⟨⟨v3.1.1,by rw[if_pos n2];omega⟩,v3.2⟩
     ·rw[if_neg n2,if_neg h3] at v3
      cases v3
end
theorem Bbb{l b:List Sm}{f:Frm1}(h:rvP l=.ok (b,f)):Bw b=0/\rvP b=.ok (b,f)/\b.map stM=l.map stM:=by
 unfold rvP at h
 split at h
 ·cases h
 ·rename_i hr
  have hr:Bw l=0:=by simpa using hr
  obtain ⟨h1,h2⟩:=UG l [] [] b f h
  have hlen:b.length=l.length:=by have:=congrArg List.length h2;simpa only[Wn] using this
  have hd:dpB b=dpB l:=by rw[<- BcF b,h2,BcF]
  have hz:szB b=szB l:=by rw[<- Bcp b,h2,Bcp]
  have ho:∀k,C8 b k=C8 l k:=fun k=>by rw[<- Wr k b,h2,Wr]
  have hb:Bw b=0:=by
   unfold Bw at hr ⊢
   rw[hlen,hd,hz]
   have hout:TE b=TE l:=by unfold TE;simp only[ho]
   rw[hout]
   split at hr
   ·omega
   ·split at hr
    ·omega
    ·split at hr
     ·omega
     ·split at hr
      ·rename_i q1 q2 q3 q4
       rw[if_neg q1,if_neg q2,if_neg q3,if_pos ?_]
       rw[Bool.and_eq_true] at q4 ⊢
       refine⟨?_,q4.2⟩
       have q5:=q4.1
       unfold BF at q5 ⊢
       rw[Bool.and_eq_true] at q5 ⊢
       exact⟨by rw[hlen];exact q5.1,Uw l [] [] b f false [] h q5.2⟩
      ·omega
  refine⟨hb,?_,?_⟩
  ·unfold rvP
   rw[if_neg (by rw[hb];simp),h1]
  ·rw[<- OC,<- OC,h2]
mutual
/-- A tree without its offsets. -/
def exN:Nd->Nd
 |.mk kd _ cl tx pr op va ki bo de sl ss=>.mk kd 0 cl tx pr op va (exL ki) (exB bo) de sl ss
def exL:List Nd->List Nd
 | []=>[]
 |x::r=>exN x::exL r
def exB:List Sm->List Sm
 | []=>[]
 |x::r=>exM x::exB r
def exM:Sm->Sm
 |.mk kd _ nm sl te nd=>.mk kd 0 nm sl (exN te) (exN nd)
end
theorem Bgj:∀l:List Nd,exL l=l.map exN
 | []=>by simp only[exL,List.map_nil]
 |x::r=>by simp only[exL,List.map_cons,Bgj r]
theorem Bgp:∀l:List Sm,exB l=l.map exM
 | []=>by simp only[exB,List.map_nil]
 |x::r=>by simp only[exB,List.map_cons,Bgp r]
theorem BcD(a b:Nd):exN a=exN b↔a.kd=b.kd/\a.cl=b.cl/\a.tx=b.tx/\a.pr=b.pr/\a.op=b.op/\a.de=b.de/\a.sl=b.sl/\a.ss=b.ss/\a.va=b.va/\a.ki.map exN=b.ki.map exN/\a.bo.map exM=b.bo.map exM:=by
 cases a;cases b
 simp only[exN,Bgj,Bgp,Nd.mk.injEq,Nd.kd,Nd.cl,Nd.tx,Nd.pr,Nd.op,Nd.va,Nd.ki,Nd.bo,Nd.de,Nd.sl,Nd.ss,true_and]
 constructor
 ·rintro ⟨a1,a2,a3,a4,a5,a6,a7,a8,a9,a10,a11⟩;exact⟨a1,a2,a3,a4,a5,a9,a10,a11,a6,a7,a8⟩
 ·rintro ⟨a1,a2,a3,a4,a5,a9,a10,a11,a6,a7,a8⟩;exact⟨a1,a2,a3,a4,a5,a6,a7,a8,a9,a10,a11⟩
theorem BbZ(a b:Sm):exM a=exM b↔a.kd=b.kd/\a.nm=b.nm/\a.sl=b.sl/\exN a.te=exN b.te/\exN a.nd=exN b.nd:=by
 cases a;cases b
 simp only[exM,Sm.mk.injEq,Sm.kd,Sm.nm,Sm.sl,Sm.te,Sm.nd,true_and]
end
end Go.Proofs.YtfbfnhbafjmnaaaGreat
