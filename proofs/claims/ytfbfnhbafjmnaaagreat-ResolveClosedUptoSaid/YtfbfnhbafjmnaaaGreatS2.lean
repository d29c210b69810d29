/- Functions of the given program and what each of them computes: lemmas towards the statement, their conditions stated with each of them. -/
import Derived.Test.YtfbfnhbafjmnaaaGreatS1
namespace Go.Proofs.YtfbfnhbafjmnaaaGreat
open Go Go.Ab
set_option maxRecDepth 100000
noncomputable section
theorem Bbe{L:List D}{M:List (List UInt8)}(h:L=M.map D.str){n:Nat}(hn:n<M.length):Bk (L.getD n D.unk) (.str (M.getD n [])):=by
 subst h
 have:(M.map D.str).getD n D.unk=.str (M.getD n []):=by simp[List.getD_eq_getElem?_getD,hn]
 rw[this]
 exact BM _
theorem BfK:primL.length=56:=by decide +kernel
theorem BjH:opL.length=12:=by decide +kernel
theorem BaI{p:Int}(h:p<1\/56<=p):EH p=[]:=if_pos h
theorem BhC{p:Int}(h:p<1\/12<=p):opT p=[]:=if_pos h
theorem BiX{p:Int}(h:¬(p<1\/56<=p)):EH p=primL.getD p.toNat []:=if_neg h
theorem BlQ{p:Int}(h:¬(p<1\/12<=p)):opT p=opL.getD p.toNat []:=if_neg h
noncomputable def Epn:Senv:={ EC CM 14 1 [2,3,10] (fun _=>([],[])) with mg:=fun _=>2 }
def Qf8(a:Int):Prop:=True/\∃(_y:Unit),True/\Cw (List UInt8) [] (EH a)/\True/\True
theorem Bkb(p:Int):ACalls Tryz.prog 102 [.int .i64 p] ⟨[],[]⟩ (SpecR (sC [.int .i64 p] (.str (EH p))) ()):=by
 refine Bi (A:=sC _ _) (x:=()) (E:=Epn) (eOk BE rfl) Tryz.func102 rfl (by kernel_rfl) rfl (by simp[sC,Epn,EC,E0]) ?_
 refine Bj (T :=
  ∀(x:Nat),True->SM x/\ifB (decide (p<Z1)) (Qf8 p) (ifB (decide ((56:Int)<=p)) (Qf8 p) (Bd (Z0<=p/\p<56) (SM x/\Bd (N0+Int.toNat p*N1+N1<=56) (True/\∃(y:Unit),True/\Bk (List.getD [D.str [],D.str [43],D.str [45],D.str [42],D.str [37],D.str [124],D.str [94],D.str [109,105,110],D.str [109,97,120],D.str [60],D.str [60,61],D.str [61],D.str [126,61],D.str [62,61],D.str [62],D.str [97,110,100],D.str [111,114],D.str [110,111,116],D.str [115,104,97,112,101],D.str [114,101,115,104,97,112,101],D.str [116,97,108,108,121],D.str [100,101,112,116,104],D.str [44],D.str [115,116,97,99,107],D.str [105,111,116,97],D.str [116,97,107,101],D.str [100,114,111,112],D.str [102,105,114,115,116],D.str [114,101,118,101,114,115,101],D.str [114,111,116,97,116,101],D.str [116,114,97,110,115,112,111,115,101],D.str [102,114,111,109],D.str [112,105,99,107],D.str [115,101,108,101,99,116],D.str [97,109,101,110,100],D.str [117,112],D.str [100,111,119,110],D.str [115,111,114,116],D.str [102,105,110,100],D.str [105,110],D.str [117,110,105,113,117,101],D.str [119,104,101,114,101],D.str [99,111,112,121],D.str [101,120,112,97,110,100],D.str [99,117,116],D.str [101,110,99,111,100,101],D.str [100,101,99,111,100,101],D.str [98,111,120],D.str [111,112,101,110],D.str [115,97,109,101],D.str [107,105,110,100],D.str [111,114,100],D.str [99,104,114],D.str [102,111,114,109,97,116],D.str [108,101,102,116],D.str [114,105,103,104,116]] (N0+Int.toNat p*N1) D.unk) (D.str (EH p))/\True/\True))))) (by kernel_rfl) ?_
 delta N0 N1 SM Z0 Z1 Qf8
 simp only[Bh,Bf,decide_eq_true_eq,decide_eq_false_iff_not,Nat.mul_one,true_and,and_true,exists_const]
 refine fun x _=>⟨fun h=>(BaI (.inl h)).symm,fun h1=>⟨fun h=>(BaI (.inr h)).symm,fun h2=>⟨⟨by omega,by omega⟩,by omega,?_⟩⟩⟩
 rw[BiX (by omega),Nat.zero_add]
 exact Bbe (M:=primL) (by kernel_rfl) (by rw[BfK];omega)
noncomputable def Eon:Senv:={ EC CM 14 1 [2,3,10] (fun _=>([],[])) with mg:=fun _=>2 }
def Qf9(a:Int):Prop:=True/\∃(_y:Unit),True/\Cw (List UInt8) [] (opT a)/\True/\True
theorem Bki(p:Int):ACalls Tryz.prog 103 [.int .i64 p] ⟨[],[]⟩ (SpecR (sC [.int .i64 p] (.str (opT p))) ()):=by
 refine Bi (A:=sC _ _) (x:=()) (E:=Eon) (eOk BE rfl) Tryz.func103 rfl (by kernel_rfl) rfl (by simp[sC,Eon,EC,E0]) ?_
 refine Bj (T :=
  ∀(x:Nat),True->SM x/\ifB (decide (p<Z1)) (Qf9 p) (ifB (decide ((12:Int)<=p)) (Qf9 p) (Bd (Z0<=p/\p<12) (SM x/\Bd (N0+Int.toNat p*N1+N1<=12) (True/\∃(y:Unit),True/\Bk (List.getD [D.str [],D.str [47],D.str [92],D.str [101,97,99,104],D.str [115,119,97,112],D.str [111,117,116,101,114],D.str [105,110,110,101,114],D.str [114,97,110,107],D.str [112,111,119,101,114],D.str [115,116,101,110,99,105,108],D.str [97,116,111,112],D.str [111,118,101,114]] (N0+Int.toNat p*N1) D.unk) (D.str (opT p))/\True/\True))))) (by kernel_rfl) ?_
 delta N0 N1 SM Z0 Z1 Qf9
 simp only[Bh,Bf,decide_eq_true_eq,decide_eq_false_iff_not,Nat.mul_one,true_and,and_true,exists_const]
 refine fun x _=>⟨fun h=>(BhC (.inl h)).symm,fun h1=>⟨fun h=>(BhC (.inr h)).symm,fun h2=>⟨⟨by omega,by omega⟩,by omega,?_⟩⟩⟩
 rw[BlQ (by omega),Nat.zero_add]
 exact Bbe (M:=opL) (by kernel_rfl) (by rw[BjH];omega)
def ssl(l:List (List UInt8))(m:Ab.Mode):D:=.sl 1 l.length (fun i=>[.str (l.getD i [])]) m
theorem BbL{t s:List UInt8}{x:Nat}(h:x<t.length):CG (t.drop x) s=((t.getD x 0==32&&decide (s.length<(t.drop (x+1)).length)&&(t.drop (x+1)).take s.length==s&&(t.drop (x+1)).getD s.length 0==32)||CG (t.drop (x+1)) s):=by
 rw[List.drop_eq_getElem_cons h,CG]
 simp only[List.getD_eq_getElem?_getD,List.getElem?_eq_getElem h,Option.getD_some]
theorem OE{s:List UInt8}:∀ {r:List UInt8},r.length<s.length+2->CG r s=false
 | [],_=>rfl
 |b::r,h=>by
  have h1:¬s.length<r.length:=by simp only[List.length_cons] at h;omega
  rw[CG,decide_eq_false h1,OE (r:=r) (by simp only[List.length_cons] at h;omega)]
  simp
noncomputable def Eam(t s:List UInt8):Senv:={ EC CM 57 2 [4,5,6,9,13,19,27,56] (fun _=>([],[])) with
 ann:=fun b _ S=>match b with
  |0=>some { slots:=[5],keep:=[0,1],α:=Nat,st:=fun y=>([.int .i64 y],S),inv:=fun y=>y<=s.length/\(s.take y).all (fun b=>b != 32)=true,mu:=fun y=>s.length-y }
  |2=>some { slots:=[6],keep:=[0,1],α:=Nat,st:=fun y=>([.int .i64 y],S),inv:=fun y=>y<=t.length/\CG (t.drop y) s=CG t s,mu:=fun y=>t.length-y }
  |_=>none }
def Qbc(a b:List UInt8):Prop:=True/\∃(_y:Unit),True/\false=Ed a b/\True/\True
def Qbd(a:Nat)(c:List UInt8):Prop:=a<=LN c/\(List.all (List.take a c) fun (b:UInt8)=>b != (32:UInt8))=true
def Qbe(a:List UInt8)(b:Nat):Bool:=(BI a (Int.toNat (↑b:Int)))==32
def X4(a:Nat):Int:=IntKind.wrap IntKind.i64 ((↑a:Int)+Z1)
def Qga(a:List UInt8)(b c:Nat):Prop:=LN a-b<LN a-c/\(X4 c=(↑b:Int)/\True)/\True/\True
def Qbf(a:Nat)(b c:List UInt8):Prop:=a<=LN b/\CG (List.drop a b) c=CG b c
def X5(a:Nat)(b:List UInt8):Int:=IntKind.wrap IntKind.i64 (X4 a+(LI b))
def Qgb(a:Nat)(b:List UInt8):Nat:=Int.toNat (X5 a b)
def Qgc(a:Nat)(b c:List UInt8):Bool:=List.drop (Int.toNat (X4 a)) (List.take (Qgb a b) c)==b
def Qgd(a:List UInt8)(b:Nat)(c:List UInt8):Bool:=(BI a (Qgb b c))==32
def Qbg(a:List UInt8)(b:Nat)(c:List UInt8):Bool:=bif bif Qbe a b then Qgc b c a else false then Qgd a b c else false
def Qge(a:List UInt8)(b:Nat)(c:List UInt8):Prop:=false=Qbg a b c/\True
theorem BlH(t s:List UInt8)(ht:t.length<=BU)(hs:s.length<=BU):ACalls Tryz.prog 134 [.str t,.str s] ⟨[],[]⟩ (SpecR (sC [.str t,.str s] (.bool (Ed t s))) ()):=by
 refine Bi (A:=sC _ _) (x:=()) (E:=Eam t s) (eOk BE rfl) Tryz.func134 rfl (by kernel_rfl) rfl (by simp[sC,Eam,EC,E0]) ?_
 refine Bj (T :=
  ifB ((LI s)==Z0) (Qbc t s) ((∃(x:Nat),Qbd x s/\(Z0=(↑x:Int)/\True)/\True/\True)/\∀(x:Nat),Qbd x s->ifB (decide ((↑x:Int)<(LI s))) (Bd (Z0<=(↑x:Int)/\(↑x:Int)<(LI s)) (ifB (Qbe s x) (Qbc t s) ((SM (D.str t)/\SM (D.str s)/\True)/\∃(y:Nat),Qbd y s/\Qga s y x))) ((∃(x:Nat),Qbf x t s/\(Z0=(↑x:Int)/\True)/\True/\True)/\∀(x:Nat),Qbf x t s->ifB (decide (IntKind.wrap IntKind.i64 (IntKind.wrap IntKind.i64 ((↑x:Int)+(LI s))+2)<=(LI t))) (Bd (Z0<=(↑x:Int)/\(↑x:Int)<(LI t)) (ifB (Qbe t x) (Bd (Z0<=X4 x/\X4 x<=X5 x s/\X5 x s<=(LI t)) (ifB (Qgc x s t) (Bd (Z0<=X5 x s/\X5 x s<(LI t)) (Qgd t x s=Qbg t x s/\True)) (Qge t x s))) (Qge t x s))/\ifB (Qbg t x s) (RT (true=Ed t s)) ((SM (D.str t)/\SM (D.str s)/\True)/\∃(y:Nat),Qbf y t s/\Qga t y x)) (Qbc t s)))) (by kernel_rfl) ?_
 delta BI LI LN SM U0 Z0 Z1 Qbc Qbd Qbg Qge Qbe X4 Qga Qbf X5 Qgb Qgc Qgd RT
 simp only[eq_self,ne_eq,Int.toNat_natCast,Bh,Bf,decide_eq_true_eq,decide_eq_false_iff_not,true_and,and_true,beq_iff_eq,Bool.cond_false_right,Bool.and_eq_true,Bool.and_eq_false_iff,beq_eq_false_iff_ne,exists_const]
 unfold BU at ht hs
 have b32:∀b:UInt8,((b.toNat:Int)=32)↔b=32:=fun b=>⟨fun h=>by
  apply UInt8.toNat_inj.1
  show b.toNat=32
  omega,fun h=>by subst h;rfl⟩
 have tk:∀x:Nat,x<s.length->s.take (x+1)=s.take x++[s.getD x 0]:=fun x hx=>by
  rw[List.take_add_one,List.getElem?_eq_getElem hx,List.getD_eq_getElem?_getD,List.getElem?_eq_getElem hx];rfl
 refine⟨fun h=>?_,fun h0=>⟨⟨0,⟨Nat.zero_le _,rfl⟩,rfl⟩,fun x ⟨h1,h2⟩=>⟨fun h=>⟨⟨by omega,h⟩,fun e=>?_,fun e=>⟨x+1,⟨by omega,?_⟩,by omega,by rw[Be (by omega) (by omega)];rfl⟩⟩,fun h=>?_⟩⟩⟩
 ·have:s=[]:=List.length_eq_zero_iff.1 (by omega)
  subst this;rfl
 ·have hx:x<s.length:=by omega
  have hm:s.getD x 0∈s:=by rw[List.getD_eq_getElem?_getD,List.getElem?_eq_getElem hx];exact List.getElem_mem hx
  have:(s.all fun b=>b != 32)=false:=by
   rw[List.all_eq_false]
   exact⟨_,hm,by rw[(b32 _).1 e];simp⟩
  unfold Ed
  rw[this];simp
 ·rw[tk x (by omega),List.all_append,h2]
  have:s.getD x 0≠32:=fun he=>e ((b32 _).2 he)
  simpa using this
 ·have hall:(s.all fun b=>b != 32)=true:=by
   have:x=s.length:=by omega
   rw[this,List.take_length] at h2
   exact h2
  have hne:s.isEmpty=false:=by
   cases s with
   |nil=>exact (h0 rfl).elim
   |cons=>rfl
  have hA:Ed t s=CG t s:=by unfold Ed;rw[hall,hne];rfl
  rw[hA]
  refine⟨⟨0,⟨Nat.zero_le _,by rw[List.drop_zero]⟩,rfl⟩,fun y ⟨y1,y2⟩=>?_⟩
  have w1:IntKind.i64.wrap ((y:Int)+1)=((y+1:Nat):Int):=by rw[Be (by omega) (by omega)];rfl
  have w2:IntKind.i64.wrap (((y+1:Nat):Int)+(s.length:Int))=((y+1+s.length:Nat):Int):=by rw[Be (by omega) (by omega)];omega
  have w3:IntKind.i64.wrap (IntKind.i64.wrap ((y:Int)+(s.length:Int))+2)=((y+s.length+2:Nat):Int):=by rw[Be (n:=(y:Int)+s.length) (by omega) (by omega),Be (by omega) (by omega)];omega
  rw[w1,w2,w3]
  simp only[Int.toNat_natCast,b32]
  have hdt:List.drop (y+1) (List.take (y+1+s.length) t)=(t.drop (y+1)).take s.length:=by
   rw[List.drop_take];congr 1;omega
  have hgd:t.getD (y+1+s.length) 0=(t.drop (y+1)).getD s.length 0:=by simp[List.getD_eq_getElem?_getD]
  rw[hdt,hgd]
  have bi:∀b:UInt8,(((b.toNat:Int))==32)=(b==32):=fun b=>by
   by_cases hb:b=32
   ·rw[hb];rfl
   ·have h1:(b==32)=false:=by simpa using hb
    have h2:(((b.toNat:Int))==32)=false:=by
     have:=fun h=>hb ((b32 b).1 h)
     simpa using this
    rw[h1,h2]
  simp only[bi]
  refine⟨fun hle=>?_,fun hgt=>?_⟩
  ·have hy:y<t.length:=by omega
   have hstep:=BbL (s:=s) hy
   rw[y2] at hstep
   have hlt:decide (s.length<(t.drop (y+1)).length)=true:=by rw[List.length_drop];simp;omega
   rw[hlt,Bool.and_true] at hstep
   refine⟨⟨⟨by omega,by omega⟩,fun e1=>⟨⟨by omega,by omega,by omega⟩,fun e2=>⟨⟨by omega,by omega⟩,?_⟩,fun e2=>?_⟩,fun e1=>?_⟩,fun ⟨⟨e1,e2⟩,e3⟩=>?_,fun hno=>⟨y+1,⟨by omega,?_⟩,by omega,rfl⟩⟩
   ·rw[e1,e2];simp
   ·have:((t.drop (y+1)).take s.length==s)=false:=by simpa using e2
    rw[this];simp
   ·have:(t.getD y 0==32)=false:=by simpa using e1
    rw[this];simp
   ·rw[hstep,e1,e2,e3];simp
   ·have:(t.getD y 0==32&&(t.drop (y+1)).take s.length==s&&(t.drop (y+1)).getD s.length 0==32)=false:=by
     rw[Bool.and_eq_false_iff,Bool.and_eq_false_iff]
     rcases hno with (h | h) | h
     ·exact .inl (.inl (by simpa using h))
     ·exact .inl (.inr (by simpa using h))
     ·exact .inr (by simpa using h)
    rw[this,Bool.false_or] at hstep
    exact hstep.symm
  ·rw[<- y2]
   exact (OE (by rw[List.length_drop];omega)).symm
def BhI:Con:=fun k ds _=>match k with
 |134=>match ds with
  | [.str t,.str s]=>some (pC [.str t,.str s] (.bool (Ed t s)) (t.length<=BU/\s.length<=BU))
  |_=>none
 |_=>none
theorem Bf7:ConOk Tryz.prog BhI:=by
 intro k ds S A h
 unfold BhI at h
 split at h
 ·split at h
  ·injection h with h;subst h
   exact EG fun ⟨h1,h2⟩=>⟨Bm _,BlH _ _ h1 h2⟩
  ·cases h
 ·cases h
noncomputable def Erres:Senv:={ EC BhI 9 1 [2] (fun _=>([],[])) with mg:=fun _=>2 }
theorem BjR(s:List UInt8)(hs:s.length<=BU):ACalls Tryz.prog 112 [.str s] ⟨[],[]⟩ (SpecR (sC [.str s] (.bool (RM s))) ()):=by
 refine Bi (A:=sC _ _) (x:=()) (E:=Erres) (eOk Bf7 rfl) Tryz.func112 rfl (by kernel_rfl) rfl (by simp[sC,Erres,EC,E0]) ?_
 refine Bj (T :=
  ((298:Nat)<=8589934592/\LN s<=8589934592)/\∀(y:Unit),True->ifB (Ed [(32:UInt8),(88:UInt8),(32:UInt8),(89:UInt8),(32:UInt8),(70:UInt8),(32:UInt8),(71:UInt8),(32:UInt8),(115:UInt8),(101:UInt8),(108:UInt8),(102:UInt8),(32:UInt8),(97:UInt8),(114:UInt8),(103:UInt8),(32:UInt8),(109:UInt8),(105:UInt8),(110:UInt8),(32:UInt8),(109:UInt8),(97:UInt8),(120:UInt8),(32:UInt8),(97:UInt8),(110:UInt8),(100:UInt8),(32:UInt8),(111:UInt8),(114:UInt8),(32:UInt8),(110:UInt8),(111:UInt8),(116:UInt8),(32:UInt8),(115:UInt8),(104:UInt8),(97:UInt8),(112:UInt8),(101:UInt8),(32:UInt8),(114:UInt8),(101:UInt8),(115:UInt8),(104:UInt8),(97:UInt8),(112:UInt8),(101:UInt8),(32:UInt8),(116:UInt8),(97:UInt8),(108:UInt8),(108:UInt8),(121:UInt8),(32:UInt8),(100:UInt8),(101:UInt8),(112:UInt8),(116:UInt8),(104:UInt8),(32:UInt8),(115:UInt8),(116:UInt8),(97:UInt8),(99:UInt8),(107:UInt8),(32:UInt8),(105:UInt8),(111:UInt8),(116:UInt8),(97:UInt8),(32:UInt8),(116:UInt8),(97:UInt8),(107:UInt8),(101:UInt8),(32:UInt8),(100:UInt8),(114:UInt8),(111:UInt8),(112:UInt8),(32:UInt8),(102:UInt8),(105:UInt8),(114:UInt8),(115:UInt8),(116:UInt8),(32:UInt8),(114:UInt8),(101:UInt8),(118:UInt8),(101:UInt8),(114:UInt8),(115:UInt8),(101:UInt8),(32:UInt8),(114:UInt8),(111:UInt8),(116:UInt8),(97:UInt8),(116:UInt8),(101:UInt8),(32:UInt8),(116:UInt8),(114:UInt8),(97:UInt8),(110:UInt8),(115:UInt8),(112:UInt8),(111:UInt8),(115:UInt8),(101:UInt8),(32:UInt8),(102:UInt8),(114:UInt8),(111:UInt8),(109:UInt8),(32:UInt8),(112:UInt8),(105:UInt8),(99:UInt8),(107:UInt8),(32:UInt8),(115:UInt8),(101:UInt8),(108:UInt8),(101:UInt8),(99:UInt8),(116:UInt8),(32:UInt8),(97:UInt8),(109:UInt8),(101:UInt8),(110:UInt8),(100:UInt8),(32:UInt8),(117:UInt8),(112:UInt8),(32:UInt8),(100:UInt8),(111:UInt8),(119:UInt8),(110:UInt8),(32:UInt8),(115:UInt8),(111:UInt8),(114:UInt8),(116:UInt8),(32:UInt8),(102:UInt8),(105:UInt8),(110:UInt8),(100:UInt8),(32:UInt8),(105:UInt8),(110:UInt8),(32:UInt8),(117:UInt8),(110:UInt8),(105:UInt8),(113:UInt8),(117:UInt8),(101:UInt8),(32:UInt8),(119:UInt8),(104:UInt8),(101:UInt8),(114:UInt8),(101:UInt8),(32:UInt8),(99:UInt8),(111:UInt8),(112:UInt8),(121:UInt8),(32:UInt8),(101:UInt8),(120:UInt8),(112:UInt8),(97:UInt8),(110:UInt8),(100:UInt8),(32:UInt8),(99:UInt8),(117:UInt8),(116:UInt8),(32:UInt8),(101:UInt8),(110:UInt8),(99:UInt8),(111:UInt8),(100:UInt8),(101:UInt8),(32:UInt8),(100:UInt8),(101:UInt8),(99:UInt8),(111:UInt8),(100:UInt8),(101:UInt8),(32:UInt8),(98:UInt8),(111:UInt8),(120:UInt8),(32:UInt8),(111:UInt8),(112:UInt8),(101:UInt8),(110:UInt8),(32:UInt8),(115:UInt8),(97:UInt8),(109:UInt8),(101:UInt8),(32:UInt8),(107:UInt8),(105:UInt8),(110:UInt8),(100:UInt8),(32:UInt8),(111:UInt8),(114:UInt8),(100:UInt8),(32:UInt8),(99:UInt8),(104:UInt8),(114:UInt8),(32:UInt8),(102:UInt8),(111:UInt8),(114:UInt8),(109:UInt8),(97:UInt8),(116:UInt8),(32:UInt8),(108:UInt8),(101:UInt8),(102:UInt8),(116:UInt8),(32:UInt8),(114:UInt8),(105:UInt8),(103:UInt8),(104:UInt8),(116:UInt8),(32:UInt8),(101:UInt8),(97:UInt8),(99:UInt8),(104:UInt8),(32:UInt8),(115:UInt8),(119:UInt8),(97:UInt8),(112:UInt8),(32:UInt8),(111:UInt8),(117:UInt8),(116:UInt8),(101:UInt8),(114:UInt8),(32:UInt8),(105:UInt8),(110:UInt8),(110:UInt8),(101:UInt8),(114:UInt8),(32:UInt8),(114:UInt8),(97:UInt8),(110:UInt8),(107:UInt8),(32:UInt8),(112:UInt8),(111:UInt8),(119:UInt8),(101:UInt8),(114:UInt8),(32:UInt8),(115:UInt8),(116:UInt8),(101:UInt8),(110:UInt8),(99:UInt8),(105:UInt8),(108:UInt8),(32:UInt8),(97:UInt8),(116:UInt8),(111:UInt8),(112:UInt8),(32:UInt8),(111:UInt8),(118:UInt8),(101:UInt8),(114:UInt8),(32:UInt8)] s) (RT (true=RM s)) (((34:Nat)<=8589934592/\LN s<=8589934592)/\∀(y:Unit),True->RT (Ed [(32:UInt8),(43:UInt8),(32:UInt8),(45:UInt8),(32:UInt8),(42:UInt8),(32:UInt8),(37:UInt8),(32:UInt8),(124:UInt8),(32:UInt8),(94:UInt8),(32:UInt8),(60:UInt8),(32:UInt8),(60:UInt8),(61:UInt8),(32:UInt8),(61:UInt8),(32:UInt8),(126:UInt8),(61:UInt8),(32:UInt8),(62:UInt8),(61:UInt8),(32:UInt8),(62:UInt8),(32:UInt8),(44:UInt8),(32:UInt8),(47:UInt8),(32:UInt8),(92:UInt8),(32:UInt8)] s=RM s))) (by kernel_rfl) ?_
 delta LN RT
 simp only[Bh,true_and,and_true,exists_const,forall_const]
 generalize hA:Ed _ s=a
 generalize hB:Ed _ s=b
 have ea:a=resL.contains s:=by
  rw[<- hA,<- Bci s]
  congr 1
 have eb:b=sgnL.contains s:=by
  rw[<- hB,<- Bbh s]
  congr 1
 subst ea eb
 unfold BU at hs
 refine⟨⟨by decide,hs⟩,fun h=>?_,fun h=>⟨⟨by decide,hs⟩,?_⟩⟩
 ·unfold RM;rw[h];rfl
 ·unfold RM;rw[h];rfl
def ownL : List (List UInt8) := ["X", "Y", "F", "G", "self", "arg"].map asc ++ (primL.drop 1 ++ opL.drop 1)
theorem BjX(s:List UInt8):RM s=ownL.contains s:=by
 have h1:∀x∈resL++sgnL,ownL.contains x=true:=by decide +kernel
 have h2:∀x∈ownL,(resL++sgnL).contains x=true:=by decide +kernel
 unfold RM
 rw[<- List.contains_append]
 cases h:(resL++sgnL).contains s with
 |true=>exact (h1 s (by simpa using h)).symm
 |false =>
  cases h':ownL.contains s with
  |true=>rw[h2 s (by simpa using h')] at h;cases h
  |false=>rfl
theorem BeN(s:List UInt8):s∈primL.drop 1↔∃q:Nat,1<=q/\q<56/\EH q=s:=by
 have e:∀q,1<=q->q<56->EH ((q:Nat):Int)=(primL.drop 1).getD (q-1) []:=fun q h1 h2=>by
  unfold EH
  rw[if_neg (by omega),Int.toNat_natCast]
  simp[List.getD_eq_getElem?_getD,show q-1+1=q by omega]
 have hl:(primL.drop 1).length=55:=by decide +kernel
 constructor
 ·intro h
  obtain ⟨i,hi,rfl⟩:=List.getElem_of_mem h
  exact⟨i+1,by omega,by omega,by rw[e _ (by omega) (by omega)];simp only[Nat.add_sub_cancel];simp only[List.getD_eq_getElem?_getD,List.getElem?_eq_getElem hi,Option.getD_some]⟩
 ·rintro ⟨q,h1,h2,rfl⟩
  rw[e q h1 h2]
  have:q-1<(primL.drop 1).length:=by omega
  rw[List.getD_eq_getElem?_getD,List.getElem?_eq_getElem this]
  exact List.getElem_mem this
theorem Bi3(s:List UInt8):s∈opL.drop 1↔∃q:Nat,1<=q/\q<12/\opT q=s:=by
 have e:∀q,1<=q->q<12->opT ((q:Nat):Int)=(opL.drop 1).getD (q-1) []:=fun q h1 h2=>by
  unfold opT
  rw[if_neg (by omega),Int.toNat_natCast]
  simp[List.getD_eq_getElem?_getD,show q-1+1=q by omega]
 have hl:(opL.drop 1).length=11:=by decide +kernel
 constructor
 ·intro h
  obtain ⟨i,hi,rfl⟩:=List.getElem_of_mem h
  exact⟨i+1,by omega,by omega,by rw[e _ (by omega) (by omega)];simp only[Nat.add_sub_cancel];simp only[List.getD_eq_getElem?_getD,List.getElem?_eq_getElem hi,Option.getD_some]⟩
 ·rintro ⟨q,h1,h2,rfl⟩
  rw[e q h1 h2]
  have:q-1<(opL.drop 1).length:=by omega
  rw[List.getD_eq_getElem?_getD,List.getElem?_eq_getElem this]
  exact List.getElem_mem this
theorem BaQ(s : List UInt8)(h32 : s.length ≤ 32)(hp : Wv s = true) : Em s = true ↔ (s ≠ asc "self" ∧ s ≠ asc "arg" ∧ (∀ q : Nat, 1 ≤ q → q < 56 → EH q ≠ s) ∧ ∀ q : Nat, 1 ≤ q → q < 12 → opT q ≠ s) := by
 have hx : ∀ x ∈ ["X", "Y", "F", "G"].map asc, Wv x = false := by decide +kernel
 unfold Em
 rw[hp,decide_eq_true h32,BjX]
 have hs : s ∈ ownL ↔ (s = asc "self" ∨ s = asc "arg" ∨ s ∈ primL.drop 1 ∨ s ∈ opL.drop 1) := by
  unfold ownL
  rw[List.mem_append,List.mem_append]
  constructor
  ·rintro (h | h)
   ·simp only[List.map_cons,List.map_nil,List.mem_cons,List.not_mem_nil,or_false] at h
    rcases h with h | h | h | h | h | h
    ·rw[hx s (by rw[h];simp)] at hp;cases hp
    ·rw[hx s (by rw[h];simp)] at hp;cases hp
    ·rw[hx s (by rw[h];simp)] at hp;cases hp
    ·rw[hx s (by rw[h];simp)] at hp;cases hp
    ·exact .inl h
    ·exact .inr (.inl h)
   ·exact .inr (.inr h)
  ·rintro (h | h | h)
   ·rw[h];exact .inl (by simp)
   ·rw[h];exact .inl (by simp)
   ·exact .inr h
 rw[BeN,Bi3] at hs
 simp only[Bool.true_and,Bool.not_eq_true',List.contains_eq_mem,decide_eq_false_iff_not]
 rw[hs]
 constructor
 ·intro h
  exact⟨fun e=>h (.inl e),fun e=>h (.inr (.inl e)),fun q h1 h2 e=>h (.inr (.inr (.inl ⟨q,h1,h2,e⟩))),fun q h1 h2 e=>h (.inr (.inr (.inr ⟨q,h1,h2,e⟩)))⟩
 ·rintro ⟨h1,h2,h3,h4⟩ (h | h | ⟨q,q1,q2,q3⟩ | ⟨q,q1,q2,q3⟩)
  ·exact h1 h
  ·exact h2 h
  ·exact h3 q q1 q2 q3
  ·exact h4 q q1 q2 q3
def BgU:Con:=fun k ds _=>match k with
 |102=>match ds with
  | [.int .i64 p]=>some (pC [.int .i64 p] (.str (EH p)) True)
  |_=>none
 |103=>match ds with
  | [.int .i64 p]=>some (pC [.int .i64 p] (.str (opT p)) True)
  |_=>none
 |112=>match ds with
  | [.str s]=>some (pC [.str s] (.bool (RM s)) (s.length<=BU))
  |_=>none
 |_=>none
theorem BgS:ConOk Tryz.prog BgU:=by
 intro k ds S A h
 unfold BgU at h
 split at h
 ·split at h
  ·injection h with h;subst h
   exact EG fun _=>⟨Bm _,Bkb _⟩
  ·cases h
 ·split at h
  ·injection h with h;subst h
   exact EG fun _=>⟨Bm _,Bki _⟩
  ·cases h
 ·split at h
  ·injection h with h;subst h
   exact EG fun h1=>⟨Bm _,BjR _ h1⟩
  ·cases h
 ·cases h
def Ta(b:UInt8):Bool:=low b||dig b
theorem Bbq(b:UInt8):Ta b=true↔((97<=b.toNat/\b.toNat<=122)\/(48<=b.toNat/\b.toNat<=57)):=by
 unfold Ta low dig
 simp only[Bool.or_eq_true,Bool.and_eq_true,decide_eq_true_eq]
theorem Wx(s:List UInt8):Wv s=true↔s≠[]/\low (s.getD 0 0)=true/\s.all Ta=true:=by
 unfold Wv
 simp only[Bool.and_eq_true,Bool.not_eq_true',List.isEmpty_eq_false_iff,and_assoc]
 exact Iff.rfl
theorem Bjm{s:List UInt8}(h:s.all Ta=true){i:Nat}(hi:i<s.length):Ta (s.getD i 0)=true:=by
 rw[List.getD_eq_getElem?_getD,List.getElem?_eq_getElem hi]
 exact List.all_eq_true.1 h _ (List.getElem_mem hi)
theorem Bhc{s:List UInt8}{x:Nat}(hx:x<s.length)(h1:(s.take x).all Ta=true)(h2:Ta (s.getD x 0)=true):(s.take (x+1)).all Ta=true:=by
 have e:s.take (x+1)=s.take x++[s.getD x 0]:=by
  rw[List.take_add_one,List.getElem?_eq_getElem hx,List.getD_eq_getElem?_getD,List.getElem?_eq_getElem hx];rfl
 rw[e,List.all_append,h1,List.all_cons,h2];rfl
theorem Cu{s:List UInt8}(h:Em s=true):s≠[]/\s.length<=32/\s≠[115,101,108,102]/\s≠[97,114,103]/\(97<=(s.getD 0 0).toNat/\(s.getD 0 0).toNat<=122)/\(∀i,i<s.length->((97<=(s.getD i 0).toNat/\(s.getD i 0).toNat<=122)\/(48<=(s.getD i 0).toNat/\(s.getD i 0).toNat<=57)))/\(∀q:Nat,1<=q->q<56->EH q≠s)/\∀q:Nat,1<=q->q<12->opT q≠s:=by
 have h0:=h
 unfold Em at h
 simp only[Bool.and_eq_true,decide_eq_true_eq] at h
 obtain ⟨⟨hp,h32⟩,_⟩:=h
 obtain ⟨h1,h2,h3,h4⟩:=(BaQ s h32 hp).1 h0
 obtain ⟨p1,p2,p3⟩:=(Wx s).1 hp
 have e1 : asc "self" = [115, 101, 108, 102] := by decide +kernel
 have e2 : asc "arg" = [97, 114, 103] := by decide +kernel
 rw[e1] at h1
 rw[e2] at h2
 unfold low at p2
 simp only[Bool.and_eq_true,decide_eq_true_eq] at p2
 exact⟨p1,h32,h1,h2,p2,fun i hi=>(Bbq _).1 (Bjm p3 hi),h3,h4⟩
theorem BfX{s:List UInt8}(h1:s≠[])(h2:s.length<=32)(h3:s≠[115,101,108,102])(h4:s≠[97,114,103])(h5:97<=(s.getD 0 0).toNat/\(s.getD 0 0).toNat<=122)(h6:s.all Ta=true)(h7:∀q:Nat,1<=q->q<56->EH q≠s)(h8:∀q:Nat,1<=q->q<12->opT q≠s):Em s=true:=by
 have e1 : asc "self" = [115, 101, 108, 102] := by decide +kernel
 have e2 : asc "arg" = [97, 114, 103] := by decide +kernel
 refine (BaQ s h2 ((Wx s).2 ⟨h1,?_,h6⟩)).2 ⟨by rw[e1];exact h3,by rw[e2];exact h4,h7,h8⟩
 unfold low
 simp only[Bool.and_eq_true,decide_eq_true_eq]
 exact h5
theorem Er{s:List UInt8}(h:Em s=true->False):false=Em s:=by
 cases e:Em s with
 |false=>rfl
 |true=>exact (h e).elim
noncomputable def Ein(s:List UInt8):Senv:={ EC BgU 75 1 [2,3,4,5,30,32,33,34,57,60,66,68,74] (fun _=>([],[])) with
 mg:=fun _=>2
 ann:=fun b _ S=>match b with
  |0=>some { slots:=[33],keep:=[0,32],α:=Nat,st:=fun y=>([.int .i64 y],S),inv:=fun y=>y<=s.length/\(s.take y).all Ta=true,mu:=fun y=>s.length-y }
  |2=>some { slots:=[4],keep:=[0],α:=Nat,st:=fun y=>([.int .i64 y],S),inv:=fun y=>1<=y/\y<=56/\∀q:Nat,1<=q->q<y->EH q≠s,mu:=fun y=>56-y }
  |4=>some { slots:=[5],keep:=[0],α:=Nat,st:=fun y=>([.int .i64 y],S),inv:=fun y=>1<=y/\y<=12/\∀q:Nat,1<=q->q<y->opT q≠s,mu:=fun y=>12-y }
  |_=>none }
def JA(a:List UInt8):Prop:=True/\∃(_y:Unit),True/\false=Em a/\True/\True
def Qbh(a:Nat)(b:List UInt8):Prop:=a<=LN b/\List.all (List.take a b) Ta=true
def Zf(a:List UInt8)(b:Nat):Int:=(BI a (Int.toNat (↑b:Int)))
def Qbi(a b:Nat):Prop:=(IntKind.wrap IntKind.i64 ((↑a:Int)+Z1)=(↑b:Int)/\True)/\True/\True
def Qgf(a:List UInt8)(b:Nat):Prop:=(SM (D.str a)/\SM (ZI (LI a))/\True)/\∃(y:Nat),Qbh y a/\LN a-y<LN a-b/\Qbi b y
def Qgg(a:Nat)(b:List UInt8):Prop:=Bd (Z0<=(↑a:Int)/\(↑a:Int)<(LI b)) (ifB (decide (Zf b a<48)) (JA b) (Bd (Z0<=(↑a:Int)/\(↑a:Int)<(LI b)) (ifB (decide ((57:Int)<Zf b a)) (JA b) (Qgf b a))))
def Qbj(a:Nat)(b:List UInt8):Prop:=N1<=a/\a<=56/\∀(q:Nat),N1<=q->q<a->EH (↑q:Int)≠b
def Qbk(a:Nat)(b:List UInt8):Prop:=N1<=a/\a<=12/\∀(q:Nat),N1<=q->q<a->opT (↑q:Int)≠b
theorem BkB(s:List UInt8):ACalls Tryz.prog 69 [.str s] ⟨[],[]⟩ (SpecR (sC [.str s] (.bool (Em s))) ()):=by
 refine Bi (A:=sC _ _) (x:=()) (E:=Ein s) (eOk BgS rfl) Tryz.func69 rfl (by kernel_rfl) rfl (by simp[sC,Ein,EC,E0]) ?_
 refine Bj (T :=
  ifB (s==[]) (JA s) (ifB (decide ((32:Int)<(LI s))) (JA s) (ifB (s==[(115:UInt8),(101:UInt8),(108:UInt8),(102:UInt8)]) (JA s) (ifB (s==[(97:UInt8),(114:UInt8),(103:UInt8)]) (JA s) (Bd (Z0<=Z0/\Z0<(LI s)) (ifB (decide ((BI s N0)<97)) (JA s) (Bd (Z0<=Z0/\Z0<(LI s)) (ifB (decide ((122:Int)<(BI s N0))) (JA s) ((∃(x:Nat),Qbh x s/\(Z0=(↑x:Int)/\True)/\True/\True)/\∀(x:Nat),Qbh x s->ifB (decide ((↑x:Int)<(LI s))) (Bd (Z0<=(↑x:Int)/\(↑x:Int)<(LI s)) (ifB (decide (Zf s x<97)) (Qgg x s) (Bd (Z0<=(↑x:Int)/\(↑x:Int)<(LI s)) (ifB (decide ((122:Int)<Zf s x)) (Qgg x s) (Qgf s x))))) ((∃(x:Nat),Qbj x s/\(Z1=(↑x:Int)/\True)/\True/\True)/\∀(x:Nat),Qbj x s->ifB (decide ((↑x:Int)<=55)) (True/\∀(y:Unit),True->ifB (EH (↑x:Int)==s) (JA s) ((SM (D.str s)/\True)/\∃(y:Nat),Qbj y s/\(56:Nat)-y<56-x/\Qbi x y)) ((∃(x:Nat),Qbk x s/\(Z1=(↑x:Int)/\True)/\True/\True)/\∀(x:Nat),Qbk x s->ifB (decide ((↑x:Int)<=11)) (True/\∀(y:Unit),True->ifB (opT (↑x:Int)==s) (JA s) ((SM (D.str s)/\True)/\∃(y:Nat),Qbk y s/\(12:Nat)-y<12-x/\Qbi x y)) (RT (true=Em s))))))))))))) (by kernel_rfl) ?_
 delta BI LI LN N0 N1 SM U0 Z0 Z1 ZI JA Qbh Zf Qbi Qgf Qgg Qbj Qbk RT
 simp only[eq_self,ne_eq,Int.toNat_natCast,Bh,Bf,decide_eq_true_eq,decide_eq_false_iff_not,true_and,and_true,beq_iff_eq,beq_eq_false_iff_ne,exists_const,forall_const]
 refine⟨fun h=>Er fun e=>(Cu e).1 h,fun k1=>⟨fun h=>Er fun e=>by have:=(Cu e).2.1;omega,fun k2=>⟨fun h=>Er fun e=>(Cu e).2.2.1 h,fun k3=>⟨fun h=>Er fun e=>(Cu e).2.2.2.1 h,fun k4=>?_⟩⟩⟩⟩
 have hl:0<s.length:=List.length_pos_iff.2 k1
 refine⟨⟨by omega,by omega⟩,fun h=>Er fun e=>by have:=(Cu e).2.2.2.2.1;omega,fun k5=>⟨⟨by omega,by omega⟩,fun h=>Er fun e=>by have:=(Cu e).2.2.2.2.1;omega,fun k6=>⟨⟨0,⟨Nat.zero_le _,rfl⟩,rfl⟩,fun x ⟨hx,ht⟩=>⟨fun hlt=>?_,fun hge=>?_⟩⟩⟩⟩
 ·have hx':x<s.length:=by omega
  have w:IntKind.i64.wrap ((x:Int)+1)=((x+1:Nat):Int):=by rw[Be (by omega) (by omega)];rfl
  have go:((97<=(s.getD x 0).toNat/\(s.getD x 0).toNat<=122)\/(48<=(s.getD x 0).toNat/\(s.getD x 0).toNat<=57))->∃y,(y<=s.length/\(List.take y s).all Ta=true)/\s.length-y<s.length-x/\IntKind.i64.wrap ((x:Int)+1)=(y:Int):=fun hc =>
   ⟨x+1,⟨hx',Bhc hx' ht ((Bbq _).2 hc)⟩,by omega,w⟩
  have no:¬((97<=(s.getD x 0).toNat/\(s.getD x 0).toNat<=122)\/(48<=(s.getD x 0).toNat/\(s.getD x 0).toNat<=57))->false=Em s:=fun hc=>Er fun e=>hc ((Cu e).2.2.2.2.2.1 x hx')
  exact⟨⟨by omega,by omega⟩,fun a1=>⟨⟨by omega,by omega⟩,fun a2=>no (by omega),fun a2=>⟨⟨by omega,by omega⟩,fun a3=>no (by omega),fun a3=>go (by omega)⟩⟩,
   fun a1=>⟨⟨by omega,by omega⟩,fun a2=>⟨⟨by omega,by omega⟩,fun a3=>no (by omega),fun a3=>⟨⟨by omega,by omega⟩,fun a4=>no (by omega),fun a4=>go (by omega)⟩⟩,fun a2=>go (by omega)⟩⟩
 ·have hall:s.all Ta=true:=by
   have:x=s.length:=by omega
   rwa [this,List.take_length] at ht
  refine⟨⟨1,⟨Nat.le_refl _,by omega,fun q h1 h2=>by omega⟩,rfl⟩,fun y ⟨y1,y2,y3⟩=>⟨fun hy=>⟨fun e=>Er fun e'=>(Cu e').2.2.2.2.2.2.1 y y1 (by omega) e,fun e=>⟨y+1,⟨by omega,by omega,fun q h1 h2=>?_⟩,by omega,by rw[Be (by omega) (by omega)];rfl⟩⟩,
   fun hy=>⟨⟨1,⟨Nat.le_refl _,by omega,fun q h1 h2=>by omega⟩,rfl⟩,fun z ⟨z1,z2,z3⟩=>⟨fun hz=>⟨fun e=>Er fun e'=>(Cu e').2.2.2.2.2.2.2 z z1 (by omega) e,fun e=>⟨z+1,⟨by omega,by omega,fun q h1 h2=>?_⟩,by omega,by rw[Be (by omega) (by omega)];rfl⟩⟩,fun hz=>?_⟩⟩⟩⟩
  ·by_cases e':q=y
   ·rw[e'];exact e
   ·exact y3 q h1 (by omega)
  ·by_cases e':q=z
   ·rw[e'];exact e
   ·exact z3 q h1 (by omega)
  ·exact (BfX k1 (by omega) k3 k4 ⟨by omega,by omega⟩ hall (fun q h1 h2=>y3 q h1 (by omega)) fun q h1 h2=>z3 q h1 (by omega)).symm
def Gw(vk:Int)(sh nu it:Nat):Bool:=vk==0&&(sh==0)&&(nu==0)&&(it==0)
def Bv(kd at_:Int)(tx:List UInt8)(pr op vk:Int)(sh nu it bo:Nat)(de sl ss k:Int):Bool :=
 kd==k&&decide (0<=at_)&&decide (0<=de)&&decide (0<=sl)&&decide (0<=ss)&&(tx.isEmpty||k==2)&&(pr==0||k==9)&&(op==0||k==17)&&(Gw vk sh nu it||k==1)&&((bo==0)||k==10)
def EU(kd at_ cl:Int)(tx:List UInt8)(pr op vk:Int)(sh nu it ki bo:Nat)(de sl ss:Int):Bool:=kd==0&&at_==0&&cl==0&&de==0&&sl==0&&ss==0&&Bv kd at_ tx pr op vk sh nu it bo de sl ss 0&&(ki==0)
theorem BaK{α:Type}(l:List α):(l.length==0)=l.isEmpty:=by cases l<;>rfl
theorem BbN(n:Nd)(k:Int):Bv n.kd n.at_ n.tx n.pr n.op n.va.k n.va.sh.length n.va.nu.length n.va.it.length n.bo.length n.de n.sl n.ss k=G7 n k:=by
 unfold Bv G7 Gw Beq
 simp[BaK]
theorem BfH(n:Nd):EU n.kd n.at_ n.cl n.tx n.pr n.op n.va.k n.va.sh.length n.va.nu.length n.va.it.length n.ki.length n.bo.length n.de n.sl n.ss=Iv n:=by
 unfold EU Iv
 rw[BbN]
 simp[BaK]
def ndC(kd at_ cl:Int)(tx:List UInt8)(pr op vk:Int)(sh nu it ki bo:Nat)(f1 f2 f3 f4 f5:Nat->List D)(de sl ss:Int):List D :=
 [.int .i64 kd,.int .i64 at_,.int .i64 cl,.str tx,.int .i64 pr,.int .i64 op,.int .i64 vk,.sl 1 sh f1 .any,.sl 1 nu f2 .any,.sl 4 it f3 .any,.sl 15 ki f4 .any,.sl 34 bo f5 .any,.int .i64 de,.int .i64 sl,.int .i64 ss]
noncomputable def Eiz:Senv:=EC CM 24 3 [] (fun _=>([],[]))
def VX(a:Nat):Bool:=(↑a:Int)==Z0
def Qbl(a:Int)(b c d:Nat):Bool:=bif bif bif a==Z0 then VX b else false then VX c else false then VX d else false
def Qbm(a:Int)(b c d:Nat):Prop:=false=Qbl a b c d/\True
theorem Bl1(vk:Int)(sh nu it:Nat)(f1 f2 f3:Nat->List D):CD 123 [.agg [.int .i64 vk,.sl 1 sh f1 .any,.sl 1 nu f2 .any,.sl 4 it f3 .any]] (.bool (Gw vk sh nu it)):=by
 refine Bi (A:=sC _ _) (x:=()) (E:=Eiz) (eOk BE rfl) Tryz.func123 rfl (by kernel_rfl) rfl (by simp[sC,Eiz,EC,E0]) ?_
 refine Bj (T :=
  ∀(x:Nat),True->(SM x/\ifB (vk==Z0) (SM x/\ifB (VX sh) (SM x/\ifB (VX nu) (SM x/\VX it=Qbl vk sh nu it/\True) (Qbm vk sh nu it)) (Qbm vk sh nu it)) (Qbm vk sh nu it))/\RT (Qbl vk sh nu it=Gw vk sh nu it)) (by kernel_rfl) ?_
 delta SM Z0 VX Qbl Qbm RT
 have z:∀n:Nat,((n:Int)==0)=(n==0):=fun n=>by
  rw[Bool.eq_iff_iff,beq_iff_eq,beq_iff_eq];omega
 simp only[z]
 unfold Gw
 generalize (vk==0)=a
 generalize (sh==0)=b
 generalize (nu==0)=c
 generalize (it==0)=d
 intro x _
 cases a<;>cases b<;>cases c<;>cases d<;>simp[Bh]
def Bdy:Con:=fun k ds _=>match k with
 |123=>match ds with
  | [.agg [.int .i64 vk,.sl 1 sh _ _,.sl 1 nu _ _,.sl 4 it _ _]]=>some (pC ds (.bool (Gw vk sh nu it)) True)
  |_=>none
 |_=>none
theorem Bch:ConOk Tryz.prog Bdy:=by
 intro k ds S A h
 unfold Bdy at h
 split at h
 ·split at h
  ·injection h with h;subst h
   rename_i vk sh f1 _ nu f2 _ it f3 _
   exact EG fun _=>⟨Bm _,C9 (us:=[.agg [.int .i64 vk,.sl 1 sh f1 .any,.sl 1 nu f2 .any,.sl 4 it f3 .any]]) (by simp[Bz,Bk,Ba,BB,kEq]) (Bl1 _ _ _ _ _ _ _)⟩
  ·cases h
 ·cases h
noncomputable def Eol:Senv:=EC Bdy 75 3 [4] (fun _=>([],[]))
theorem Bj7(kd at_ cl : Int)(tx : List UInt8)(pr op vk : Int)(sh nu it ki bo : Nat)(f1 f2 f3 f4 f5 : Nat -> List D)(de sl ss k : Int) :
  ACalls Tryz.prog 97 [.agg (ndC kd at_ cl tx pr op vk sh nu it ki bo f1 f2 f3 f4 f5 de sl ss),.int .i64 k] ⟨[],[]⟩ (SpecR (sC [.agg (ndC kd at_ cl tx pr op vk sh nu it ki bo f1 f2 f3 f4 f5 de sl ss),.int .i64 k] (.bool (Bv kd at_ tx pr op vk sh nu it bo de sl ss k))) ()):=by
 refine Bi (A:=sC _ _) (x:=()) (E:=Eol) (eOk Bch rfl) Tryz.func97 rfl (by kernel_rfl) rfl (by simp[sC,Eol,EC,E0]) ?_
 refine Bj (T :=
  ∀(x:Nat),True->SM x/\ifB (kd==k) (SM x/\ifB (decide (Z0<=at_)) (SM x/\ifB (decide (Z0<=de)) (SM x/\ifB (decide (Z0<=sl)) (SM x/\ifB (decide (Z0<=ss)) (SM x/\ifB (tx==[]) (SM x/\ifB (pr==Z0) (SM x/\ifB (op==Z0) (SM x/\True/\∀(y:Unit),True->ifB (Gw vk sh nu it) (SM x/\ifB ((↑bo:Int)==Z0) (RT (true=Bv kd at_ tx pr op vk sh nu it bo de sl ss k)) (RT ((k==10)=Bv kd at_ tx pr op vk sh nu it bo de sl ss k))) (ifB (k==Z1) (SM x/\ifB ((↑bo:Int)==Z0) (RT (true=Bv kd at_ tx pr op vk sh nu it bo de sl ss k)) (RT ((k==10)=Bv kd at_ tx pr op vk sh nu it bo de sl ss k))) (RT (false=Bv kd at_ tx pr op vk sh nu it bo de sl ss k)))) (ifB (k==17) (SM x/\True/\∀(y:Unit),True->ifB (Gw vk sh nu it) (SM x/\ifB ((↑bo:Int)==Z0) (RT (true=Bv kd at_ tx pr op vk sh nu it bo de sl ss k)) (RT ((k==10)=Bv kd at_ tx pr op vk sh nu it bo de sl ss k))) (ifB (k==Z1) (SM x/\ifB ((↑bo:Int)==Z0) (RT (true=Bv kd at_ tx pr op vk sh nu it bo de sl ss k)) (RT ((k==10)=Bv kd at_ tx pr op vk sh nu it bo de sl ss k))) (RT (false=Bv kd at_ tx pr op vk sh nu it bo de sl ss k)))) (RT (false=Bv kd at_ tx pr op vk sh nu it bo de sl ss k)))) (ifB (k==9) (SM x/\ifB (op==Z0) (SM x/\True/\∀(y:Unit),True->ifB (Gw vk sh nu it) (SM x/\ifB ((↑bo:Int)==Z0) (RT (true=Bv kd at_ tx pr op vk sh nu it bo de sl ss k)) (RT ((k==10)=Bv kd at_ tx pr op vk sh nu it bo de sl ss k))) (ifB (k==Z1) (SM x/\ifB ((↑bo:Int)==Z0) (RT (true=Bv kd at_ tx pr op vk sh nu it bo de sl ss k)) (RT ((k==10)=Bv kd at_ tx pr op vk sh nu it bo de sl ss k))) (RT (false=Bv kd at_ tx pr op vk sh nu it bo de sl ss k)))) (ifB (k==17) (SM x/\True/\∀(y:Unit),True->ifB (Gw vk sh nu it) (SM x/\ifB ((↑bo:Int)==Z0) (RT (true=Bv kd at_ tx pr op vk sh nu it bo de sl ss k)) (RT ((k==10)=Bv kd at_ tx pr op vk sh nu it bo de sl ss k))) (ifB (k==Z1) (SM x/\ifB ((↑bo:Int)==Z0) (RT (true=Bv kd at_ tx pr op vk sh nu it bo de sl ss k)) (RT ((k==10)=Bv kd at_ tx pr op vk sh nu it bo de sl ss k))) (RT (false=Bv kd at_ tx pr op vk sh nu it bo de sl ss k)))) (RT (false=Bv kd at_ tx pr op vk sh nu it bo de sl ss k)))) (RT (false=Bv kd at_ tx pr op vk sh nu it bo de sl ss k)))) (ifB (k==2) (SM x/\ifB (pr==Z0) (SM x/\ifB (op==Z0) (SM x/\True/\∀(y:Unit),True->ifB (Gw vk sh nu it) (SM x/\ifB ((↑bo:Int)==Z0) (RT (true=Bv kd at_ tx pr op vk sh nu it bo de sl ss k)) (RT ((k==10)=Bv kd at_ tx pr op vk sh nu it bo de sl ss k))) (ifB (k==Z1) (SM x/\ifB ((↑bo:Int)==Z0) (RT (true=Bv kd at_ tx pr op vk sh nu it bo de sl ss k)) (RT ((k==10)=Bv kd at_ tx pr op vk sh nu it bo de sl ss k))) (RT (false=Bv kd at_ tx pr op vk sh nu it bo de sl ss k)))) (ifB (k==17) (SM x/\True/\∀(y:Unit),True->ifB (Gw vk sh nu it) (SM x/\ifB ((↑bo:Int)==Z0) (RT (true=Bv kd at_ tx pr op vk sh nu it bo de sl ss k)) (RT ((k==10)=Bv kd at_ tx pr op vk sh nu it bo de sl ss k))) (ifB (k==Z1) (SM x/\ifB ((↑bo:Int)==Z0) (RT (true=Bv kd at_ tx pr op vk sh nu it bo de sl ss k)) (RT ((k==10)=Bv kd at_ tx pr op vk sh nu it bo de sl ss k))) (RT (false=Bv kd at_ tx pr op vk sh nu it bo de sl ss k)))) (RT (false=Bv kd at_ tx pr op vk sh nu it bo de sl ss k)))) (ifB (k==9) (SM x/\ifB (op==Z0) (SM x/\True/\∀(y:Unit),True->ifB (Gw vk sh nu it) (SM x/\ifB ((↑bo:Int)==Z0) (RT (true=Bv kd at_ tx pr op vk sh nu it bo de sl ss k)) (RT ((k==10)=Bv kd at_ tx pr op vk sh nu it bo de sl ss k))) (ifB (k==Z1) (SM x/\ifB ((↑bo:Int)==Z0) (RT (true=Bv kd at_ tx pr op vk sh nu it bo de sl ss k)) (RT ((k==10)=Bv kd at_ tx pr op vk sh nu it bo de sl ss k))) (RT (false=Bv kd at_ tx pr op vk sh nu it bo de sl ss k)))) (ifB (k==17) (SM x/\True/\∀(y:Unit),True->ifB (Gw vk sh nu it) (SM x/\ifB ((↑bo:Int)==Z0) (RT (true=Bv kd at_ tx pr op vk sh nu it bo de sl ss k)) (RT ((k==10)=Bv kd at_ tx pr op vk sh nu it bo de sl ss k))) (ifB (k==Z1) (SM x/\ifB ((↑bo:Int)==Z0) (RT (true=Bv kd at_ tx pr op vk sh nu it bo de sl ss k)) (RT ((k==10)=Bv kd at_ tx pr op vk sh nu it bo de sl ss k))) (RT (false=Bv kd at_ tx pr op vk sh nu it bo de sl ss k)))) (RT (false=Bv kd at_ tx pr op vk sh nu it bo de sl ss k)))) (RT (false=Bv kd at_ tx pr op vk sh nu it bo de sl ss k)))) (RT (false=Bv kd at_ tx pr op vk sh nu it bo de sl ss k)))) (RT (false=Bv kd at_ tx pr op vk sh nu it bo de sl ss k))) (RT (false=Bv kd at_ tx pr op vk sh nu it bo de sl ss k))) (RT (false=Bv kd at_ tx pr op vk sh nu it bo de sl ss k))) (RT (false=Bv kd at_ tx pr op vk sh nu it bo de sl ss k))) (RT (false=Bv kd at_ tx pr op vk sh nu it bo de sl ss k))) (by kernel_rfl) ?_
 delta SM Z0 Z1 RT
 have z:∀n:Nat,((n:Int)==0)=(n==0):=fun n=>by
  rw[Bool.eq_iff_iff,beq_iff_eq,beq_iff_eq];omega
 have e:(tx==[])=tx.isEmpty:=by cases tx<;>rfl
 unfold Bv
 simp only[z,e]
 generalize (kd==k)=a1
 generalize decide (0<=at_)=a2
 generalize decide (0<=de)=a3
 generalize decide (0<=sl)=a4
 generalize decide (0<=ss)=a5
 generalize tx.isEmpty=a6
 generalize (k==2)=a7
 generalize (pr==0)=a8
 generalize (k==9)=a9
 generalize (op==0)=b1
 generalize (k==17)=b2
 generalize Gw vk sh nu it=b3
 generalize (k==1)=b4
 generalize (bo==0)=b5
 generalize (k==10)=b6
 simp only[Bh,true_and,and_true,exists_const,forall_const]
 repeat' (first | refine And.intro ?_ ?_ | intro _)
 all_goals subst_vars
 all_goals simp only[Bool.true_and,Bool.and_true,Bool.false_and,Bool.and_false,Bool.true_or,Bool.false_or,Bool.or_true,Bool.or_false]
def Bh6:Con:=fun k ds S=>match k with
 |97=>match ds with
  | [.agg [.int .i64 kd,.int .i64 at_,.int .i64 _,.str tx,.int .i64 pr,.int .i64 op,.int .i64 vk,.sl 1 sh _ _,.sl 1 nu _ _,.sl 4 it _ _,.sl 15 _ _ _,.sl 34 bo _ _,.int .i64 de,.int .i64 sl,.int .i64 ss],.int .i64 k]=>some (pC ds (.bool (Bv kd at_ tx pr op vk sh nu it bo de sl ss k)) True)
  |_=>none
 |k=>Bdy k ds S
theorem BkF(kd at_ cl : Int)(tx : List UInt8)(pr op vk : Int)(sh nu it ki bo : Nat)(f1 f2 f3 f4 f5 : Nat -> List D)(m1 m2 m3 m4 m5 : Ab.Mode)(de sl ss : Int)(ex : List D) :
  Bz (.agg [.int .i64 kd,.int .i64 at_,.int .i64 cl,.str tx,.int .i64 pr,.int .i64 op,.int .i64 vk,.sl 1 sh f1 m1,.sl 1 nu f2 m2,.sl 4 it f3 m3,.sl 15 ki f4 m4,.sl 34 bo f5 m5,.int .i64 de,.int .i64 sl,.int .i64 ss]::ex) (.agg (ndC kd at_ cl tx pr op vk sh nu it ki bo f1 f2 f3 f4 f5 de sl ss)::ex):=by
 refine⟨?_,Bm _⟩
 simp[ndC,Bz,Bk,Ba,BB,kEq]
theorem Bgo:ConOk Tryz.prog Bh6:=by
 intro k ds S A h
 unfold Bh6 at h
 split at h
 ·split at h
  ·injection h with h;subst h
   exact EG fun _=>⟨Bm _,C9 (BkF _ _ _ _ _ _ _ _ _ _ _ _ _ _ _ _ _ _ _ _ _ _ _ _ _ _) (Bj7 _ _ _ _ _ _ _ _ _ _ _ _ _ _ _ _ _ _ _ _ _)⟩
  ·cases h
 ·exact Bch _ _ _ _ h
noncomputable def Eem:Senv:=EC Bh6 41 3 [] (fun _=>([],[]))
theorem BlK(kd at_ cl : Int)(tx : List UInt8)(pr op vk : Int)(sh nu it ki bo : Nat)(f1 f2 f3 f4 f5 : Nat -> List D)(de sl ss : Int) :
  ACalls Tryz.prog 68 [.agg (ndC kd at_ cl tx pr op vk sh nu it ki bo f1 f2 f3 f4 f5 de sl ss)] ⟨[],[]⟩ (SpecR (sC [.agg (ndC kd at_ cl tx pr op vk sh nu it ki bo f1 f2 f3 f4 f5 de sl ss)] (.bool (EU kd at_ cl tx pr op vk sh nu it ki bo de sl ss))) ()):=by
 refine Bi (A:=sC _ _) (x:=()) (E:=Eem) (eOk Bgo rfl) Tryz.func68 rfl (by kernel_rfl) rfl (by simp[sC,Eem,EC,E0]) ?_
 refine Bj (T :=
  ∀(x:Nat),True->SM x/\ifB (kd==Z0) (SM x/\ifB (at_==Z0) (SM x/\ifB (cl==Z0) (SM x/\ifB (de==Z0) (SM x/\ifB (sl==Z0) (SM x/\ifB (ss==Z0) (SM x/\True/\∀(y:Unit),True->ifB (Bv kd at_ tx pr op vk sh nu it bo de sl ss Z0) (SM x/\RT (((↑ki:Int)==Z0)=EU kd at_ cl tx pr op vk sh nu it ki bo de sl ss)) (RT (false=EU kd at_ cl tx pr op vk sh nu it ki bo de sl ss))) (RT (false=EU kd at_ cl tx pr op vk sh nu it ki bo de sl ss))) (RT (false=EU kd at_ cl tx pr op vk sh nu it ki bo de sl ss))) (RT (false=EU kd at_ cl tx pr op vk sh nu it ki bo de sl ss))) (RT (false=EU kd at_ cl tx pr op vk sh nu it ki bo de sl ss))) (RT (false=EU kd at_ cl tx pr op vk sh nu it ki bo de sl ss))) (RT (false=EU kd at_ cl tx pr op vk sh nu it ki bo de sl ss))) (by kernel_rfl) ?_
 delta SM Z0 RT
 have z:∀n:Nat,((n:Int)==0)=(n==0):=fun n=>by
  rw[Bool.eq_iff_iff,beq_iff_eq,beq_iff_eq];omega
 unfold EU
 simp only[z]
 generalize (kd==0)=a1
 generalize (at_==0)=a2
 generalize (cl==0)=a3
 generalize (de==0)=a4
 generalize (sl==0)=a5
 generalize (ss==0)=a6
 generalize (ki==0)=a8
 generalize Bv _ _ _ _ _ _ _ _ _ _ _ _ _ _=a7
 simp only[Bh,true_and,and_true,exists_const,forall_const]
 repeat' (first | refine And.intro ?_ ?_ | intro _)
 all_goals subst_vars
 all_goals simp only[Bool.true_and,Bool.and_true,Bool.false_and,Bool.and_false]
noncomputable def Enum:Senv:=EC CM 9 1 [2] (fun _=>([],[]))
def Qbn(a:Int):Bool:=bif decide ((-4611686018427387903:Int)<=a) then decide (a<=4611686018427387903) else false
theorem Bld(z:Int):ACalls Tryz.prog 138 [.int .i64 z] ⟨[],[]⟩ (SpecR (sC [.int .i64 z] (.bool (Bh8 z))) ()):=by
 refine Bi (A:=sC _ _) (x:=()) (E:=Enum) (eOk BE rfl) Tryz.func138 rfl (by kernel_rfl) rfl (by simp[sC,Enum,EC,E0]) ?_
 refine Bj (T :=
  ifB (decide ((-4611686018427387903:Int)<=z)) (decide (z<=4611686018427387903)=Qbn z/\True) (false=Qbn z/\True)/\RT (Qbn z=Bh8 z)) (by kernel_rfl) ?_
 delta Qbn RT
 simp only[Bh,decide_eq_true_eq,decide_eq_false_iff_not,true_and,and_true,Bool.cond_false_right,exists_const]
 refine⟨⟨fun h=>by rw[decide_eq_true h];rfl,fun h=>by rw[decide_eq_false h];rfl⟩,rfl⟩
noncomputable def Echr:Senv:=EC CM 17 1 [2] (fun _=>([],[]))
def Zg(a:Int):Bool:=bif bif decide (Z0<=a) then decide (a<=1114111) else false then bif decide (a<55296) then true else decide ((57343:Int)<a) else false
def Qgh(a:Int):Prop:=false=Zg a/\True
theorem BkJ(z:Int):ACalls Tryz.prog 139 [.int .i64 z] ⟨[],[]⟩ (SpecR (sC [.int .i64 z] (.bool (BiB z))) ()):=by
 refine Bi (A:=sC _ _) (x:=()) (E:=Echr) (eOk BE rfl) Tryz.func139 rfl (by kernel_rfl) rfl (by simp[sC,Echr,EC,E0]) ?_
 refine Bj (T :=
  ifB (decide (Z0<=z)) (ifB (decide (z<=1114111)) (ifB (decide (z<55296)) (true=Zg z/\True) (decide ((57343:Int)<z)=Zg z/\True)) (Qgh z)) (Qgh z)/\RT (Zg z=BiB z)) (by kernel_rfl) ?_
 delta Z0 Zg Qgh RT
 simp only[Bh,decide_eq_true_eq,decide_eq_false_iff_not,true_and,and_true,Bool.cond_false_right,Bool.cond_true_left,exists_const]
 refine⟨⟨fun h1=>⟨fun h2=>⟨fun h3=>by simp[h1,h2,h3],fun h3=>by simp[h1,h2,h3]⟩,fun h2=>by simp[h1,h2]⟩,fun h1=>by simp[h1]⟩,rfl⟩
def G1(row:Arr->List D)(xb:Nat)(q:Arr->Prop):FnSpec where
 β:=Arr
 α:=Unit
 args:=fun a=>[.agg (row a),.ref 1 xb 0]
 st:=fun _=>⟨[(1,xb,.cells [.fn (.func 136) [] [.ref 1 xb 0]])],[]⟩
 pre:=q
 post:=fun _ _=>True
 res:=fun a _=>.ret (.tup [.int .i64 (Ck a).1,.int .i64 (Ck a).2.1,.int .i64 (Ck a).2.2])
 out:=fun _ _=>⟨[(1,xb,.cells [.fn (.func 136) [] [.ref 1 xb 0]])],[]⟩
def BcI(xb:Nat)(its:List Arr):Con:=fun k ds S=>match k with
 |136=>some (G1 Arr.row1 xb (fun b=>b∈its))
 |137=>match ds with
  | [.agg [.int .i64 k,.sl 1 n f _,.sl 1 nn _g _,.sl 4 ni _h _]]=>some (pC ds (.int .i64 (EE k (BH n f) nn ni)) (IntsP n f/\n<=maxLen/\nn<=maxLen/\ni<=maxLen))
  |_=>none
 |138=>match ds with
  | [.int .i64 z]=>some (pC [.int .i64 z] (.bool (Bh8 z)) True)
  |_=>none
 |139=>match ds with
  | [.int .i64 z]=>some (pC [.int .i64 z] (.bool (BiB z)) True)
  |_=>none
 |k=>Bex k ds S
theorem BfG{xb:Nat}{its:List Arr}(ih:∀b∈its,ACalls Tryz.prog 136 ((G1 Arr.row2 xb (fun _=>True)).args b) ((G1 Arr.row2 xb (fun _=>True)).st b) (SpecR (G1 Arr.row2 xb (fun _=>True)) b)):ConOk Tryz.prog (BcI xb its):=by
 intro k ds S A h
 unfold BcI at h
 split at h
 ·injection h with h;subst h
  refine ConOk.plain (fun b hb=>?_) rfl rfl
  refine ((ih b hb).wkArgs ?_).mono fun _ _ ⟨y,h1,h2,h3⟩=>⟨y,h1,h2,h3⟩
  simp only[G1,wkL,wkD]
  exact⟨Mz b,by simp[Bk,Ba]⟩
 ·split at h
  ·rename_i k n f _ nn g _ ni g' _
   injection h with h;subst h
   refine EG fun ⟨h1,h2,h3,h4⟩=>⟨Bm _,C9 (us:=[.agg [.int .i64 k,isl (BH n f) .any,.sl 1 nn g .any,.sl 4 ni g' .any]]) ?_ (Bjp _ _ _ _ _ _ (by rw[CT];exact h2) h3 h4)⟩
   refine⟨?_,trivial⟩
   simp only[Bk,Bz]
   refine⟨by simp[Ba,kEq],(C6 h1).1,?_,?_,trivial⟩
   ·simp[Ba,BB]
   ·simp[Ba,BB]
  ·cases h
 ·split at h
  ·injection h with h;subst h
   exact EG fun _=>⟨Bm _,Bld _⟩
  ·cases h
 ·split at h
  ·injection h with h;subst h
   exact EG fun _=>⟨Bm _,BkJ _⟩
  ·cases h
 ·exact BaA _ _ _ _ h
theorem BiJ(a : Arr) : Ck a=if EE a.k a.sh a.nu.length a.it.length≠0 then (EE a.k a.sh a.nu.length a.it.length, 0, 0)
  else if a.nu.any (OW a.k) then (17,0,0)
  else match MO a.it 0 ((a.nu.length:Int)+a.it.length) with
   |none=>(17,0,0)
   |some r=>if 16<r.1\/262144<r.2 then (21,0,0) else (0,r.1,r.2):=by
 cases a with
 |mk k s n is=>rw[Ck];rfl
theorem Bf1{s:List Int}:EP s<=65536:=by
 unfold EP
 split
 ·omega
 ·cases hg:goO s 1 with
  |none=>simp
  |some p=>have:=RX s 1 (by omega) p hg;simpa using this
theorem ML{k:Int}{s:List Int}{nn ni:Nat}(h:EE k s nn ni=0):nn<=65536/\ni<=65536:=by
 have hs:=Bf1 (s:=s)
 unfold EE at h
 by_cases hk:k=1\/k=2\/k=3
 ·rw[if_pos hk] at h
  by_cases hd:Et s≠0
  ·rw[if_pos hd] at h;exact (hd h).elim
  ·rw[if_neg hd] at h
   by_cases hc:((if k=3 then (ni:Int) else nn)≠EP s)\/((if k=3 then (nn:Int) else ni)≠0)
   ·rw[if_pos hc] at h;omega
   ·simp only[not_or,ne_eq,Decidable.not_not] at hc
    obtain ⟨c1,c2⟩:=hc
    by_cases k3:k=3<;>simp only[k3,if_true,if_false] at c1 c2<;>omega
 ·rw[if_neg hk] at h;omega
theorem Bbu{α:Type}[Inhabited α]{l:List α}{i:Nat}(h:i<l.length):l.getD i default∈l:=by
 rw[List.getD_eq_getElem?_getD,List.getElem?_eq_getElem h];exact List.getElem_mem h
def cutV(k:Int)(d8:D)(S:St):Option LoopAnn :=
 match d8 with
 |.int _ z=>some { slots:=[45],keep:=[],α:=Unit,st:=fun _=>([.bool (OW k z)],S),inv:=fun _=>True,mu:=fun _=>0 }
 |_=>none
noncomputable def Evis(xb:Nat)(a:Arr):Senv:={ EC (BcI xb a.it) 87 7 [8,9,10,12,13,14,15,19,22,23,24,25,45,55,56,57,58,69,84] (fun id=>match id with | 10=>([0,1,2,3,4,5,6,7,8],[]) | _=>([],[])) with
 cut:=fun id env S=>match id with
  |7=>cutV a.k (Ab.look env 8) S
  |_=>none
 ann:=fun b _ S=>match b with
  |0=>some { slots:=[24],keep:=[0,1,2,22,23],α:=Nat,st:=fun i=>([.int .i64 i],S),inv:=fun i=>i<=a.nu.length/\∀z∈a.nu.take i,OW a.k z=false,mu:=fun i=>a.nu.length-i }
  |2=>some { slots:=[57,9,10],keep:=[0,1,2,55,56],α:=Nat×Int×Int,st:=fun y=>([.int .i64 y.1,.int .i64 y.2.1,.int .i64 y.2.2],S),inv:=fun y=>y.1<=a.it.length/\0<=y.2.1/\y.2.1<=17/\0<=y.2.2/\y.2.2<=262145/\MO (a.it.drop y.1) y.2.1 y.2.2=MO a.it 0 ((a.nu.length:Int)+a.it.length),mu:=fun y=>a.it.length-y.1 }
  |_=>none }
def Vq(a:Arr):Nat:=LN (Arr.sh a)
def X6(a:Arr)(b:Nat):List D:=[ZI (GI (Arr.sh a) b)]
def Zh(a:Arr):List Int:=Arr.nu a
def JB(a:Arr):Nat:=LN (Zh a)
def VY(a:Arr):List Arr:=Arr.it a
def JC(a:Arr):Nat:=LN (VY a)
def J9(a:Arr):Int:=Arr.k a
def Qgi(a:Arr):Int:=EE (J9 a) (BH (Vq a) fun i=>X6 a i) (JB a) (JC a)
def X7(a:Arr):Int:=Prod.fst (Ck a)
def Qbo(a:Arr):Int:=Prod.fst (Prod.snd (Ck a))
def Zi(a:Arr):Int:=Prod.snd (Prod.snd (Ck a))
def Qbp(a:Arr):Prop:=Z0=Qbo a/\Z0=Zi a/\True
def Qgj(a:Nat):Prop:=SM a/\(SM (D.fn (Fn.func (136:Nat)) [] [D.ref N1 a N0])/\True)/\True
def X8(a:Nat):Prop:=Qgj a/\True
def Qbq(a:Nat)(b:Arr):Prop:=a<=JB b/\∀(z:Int),z∈List.take a (Zh b)->OW (J9 b) z=false
def Qbr(a:Arr)(b:Nat):List D:=[ZI (GI (Zh a) b)]
def Zj:Arr:=DA
def X9(a:Arr)(b:Nat):Arr:=List.getD (VY a) b Zj
def Qru(a:Arr)(b:Nat):List Int:=Arr.sh (X9 a b)
def Qrv(a:Arr)(b:Nat):List Int:=Arr.nu (X9 a b)
def Qgk(a:Arr)(b:Nat):List Arr:=Arr.it (X9 a b)
def Qgl(a:Arr)(b:Nat):List D:=[ZI (Arr.k (X9 a b)),SI (Qru a b),SI (Qrv a b),D.sl N4 (LN (Qgk a b)) (fun i=>Arr.row (List.getD (Qgk a b) i Zj)) Mode.any]
def Vr(a:Nat)(b:Arr)(c:Nat):Prop:=(SM a/\(SM (J9 b)/\(SM (Vq b)/\(∀(i:Nat),i<Vq b->SM (X6 b i))/\True)/\(SM (JB b)/\(∀(i:Nat),i<JB b->SM (Qbr b i))/\True)/\(SM (JC b)/\(∀(i:Nat),i<JC b->SM (Qgl b i))/\True)/\True)/\Qgj c)/\True
def Zk(a:Arr):Int:=(NI (JB a))
def Qbs(a:Arr)(b:Nat):Int:=GI (Zh a) (Int.toNat (↑b:Int))
def Zl(a:Arr)(b:Nat):Bool:=OW (J9 a) (Qbs a b)
def Qgm(a:Nat)(b:Arr)(c d:Nat):Prop:=SM a/\ifB (J9 b==2) (True/\∀(_y:Unit),True->∃(_x:Unit),True/\((!BiB (Qbs b c))=Zl b c/\True)/\Vr a b d) (∃(_x:Unit),True/\(false=Zl b c/\True)/\Vr a b d)
def Qgn(a:Arr)(b:Nat):Prop:=True/\∃(_y:Unit),True/\((17:Int)=X7 a/\Qbp a)/\X8 b
def Qgo(a:Arr):D:=D.sl N1 (JB a) (fun i=>Qbr a i) Mode.any
def Qgp(a:Arr):D:=D.sl N4 (JC a) (fun i=>Qgl a i) Mode.any
def Qrw(a:Arr):D:=D.agg [ZI (J9 a),D.sl N1 (Vq a) (fun i=>X6 a i) Mode.any,Qgo a,Qgp a]
def Qgq(a:Arr):Prop:=SM (Qrw a)
def Zm(a:Arr):Int:=(NI (JC a))
def Qgr(a:Arr):Int:=Zk a+Zm a
def Qbt(a:Nat)(b:Arr)(c d:Int):Prop:=a<=JC b/\Z0<=c/\c<=17/\Z0<=d/\d<=262145/\MO (List.drop a (VY b)) c d=MO (VY b) Z0 (Qgr b)
def Zn(a:Arr)(b:Nat):Arr:=List.getD (VY a) (Int.toNat (↑b:Int)) Zj
def Qgs(a:Arr)(b:Nat):List Int:=Arr.sh (Zn a b)
def Qgt(a:Arr)(b:Nat):Nat:=LN (Qgs a b)
def Qgu(a:Arr)(b:Nat):List Int:=Arr.nu (Zn a b)
def Qgv(a:Arr)(b:Nat):Nat:=LN (Qgu a b)
def Qgw(a:Arr)(b:Nat):List Arr:=Arr.it (Zn a b)
def Qgx(a:Arr)(b:Nat):Nat:=LN (Qgw a b)
def Qgy(a:Arr):Int:=IntKind.wrap IntKind.i64 (Qbo a+Z1)
def Qbu(a b:Int):Bool:=bif decide ((16:Int)<a) then true else decide ((262144:Int)<b)
theorem Bhq(xb : Nat)(a : Arr)(ha : a.nu.length<=maxLen /\ a.it.length<=maxLen /\ a.sh.length<=maxLen)(ih : ∀b∈a.it, ACalls Tryz.prog 136 ((G1 Arr.row2 xb (fun _=>True)).args b) ((G1 Arr.row2 xb (fun _=>True)).st b) (SpecR (G1 Arr.row2 xb (fun _=>True)) b)) :
  ACalls Tryz.prog 136 ((G1 Arr.row2 xb (fun _=>True)).args a) ((G1 Arr.row2 xb (fun _=>True)).st a) (SpecR (G1 Arr.row2 xb (fun _=>True)) a):=by
 refine Bi (A:=G1 Arr.row2 xb (fun _=>True)) (x:=a) (E:=Evis xb a) (eOk (BfG ih) rfl) Tryz.func136 rfl (by kernel_rfl) rfl (by simp[G1,Evis,EC,E0]) ?_
 refine Bj (T :=
  ∀(x:Nat),xb≠x/\True->SM x/\((IntsP (Vq a) fun i=>X6 a i)/\Vq a<=9223372036854775807/\JB a<=9223372036854775807/\JC a<=9223372036854775807)/\∀(y:Unit),True->ifB (Qgi a != Z0) (True/\∃(y:Unit),True/\(Qgi a=X7 a/\Qbp a)/\X8 xb) (SM x/\(∃(x_1:Nat),Qbq x_1 a/\(Z0=(↑x_1:Int)/\True)/\Vr x a xb)/\∀(x_1:Nat),Qbq x_1 a->ifB (decide ((↑x_1:Int)<Zk a)) (Bd (Z0<=(↑x_1:Int)/\(↑x_1:Int)<Zk a) ((SM x/\ifB (J9 a==Z1) (True/\∀(y:Unit),True->ifB (!Bh8 (Qbs a x_1)) (∃(x_2:Unit),True/\(true=Zl a x_1/\True)/\Vr x a xb) (Qgm x a x_1 xb)) (Qgm x a x_1 xb))/\∀(x_2:Unit),True->ifB (Zl a x_1) (Qgn a xb) ((Qgq a/\SM (D.ref N1 xb N0)/\SM (D.ref N2 x N0)/\SM (Qgo a)/\SM (ZI (Zk a))/\True)/\∃(y:Nat),Qbq y a/\JB a-y<JB a-x_1/\(IntKind.wrap IntKind.i64 ((↑x_1:Int)+Z1)=(↑y:Int)/\True)/\Vr x a xb))) (SM x/\SM x/\SM x/\(∃(x_2:Nat×Int×Int),Qbt x_2.1 a x_2.2.1 x_2.2.2/\(Z0=(NI x_2.1)/\Z0=x_2.2.1/\IntKind.wrap IntKind.i64 (Qgr a)=x_2.2.2/\True)/\Vr x a xb)/\∀(x_2:Nat×Int×Int),Qbt x_2.1 a x_2.2.1 x_2.2.2->ifB (decide ((NI x_2.1)<Zm a)) (Bd (Z0<=(NI x_2.1)/\(NI x_2.1)<Zm a) (∀(x_3:Nat),x≠x_3/\xb≠x_3/\True->SM x_3/\SM xb/\SM x_3/\∃(x_4:Arr),((Arr.k (Zn a x_2.1)=J9 x_4/\(Qgt a x_2.1=Vq x_4/\(∀(i:Nat),i<Qgt a x_2.1->[ZI (GI (Qgs a x_2.1) i)]=X6 x_4 i)/\True)/\(Qgv a x_2.1=JB x_4/\(∀(i:Nat),i<Qgv a x_2.1->[ZI (GI (Qgu a x_2.1) i)]=Qbr x_4 i)/\True)/\(Qgx a x_2.1=JC x_4/\(∀(i:Nat),i<Qgx a x_2.1->Arr.row (List.getD (Qgw a x_2.1) i Zj)=Arr.row (X9 x_4 i))/\True)/\True)/\SM xb/\True)/\X8 xb/\x_4∈VY a/\∀(y:Unit),True->ifB (X7 x_4 != Z0) (Qgn a xb) ((Qgq a/\SM (D.ref N1 xb N0)/\SM (D.ref N2 x N0)/\SM (Qgp a)/\SM (ZI (Zm a))/\True)/\∃(y:Nat×Int×Int),Qbt y.1 a y.2.1 y.2.2/\JC a-y.1<JC a-x_2.1/\(IntKind.wrap IntKind.i64 ((NI x_2.1)+Z1)=(NI y.1)/\(if x_2.2.1<Qgy x_4 then Qgy x_4 else x_2.2.1)=y.2.1/\(if (262145:Int)<IntKind.wrap IntKind.i64 (x_2.2.2+Zi x_4) then (262145:Int) else IntKind.wrap IntKind.i64 (x_2.2.2+Zi x_4))=y.2.2/\True)/\Vr x a xb))) (ifB (decide ((16:Int)<x_2.2.1)) (true=Qbu x_2.2.1 x_2.2.2/\True) (decide ((262144:Int)<x_2.2.2)=Qbu x_2.2.1 x_2.2.2/\True)/\ifB (Qbu x_2.2.1 x_2.2.2) (True/\∃(y:Unit),True/\((21:Int)=X7 a/\Qbp a)/\X8 xb) (True/\∃(y:Unit),True/\(Z0=X7 a/\x_2.2.1=Qbo a/\x_2.2.2=Zi a/\True)/\X8 xb))))) (by kernel_rfl) ?_
 delta DA GI LN N0 N1 N2 N4 NI SI SM Z0 Z1 ZI Qgi X7 Qbo Zi Qbp Qgj X8 Qbq Qbr Zj X9 Qru Qrv Qgk Qgl Vr Zk Qbs Zl Qgm Vq Qgn Qgo Qgp Qrw Qgq Zm Qgr Qbt Zn Qgs X6 Qgt Qgu Qgv Qgw Qgx Qgy Qbu Zh JB VY JC J9
 have da:(default:Arr)=Arr.mk 0 [] [] []:=rfl
 simp only[<- da,Eg,Int.toNat_natCast,Bh,Bf,decide_eq_true_eq,decide_eq_false_iff_not,true_and,and_true,beq_iff_eq,bne_iff_ne,Bool.cond_true_left,beq_eq_false_iff_ne,ne_eq,exists_const,forall_const]
 intro x _
 have hA:=BiJ a
 obtain ⟨l1,l2,l3⟩:=ha
 have tt:(∀i:Nat,i<a.sh.length->True)/\(∀i:Nat,i<a.nu.length->True)/\∀i:Nat,i<a.it.length->True:=⟨fun _ _=>trivial,fun _ _=>trivial,fun _ _=>trivial⟩
 refine⟨⟨CF _,l3,l1,l2⟩,fun h=>?_,fun h=>⟨⟨0,⟨Nat.zero_le _,by simp⟩,rfl,tt⟩,fun i hi=>⟨fun hlt=>?_,fun hge=>?_⟩⟩⟩
 ·rw[hA,if_pos h];exact⟨rfl,rfl,rfl⟩
 ·have h0:EE a.k a.sh a.nu.length a.it.length=0:=by simpa using h
  have hsm:=ML h0
  have hlt':i<a.nu.length:=by omega
  have hmem:a.nu.getD i 0∈a.nu:=by rw[List.getD_eq_getElem?_getD,List.getElem?_eq_getElem hlt'];exact List.getElem_mem hlt'
  have htk:a.nu.take (i+1)=a.nu.take i++[a.nu.getD i 0]:=by
   rw[List.take_add_one];simp[List.getD_eq_getElem?_getD,hlt']
  generalize a.nu.getD i 0=z at *
  refine⟨by omega,?_,fun hb=>?_,fun hb=>⟨i+1,⟨by omega,fun y hy=>?_⟩,by omega,Be (by omega) (by omega),tt⟩⟩
  ·refine⟨fun k1=>⟨fun hn=>⟨by simp at hn;simp[OW,k1,hn],tt⟩,fun hn=>⟨fun k2=>by omega,fun k2=>⟨by simp at hn;simp[OW,k1,hn],tt⟩⟩⟩,fun k1=>⟨fun k2=>⟨by simp[OW,k2],tt⟩,fun k2=>⟨by simp[OW,k1,k2],tt⟩⟩⟩
  ·have:a.nu.any (OW a.k)=true:=List.any_eq_true.2 ⟨z,hmem,hb⟩
   rw[hA,if_neg (by simp[h0]),if_pos this]
   exact⟨rfl,rfl,rfl⟩
  ·rw[htk,List.mem_append] at hy
   rcases hy with hy | hy
   ·exact hi.2 y hy
   ·simp at hy;rw[hy];exact hb
 ·have h0:EE a.k a.sh a.nu.length a.it.length=0:=by simpa using h
  have hsm:=ML h0
  have hii:i=a.nu.length:=by omega
  rw[hii,List.take_length] at hi
  have hany:¬a.nu.any (OW a.k)=true:=by
   rw[List.any_eq_true]
   rintro ⟨z,hz,hb⟩
   rw[hi.2 z hz] at hb
   cases hb
  rw[if_neg (by simp[h0]),if_neg hany] at hA
  refine⟨⟨(0,0,(a.nu.length:Int)+a.it.length),⟨Nat.zero_le _,Int.le_refl _,by simp,by simp only;omega,by simp only;omega,by simp⟩,⟨rfl,rfl,Be (by omega) (by omega)⟩,tt⟩,?_⟩
  rintro ⟨j,d,w⟩ ⟨b1,b2,b3,b4,b5,hch⟩
  simp only at b1 b2 b3 b4 b5 hch ⊢
  refine⟨fun hlt=>⟨by omega,fun x3 _=>?_⟩,fun hge=>?_⟩
  ·have hlt':j<a.it.length:=by omega
   have hbd:=TG (a.it.getD j default)
   rw[Bt hlt',MO] at hch
   refine⟨a.it.getD j default,⟨rfl,⟨rfl,fun _ _=>rfl⟩,⟨rfl,fun _ _=>rfl⟩,rfl,fun _ _=>rfl⟩,Bbu hlt',fun herr=>?_,fun hok=>?_⟩
   ·rw[if_pos herr] at hch
    rw[<- hch] at hA
    rw[hA]
    exact⟨rfl,rfl,rfl⟩
   ·have hok:(Ck (a.it.getD j default)).1=0:=by simpa using hok
    rw[if_neg (fun hne=>hne hok)] at hch
    have w1:IntKind.i64.wrap ((Ck (a.it.getD j default)).2.1+1)=(Ck (a.it.getD j default)).2.1+1:=Be (by omega) (by omega)
    have w2:IntKind.i64.wrap (w+(Ck (a.it.getD j default)).2.2)=w+(Ck (a.it.getD j default)).2.2:=Be (by omega) (by omega)
    rw[w1,w2]
    refine⟨(j+1,(if d<(Ck (a.it.getD j default)).2.1+1 then (Ck (a.it.getD j default)).2.1+1 else d),(if 262145<w+(Ck (a.it.getD j default)).2.2 then 262145 else w+(Ck (a.it.getD j default)).2.2)),⟨by simp only;omega,?_,?_,?_,?_,hch⟩,by simp only;omega,⟨Be (by omega) (by omega),rfl,rfl⟩,tt⟩
    ·simp only;split<;>omega
    ·simp only;split<;>omega
    ·simp only;split<;>omega
    ·simp only;split<;>omega
  ·have hj:j=a.it.length:=by omega
   rw[hj,List.drop_length,MO] at hch
   rw[<- hch] at hA
   simp only at hA
   refine⟨⟨fun h1=>by rw[decide_eq_true h1];rfl,fun h1=>by rw[decide_eq_false h1];rfl⟩,fun hc=>?_,fun hc=>?_⟩
   ·rw[Bool.or_eq_true,decide_eq_true_eq,decide_eq_true_eq] at hc
    rw[if_pos hc] at hA
    rw[hA];exact⟨rfl,rfl,rfl⟩
   ·rw[Bool.or_eq_false_iff,decide_eq_false_iff_not,decide_eq_false_iff_not] at hc
    rw[if_neg (by omega)] at hA
    rw[hA];exact⟨rfl,rfl,rfl⟩
theorem Bez:∀(a:Arr),a.ok->∀xb,ACalls Tryz.prog 136 ((G1 Arr.row2 xb (fun _=>True)).args a) ((G1 Arr.row2 xb (fun _=>True)).st a) (SpecR (G1 Arr.row2 xb (fun _=>True)) a)
 |.mk k s n is,h,xb=>by
  have h':=h
  simp only[Arr.ok] at h'
  obtain ⟨_,_,_,h1,h2,h3,h4⟩:=h'
  refine Bhq xb (.mk k s n is) ⟨h2,h3,h1⟩ fun b hb=>?_
  have hb':b∈is:=hb
  exact Bez b ((Od _).1 h4 b hb') xb
termination_by a=>SizeOf.sizeOf a
decreasing_by
 have:=List.sizeOf_lt_of_mem hb'
 simp;omega
theorem Bf4(a:Arr)(ha:a.ok)(xb:Nat)(q:Arr->Prop):ACalls Tryz.prog 136 ((G1 Arr.row1 xb q).args a) ((G1 Arr.row1 xb q).st a) (SpecR (G1 Arr.row1 xb q) a):=by
 refine ((Bez a ha xb).wkArgs ?_).mono fun _ _ ⟨y,h1,h2,h3⟩=>⟨y,h1,h2,h3⟩
 simp only[G1,wkL,wkD]
 exact⟨Mz a,by simp[Bk,Ba]⟩
def Bib(a:Arr):Con:=fun k ds _=>match k with
 |136=>match ds with
  | [_,.ref _ xb _]=>some (G1 Arr.row1 xb (fun b=>b=a))
  |_=>none
 |_=>none
theorem Bg9{a:Arr}(ha:a.ok):ConOk Tryz.prog (Bib a):=by
 intro k ds S A h
 unfold Bib at h
 split at h
 ·split at h
  ·injection h with h;subst h
   refine ConOk.plain (fun b hb=>?_) rfl rfl
   have hb:b=a:=hb
   rw[hb]
   exact Bf4 a ha _ _
  ·cases h
 ·cases h
noncomputable def Eri(a:Arr):Senv:=EC (Bib a) 16 7 [] (fun _=>([],[]))
def Qbv(a:Arr):Nat:=LN (Arr.sh a)
def Qbw(a:Arr):Nat:=LN (Arr.nu a)
def Qbx(a:Arr):Nat:=LN (Arr.it a)
def Qgz(a:Arr)(b:Nat):List D:=Arr.row (GA (Arr.it a) b)
theorem BlW(a:Arr)(ha:a.ok):ACalls Tryz.prog 124 [.agg a.row1] ⟨[],[]⟩ (SpecR (sC [.agg a.row1] (.int .i64 (Ck a).1)) ()):=by
 refine Bi (A:=sC _ _) (x:=()) (E:=Eri a) (eOk (Bg9 ha) rfl) Tryz.func124 rfl (by kernel_rfl) rfl (by simp[sC,Eri,EC,E0]) ?_
 refine Bj (T :=
  ∀(x:Nat),True->∀(x_1:Nat),x≠x_1/\True->SM x_1/\SM x_1/\SM x/\∃(x:Arr),((Arr.k a=Arr.k x/\(Qbv a=Qbv x/\(∀(i:Nat),i<Qbv a->[ZI (GI (Arr.sh a) i)]=[ZI (GI (Arr.sh x) i)])/\True)/\(Qbw a=Qbw x/\(∀(i:Nat),i<Qbw a->[ZI (GI (Arr.nu a) i)]=[ZI (GI (Arr.nu x) i)])/\True)/\(Qbx a=Qbx x/\(∀(i:Nat),i<Qbx a->Qgz a i=Qgz x i)/\True)/\True)/\SM x_1/\True)/\((SM x_1/\(D.fn (Fn.func (136:Nat)) [] [D.ref (max (N0+N1) N0) x_1 N0]=D.fn (Fn.func (136:Nat)) [] [D.ref N1 x_1 N0]/\True)/\True)/\True)/\x=a/\∀(y:Unit),True->RT (Prod.fst (Ck x)=Prod.fst (Ck a))) (by kernel_rfl) ?_
 delta DA GA GI LN N0 N1 SM Z0 ZI Qbv Qbw Qbx Qgz RT
 intro x _ x1 hx
 exact⟨rfl,rfl,rfl,a,⟨⟨rfl,⟨rfl,fun _ _=>rfl,trivial⟩,⟨rfl,fun _ _=>rfl,trivial⟩,⟨rfl,fun _ _=>rfl,trivial⟩,trivial⟩,rfl,trivial⟩,⟨⟨rfl,⟨rfl,trivial⟩,trivial⟩,trivial⟩,rfl,fun _ _=>⟨trivial,(),trivial,rfl,trivial,trivial⟩⟩
theorem WT{α:Type}{l:List α}{i:Nat}{d:α}(h:i<l.length):l.getD i d∈l:=by
 rw[List.getD_eq_getElem?_getD,List.getElem?_eq_getElem h];exact List.getElem_mem h
noncomputable def Bw{α:Type}(a b:α):Bool:=@decide (a=b) (Classical.propDecidable _)
theorem BN{α:Type}{a b:α}:Bw a b=true↔a=b:=by unfold Bw;exact @decide_eq_true_iff _ (Classical.propDecidable _)
theorem BL{α:Type}{a b:α}(h:a≠b):false=Bw a b:=by
 cases hs:Bw a b with
 |false=>rfl
 |true=>exact (h (BN.1 hs)).elim
theorem Ml{α:Type}{a b:α}(h:a=b):true=Bw a b:=(BN.2 h).symm
theorem T9{α:Type}{l m:List α}(d:α)(h:l.length=m.length)(h2:∀j,j<l.length->l.getD j d=m.getD j d):l=m:=by
 apply List.ext_getElem h
 intro i h3 h4
 have:=h2 i h3
 simpa[List.getD_eq_getElem?_getD,List.getElem?_eq_getElem h3,List.getElem?_eq_getElem h4] using this
theorem BbS{α:Type}[Inhabited α]{l m:List α}{i:Nat}(h:∀j,j<i->l.getD j default=m.getD j default)(e:l.getD i default=m.getD i default):∀j,j<i+1->l.getD j default=m.getD j default:=fun j hj=>by
 by_cases q:j=i
 ·subst q;exact e
 ·exact h j (by omega)
noncomputable def EqI(l m:List Int):Senv:={ EC CM 26 2 [4,5,10,12,13,14,24] (fun id=>match id with | 6=>([0,1,2,3,4,5,6,7,8],[]) | _=>([],[])) with
 ann:=fun q _ S=>match q with
  |0=>some { slots:=[13],keep:=[0,1,11,12],α:=Nat,st:=fun i=>([.int .i64 i],S),inv:=fun i=>i<=l.length/\∀j,j<i->l.getD j default=m.getD j default,mu:=fun i=>l.length-i }
  |_=>none }
def QgA(a b:List Int):Prop:=RT (false=Bw a b)
def Qby(a:Nat)(b c:List Int):Prop:=a<=LN b/\∀(j:Nat),j<a->GI b j=GI c j
def Qrx(a:List Int):D:=SI a
def QgB(a:List Int):Prop:=SM (Qrx a)
theorem Blw(l m:List Int)(hl:l.length<=maxLen)(hm:m.length<=maxLen):ACalls Tryz.prog 115 [isl l .any,isl m .any] ⟨[],[]⟩ (SpecR (sC [isl l .any,isl m .any] (.bool (Bw l m))) ()):=by
 refine Bi (A:=sC _ _) (x:=()) (E:=EqI l m) (eOk BE rfl) Tryz.func115 rfl (by kernel_rfl) rfl (by simp[sC,EqI,EC,E0]) ?_
 refine Bj (T :=
  ifB ((LI l) != (LI m)) (QgA l m) ((∃(x:Nat),Qby x l m/\(Z0=(↑x:Int)/\True)/\True/\True)/\∀(x:Nat),Qby x l m->ifB (decide ((↑x:Int)<(LI l))) (Bd (Z0<=(↑x:Int)/\(↑x:Int)<(LI l)) (Bd (Z0<=(↑x:Int)/\(↑x:Int)<(LI m)) (ifB (GI l (Int.toNat (↑x:Int)) != GI m (Int.toNat (↑x:Int))) (QgA l m) ((QgB l/\QgB m/\SM D.unk/\SM (ZI (LI l))/\True)/\∃(y:Nat),Qby y l m/\LN l-y<LN l-x/\(IntKind.wrap IntKind.i64 ((↑x:Int)+Z1)=(↑y:Int)/\True)/\True/\True)))) (RT (true=Bw l m)))) (by kernel_rfl) ?_
 delta GI LI LN N1 SI SM Z0 Z1 ZI QgA Qby Qrx QgB RT
 simp only[Bh,Bf,decide_eq_true_eq,decide_eq_false_iff_not,true_and,and_true,beq_iff_eq,bne_iff_ne,bne_eq_false_iff_eq,ne_eq,exists_const,forall_const,implies_true,Int.toNat_natCast,Bool.not_eq_true',Bool.not_eq_false']
 simp only[maxLen] at hl hm
 refine⟨fun h=>BL fun e=>h (by rw[e]),fun he=>⟨⟨0,⟨Nat.zero_le _,fun j hj=>absurd hj (by omega)⟩,rfl⟩,fun i hi=>⟨fun hlt=>⟨⟨by omega,by omega⟩,⟨by omega,by omega⟩,fun hn=>BL fun e=>hn (by rw[e]),fun hn=>⟨i+1,⟨by omega,BbS hi.2 hn⟩,by omega,Be (by omega) (by omega)⟩⟩,fun hge=>Ml (T9 default (by omega) fun j hj=>hi.2 j (by omega))⟩⟩⟩
noncomputable def sPr{α:Type}(row:α->List D)(q:α×α->Prop):FnSpec where
 β:=α×α
 α:=Unit
 args:=fun x=>[.agg (row x.1),.agg (row x.2)]
 st:=fun _=>⟨[],[]⟩
 pre:=q
 post:=fun _ _=>True
 res:=fun x _=>.ret (.bool (Bw x.1 x.2))
 out:=fun _ _=>⟨[],[]⟩
theorem Blx{α : Type}{k : Nat}{row : α -> List D}{q : α×α -> Prop}{ds : List D}{S : St}(h : ∀x, q x -> ACalls Tryz.prog k [.agg (row x.1), .agg (row x.2)] ⟨[], []⟩ (SpecR (sC [.agg (row x.1), .agg (row x.2)] (.bool (Bw x.1 x.2))) ())) :
  (∀y,(sPr row q).pre y->ACalls Tryz.prog k ((sPr row q).args y) ((sPr row q).st y) (SpecR (sPr row q) y))/\(∀y,(sPr row q).fit=some y->(sPr row q).pre y->Bz ds ((sPr row q).args y)/\leS ((sPr row q).st y) S)/\((sPr row q).all=true->∀y,(sPr row q).pre y->Bz ds ((sPr row q).args y)/\(sPr row q).st y=S) :=
 ConOk.plain (fun (x:α×α) hx=>(h x hx).mono fun _ _ ⟨y,q1,q2,q3⟩=>⟨y,q1,q2,q3⟩) rfl rfl
noncomputable def Bg4(l m:List Arr):Con:=fun k _ _=>match k with
 |82=>some (sPr Arr.row1 (fun x=>x.1∈l/\x.2∈m))
 |_=>none
noncomputable def EeA(l m:List Arr):Senv:={ EC (Bg4 l m) 32 3 [6,7,8,9,14,15,16,17,18,30] (fun _=>([],[])) with
 ann:=fun q _ S=>match q with
  |0=>some { slots:=[17],keep:=[0,1,2,15,16],α:=Nat,st:=fun i=>([.int .i64 i],S),inv:=fun i=>i<=l.length/\∀j,j<i->l.getD j default=m.getD j default,mu:=fun i=>l.length-i }
  |_=>none }
def QgC(a b:List Arr):Prop:=RT (false=Bw a b)
def Ya:Arr:=DA
def VZ(a:List Arr)(b:Nat):Arr:=List.getD a b Ya
def Qbz(a:Nat)(b c:List Arr):Prop:=a<=LN b/\∀(j:Nat),j<a->VZ b j=VZ c j
def Zo(a:List Arr)(b:Nat):Arr:=List.getD a (Int.toNat (↑b:Int)) Ya
def QgD(a:List Arr)(b:Nat):List Int:=Arr.sh (Zo a b)
def QgE(a:List Arr)(b:Nat):Nat:=LN (QgD a b)
def QgF(a:List Arr)(b:Nat):List Int:=Arr.nu (Zo a b)
def QgG(a:List Arr)(b:Nat):Nat:=LN (QgF a b)
def QgH(a:List Arr)(b:Nat):List Arr:=Arr.it (Zo a b)
def QgI(a:List Arr)(b:Nat):Nat:=LN (QgH a b)
def QgJ(a:List Arr)(b:Nat)(c:Arr):Prop:=Arr.k (Zo a b)=Arr.k c/\(QgE a b=LN (Arr.sh c)/\(∀(i:Nat),i<QgE a b->[ZI (GI (QgD a b) i)]=[ZI (GI (Arr.sh c) i)])/\True)/\(QgG a b=LN (Arr.nu c)/\(∀(i:Nat),i<QgG a b->[ZI (GI (QgF a b) i)]=[ZI (GI (Arr.nu c) i)])/\True)/\(QgI a b=LN (Arr.it c)/\(∀(i:Nat),i<QgI a b->Arr.row (List.getD (QgH a b) i Ya)=Arr.row (List.getD (Arr.it c) i Ya))/\True)/\True
def Qry(a:List Arr)(b:Nat):List Int:=Arr.sh (VZ a b)
def Qrz(a:List Arr)(b:Nat):List Int:=Arr.nu (VZ a b)
def QgK(a:List Arr)(b:Nat):List Arr:=Arr.it (VZ a b)
def QrA(a:List Arr):D:=D.sl N4 (LN a) (fun i=>[ZI (Arr.k (VZ a i)),SI (Qry a i),SI (Qrz a i),D.sl N4 (LN (QgK a i)) (fun i_1=>Arr.row (List.getD (QgK a i) i_1 Ya)) Mode.any]) Mode.any
def QbA(a:List Arr):Prop:=SM (QrA a)
theorem Bgi(l m:List Arr)(hl:l.length<=maxLen)(hm:m.length<=maxLen)(hc:ConOk Tryz.prog (Bg4 l m)):ACalls Tryz.prog 116 [gsl 4 Arr.row1 l,gsl 4 Arr.row1 m,.fn (.func 82) [] []] ⟨[],[]⟩ (SpecR (sC [gsl 4 Arr.row1 l,gsl 4 Arr.row1 m,.fn (.func 82) [] []] (.bool (Bw l m))) ()):=by
 refine Bi (A:=sC _ _) (x:=()) (E:=EeA l m) (eOk hc rfl) Tryz.func116 rfl (by kernel_rfl) rfl (by simp[sC,EeA,EC,E0]) ?_
 refine Bj (T :=
  ifB ((LI l) != (LI m)) (QgC l m) ((∃(x:Nat),Qbz x l m/\(Z0=(↑x:Int)/\True)/\True/\True)/\∀(x:Nat),Qbz x l m->ifB (decide ((↑x:Int)<(LI l))) (Bd (Z0<=(↑x:Int)/\(↑x:Int)<(LI l)) (∀(x_1:Nat),True->SM x_1/\Bd (Z0<=(↑x:Int)/\(↑x:Int)<(LI m)) (∀(x_2:Nat),x_1≠x_2/\True->SM x_2/\SM x_1/\SM x_2/\∃(x_3:Arr×Arr),(QgJ l x x_3.1/\QgJ m x x_3.2/\True)/\(True/\True)/\(x_3.1∈l/\x_3.2∈m)/\∀(y:Unit),True->ifB (!Bw x_3.1 x_3.2) (QgC l m) ((QbA l/\QbA m/\SM (D.fn (Fn.func (82:Nat)) [] [])/\QbA l/\SM (ZI (LI l))/\True)/\∃(y:Nat),Qbz y l m/\LN l-y<LN l-x/\(IntKind.wrap IntKind.i64 ((↑x:Int)+Z1)=(↑y:Int)/\True)/\True/\True)))) (RT (true=Bw l m)))) (by kernel_rfl) ?_
 delta DA GI LI LN N1 N4 SI SM Z0 Z1 ZI QgE QgF QgG QgH QgI QgJ Qry Qrz QgK QrA QbA QgC Ya VZ Qbz Zo QgD RT
 simp only[Bh,Bf,decide_eq_true_eq,decide_eq_false_iff_not,true_and,and_true,beq_iff_eq,bne_iff_ne,bne_eq_false_iff_eq,ne_eq,exists_const,forall_const,implies_true,Int.toNat_natCast,Bool.not_eq_true',Bool.not_eq_false',Prod.exists]
 simp only[maxLen] at hl hm
 refine⟨fun h=>BL fun e=>h (by rw[e]),fun he=>⟨⟨0,⟨Nat.zero_le _,fun j hj=>absurd hj (by omega)⟩,rfl⟩,fun i hi=>⟨fun hlt=>⟨⟨by omega,by omega⟩,fun _=>⟨⟨by omega,by omega⟩,fun _ _=>⟨l.getD i default,m.getD i default,?_,⟨WT (by omega),WT (by omega)⟩,fun hn=>BL fun e=>?_,fun hs=>⟨i+1,⟨by omega,BbS hi.2 (BN.1 hs)⟩,by omega,Be (by omega) (by omega)⟩⟩⟩⟩,fun hge=>Ml (T9 default (by omega) fun j hj=>hi.2 j (by omega))⟩⟩⟩
 ·repeat' (first | rfl | exact fun _ _=>rfl | refine And.intro ?_ ?_)
 ·rw[e,BN.2 rfl] at hn;cases hn
theorem IJ{α β:Type}{a b:α}{c d:β}(h:a=b↔c=d):Bw a b=Bw c d:=by
 rw[Bool.eq_iff_iff,BN,BN];exact h
theorem Bju{a b:Arr}(h1:a.k=b.k)(h2:a.sh=b.sh)(h3:a.nu=b.nu)(h4:a.it=b.it):a=b:=by
 cases a;cases b
 simp only[Arr.k,Arr.sh,Arr.nu,Arr.it] at h1 h2 h3 h4
 rw[h1,h2,h3,h4]
noncomputable def Bhy(l m:List Arr):Con:=fun k ds _=>match k with
 |116=>some (pC ds (.bool (Bw l m)) (Bz ds [gsl 4 Arr.row1 l,gsl 4 Arr.row1 m,.fn (.func 82) [] []]))
 |115=>match ds with
  | [.sl 1 n f _,.sl 1 p g _]=>some (pC ds (.bool (Bw (BH n f) (BH p g))) ((IntsP n f/\n<=maxLen)/\IntsP p g/\p<=maxLen))
  |_=>none
 |_=>none
noncomputable def Eas(a b:Arr):Senv:=EC (Bhy a.it b.it) 31 5 [] (fun _=>([],[]))
def QbB(a:Arr):Nat:=LN (Arr.sh a)
def QgL(a:Arr):Prop:=(IntsP (QbB a) fun i=>[ZI (GI (Arr.sh a) i)])/\QbB a<=9223372036854775807
def QgM(a:Arr):List Int:=BH (QbB a) fun i=>[ZI (GI (Arr.sh a) i)]
def QbC(a:Arr):Nat:=LN (Arr.nu a)
def QgN(a:Arr):Prop:=(IntsP (QbC a) fun i=>[ZI (GI (Arr.nu a) i)])/\QbC a<=9223372036854775807
def QgO(a:Arr):List Int:=BH (QbC a) fun i=>[ZI (GI (Arr.nu a) i)]
def Zp(a:Arr):List Arr:=Arr.it a
def QgP(a:Arr):Nat:=LN (Zp a)
def QgQ:Arr:=DA
def Zq(a:Arr)(b:Nat):Arr:=List.getD (Zp a) b QgQ
def QrB(a:Arr)(b:Nat):List Int:=Arr.sh (Zq a b)
def QrC(a:Arr)(b:Nat):List Int:=Arr.nu (Zq a b)
def QgR(a:Arr)(b:Nat):List Arr:=Arr.it (Zq a b)
def QrD(a:Arr)(b:Nat):List D:=[ZI (Arr.k (Zq a b)),SI (QrB a b),SI (QrC a b),D.sl N4 (LN (QgR a b)) (fun i=>Arr.row (List.getD (QgR a b) i QgQ)) Mode.any]
def QgS(a:Arr):Prop:=SM (QgP a)/\(∀(i:Nat),i<QgP a->SM (QrD a i))/\True
def QbD(a b:Arr):Prop:=RT (false=Bw a b)
theorem BjF(a b : Arr)(ha : a.sh.length<=maxLen /\ a.nu.length<=maxLen /\ a.it.length<=maxLen)(hb : b.sh.length<=maxLen /\ b.nu.length<=maxLen /\ b.it.length<=maxLen)(hc : ConOk Tryz.prog (Bhy a.it b.it)) :
  ACalls Tryz.prog 82 [.agg a.row2,.agg b.row2] ⟨[],[]⟩ (SpecR (sC [.agg a.row2,.agg b.row2] (.bool (Bw a b))) ()):=by
 refine Bi (A:=sC _ _) (x:=()) (E:=Eas a b) (eOk hc rfl) Tryz.func82 rfl (by kernel_rfl) rfl (by simp[sC,Eas,EC,E0]) ?_
 refine Bj (T :=
  ∀(x:Nat),True->∀(x_1:Nat),x≠x_1/\True->SM x/\SM x_1/\ifB (Arr.k a==Arr.k b) (SM x/\SM x_1/\(QgL a/\QgL b)/\∀(y:Unit),True->ifB (Bw (QgM a) (QgM b)) (SM x/\SM x_1/\(QgN a/\QgN b)/\∀(y:Unit),True->ifB (Bw (QgO a) (QgO b)) (SM x/\SM x_1/\(QgS a/\QgS b/\SM (D.fn (Fn.func (82:Nat)) [] [])/\True)/\∀(y:Unit),True->RT (Bw (Zp a) (Zp b)=Bw a b)) (QbD a b)) (QbD a b)) (QbD a b)) (by kernel_rfl) ?_
 delta DA GI LN N1 N4 SI SM Z0 ZI QbB QgL QgM QbC QgN QgO Zp QgP QgQ Zq QrB QrC QgR QrD QgS QbD RT
 simp only[Bh,Bf,decide_eq_true_eq,decide_eq_false_iff_not,true_and,and_true,beq_iff_eq,bne_iff_ne,bne_eq_false_iff_eq,beq_eq_false_iff_ne,ne_eq,exists_const,forall_const,implies_true,Int.toNat_natCast,Bool.not_eq_true',Bool.not_eq_false',Bm,eq_self,Eg]
 simp only[maxLen] at ha hb
 obtain ⟨a1,a2,a3⟩:=ha
 obtain ⟨b1,b2,b3⟩:=hb
 have no:∀ {α:Type} {x y:α},Bw x y=false->x≠y:=fun h e=>by rw[BN.2 e] at h;cases h
 exact fun _ _ _=>⟨fun hk=>⟨⟨⟨CF _,a1⟩,CF _,b1⟩,fun hs=>⟨⟨⟨CF _,a2⟩,CF _,b2⟩,fun hn=>IJ ⟨fun e=>Bju hk (BN.1 hs) (BN.1 hn) e,fun e=>by rw[e]⟩,fun hn=>BL fun e=>no hn (by rw[e])⟩,fun hs=>BL fun e=>no hs (by rw[e])⟩,fun h=>BL fun e=>h (by rw[e])⟩
theorem Bhv{a b:Arr}{k:Nat}{d:D}(h:ACalls Tryz.prog k [.agg a.row2,.agg b.row2] ⟨[],[]⟩ (SpecR (sC [.agg a.row2,.agg b.row2] d) ())):ACalls Tryz.prog k [.agg a.row1,.agg b.row1] ⟨[],[]⟩ (SpecR (sC [.agg a.row1,.agg b.row1] d) ()) :=
 (h.wkArgs (by simp only[wkL,wkD];exact⟨Mz _,Mz _,trivial⟩)).mono fun _ _ ⟨y,q1,q2,q3⟩=>⟨y,q1,q2,q3⟩
theorem Bf9:∀(a b:Arr),a.ok->b.ok->ACalls Tryz.prog 82 [.agg a.row2,.agg b.row2] ⟨[],[]⟩ (SpecR (sC [.agg a.row2,.agg b.row2] (.bool (Bw a b))) ())
 |.mk k s n is,.mk k' s' n' is',ha,hb=>by
  simp only[Arr.ok] at ha hb
  obtain ⟨_,_,_,a1,a2,a3,a4⟩:=ha
  obtain ⟨_,_,_,b1,b2,b3,b4⟩:=hb
  refine BjF _ _ ⟨a1,a2,a3⟩ ⟨b1,b2,b3⟩ ?_
  intro f ds S A h
  unfold Bhy at h
  split at h
  ·injection h with h;subst h
   refine EG fun e=>⟨Bm _,C9 e (Bgi _ _ a3 b3 ?_)⟩
   intro f ds S A h
   unfold Bg4 at h
   split at h
   ·injection h with h;subst h
    refine Blx fun (x:Arr×Arr) hx=>?_
    obtain ⟨x,y⟩:=x
    have hx1:x∈is:=hx.1
    have hx2:y∈is':=hx.2
    exact Bhv (Bf9 x y ((Od _).1 a4 x hx1) ((Od _).1 b4 y hx2))
   ·cases h
  ·split at h
   ·injection h with h;subst h
    exact EG fun ⟨⟨h1,h2⟩,h3,h4⟩=>⟨Bm _,C9 (us:=[isl (BH _ _) .any,isl (BH _ _) .any]) ⟨(C6 h1).1,(C6 h3).1,trivial⟩ (Blw _ _ (by rw[CT];exact h2) (by rw[CT];exact h4))⟩
   ·cases h
  ·cases h
termination_by a=>SizeOf.sizeOf a
decreasing_by
 have:=List.sizeOf_lt_of_mem hx1
 simp;omega
theorem BdB{l:List Nd}{m:List Int}:(l.map Nd.cl==m)=true↔l.length=m.length/\∀j,j<l.length->(l.getD j default).cl=m.getD j 0:=by
 rw[beq_iff_eq]
 constructor
 ·rintro rfl
  refine⟨by simp,fun j hj=>?_⟩
  simp[List.getD_eq_getElem?_getD,hj]
 ·rintro ⟨h1,h2⟩
  apply List.ext_getElem (by simpa using h1)
  intro i h3 h4
  have h3:i<l.length:=by simpa using h3
  have:=h2 i h3
  simpa[List.getD_eq_getElem?_getD,h3,h4] using this
theorem Biz{l:List Nd}{m:List Int}(h:¬(l.length=m.length/\∀j,j<l.length->(l.getD j default).cl=m.getD j 0)):false=(l.map Nd.cl==m):=by
 cases e:(l.map Nd.cl==m) with
 |false=>rfl
 |true=>exact (h (BdB.1 e)).elim
noncomputable def Eqc(l:List Nd)(m:List Int):Senv:={ EC CM 32 3 [6,7,8,9,14,15,16,17,18,30] (fun _=>([],[])) with
 ann:=fun q _ S=>match q with
  |0=>some { slots:=[17],keep:=[0,1,2,15,16],α:=Nat,st:=fun i=>([.int .i64 i],S),inv:=fun i=>i<=l.length/\∀j,j<i->(l.getD j default).cl=m.getD j 0,mu:=fun i=>l.length-i }
  |_=>none }
def QgT(a:List Nd)(b:List Int):Prop:=RT (false=(List.map Nd.cl a==b))
def QgU:Arr:=DA
def Yb:Nd:=Nd.mk Z0 Z0 Z0 [] Z0 Z0 QgU [] [] Z0 Z0 Z0
def Kr(a:List Nd)(b:Nat):Nd:=List.getD a b Yb
def QgV(a:List Nd)(b:Nat):Int:=Nd.cl (Kr a b)
def QbE(a:Nat)(b:List Nd)(c:List Int):Prop:=a<=LN b/\∀(j:Nat),j<a->QgV b j=GI c j
def Zr(a:List Nd)(b:Nat):Arr:=Nd.va (Kr a b)
def QrE(a:List Nd)(b:Nat):List Int:=Arr.sh (Zr a b)
def QrF(a:List Nd)(b:Nat):List Int:=Arr.nu (Zr a b)
def QgW(a:List Nd)(b:Nat):List Arr:=Arr.it (Zr a b)
def QgX(a:List Nd)(b:Nat):List Nd:=Nd.ki (Kr a b)
def QgY(a:List Nd)(b:Nat):List Sm:=Nd.bo (Kr a b)
def QrG(a:List Nd):D:=D.sl 15 (LN a) (fun i=>[ZI (Nd.kd (Kr a i)),ZI (Nd.at_ (Kr a i)),ZI (QgV a i),D.str (Nd.tx (Kr a i)),ZI (Nd.pr (Kr a i)),ZI (Nd.op (Kr a i)),ZI (Arr.k (Zr a i)),SI (QrE a i),SI (QrF a i),D.sl N4 (LN (QgW a i)) (fun i_1=>Arr.row (List.getD (QgW a i) i_1 QgU)) Mode.any,D.sl 15 (LN (QgX a i)) (fun i_1=>Nd.row (List.getD (QgX a i) i_1 Yb)) Mode.any,D.sl 34 (LN (QgY a i)) (fun i_1=>Sm.row (List.getD (QgY a i) i_1 (Sm.mk Z0 Z0 [] Z0 Yb Yb))) Mode.any,ZI (Nd.de (Kr a i)),ZI (Nd.sl (Kr a i)),ZI (Nd.ss (Kr a i))]) Mode.any
def QgZ(a:List Nd):Prop:=SM (QrG a)
def QrH(a:List Int):D:=SI a
theorem BkM(l:List Nd)(m:List Int)(hl:l.length<=maxLen)(hm:m.length<=maxLen):CD 140 [gsl 15 Nd.row1 l,isl m .any,.fn (.func 141) [] []] (.bool (l.map Nd.cl==m)):=by
 refine Bi (A:=sC _ _) (x:=()) (E:=Eqc l m) (eOk BE rfl) Tryz.func140 rfl (by kernel_rfl) rfl (by simp[sC,Eqc,EC,E0]) ?_
 refine Bj (T :=
  ifB ((LI l) != (LI m)) (QgT l m) ((∃(x:Nat),QbE x l m/\(Z0=(↑x:Int)/\True)/\True/\True)/\∀(x:Nat),QbE x l m->ifB (decide ((↑x:Int)<(LI l))) (Bd (Z0<=(↑x:Int)/\(↑x:Int)<(LI l)) (∀(x_1:Nat),True->SM x_1/\Bd (Z0<=(↑x:Int)/\(↑x:Int)<(LI m)) (SM x_1/\∀(x_2:Nat),x_1≠x_2/\True->SM x_2/\True/\ifB (!Nd.cl (List.getD l (Int.toNat (↑x:Int)) Yb)==GI m (Int.toNat (↑x:Int))) (QgT l m) ((QgZ l/\SM (QrH m)/\SM (D.fn (Fn.func (141:Nat)) [] [])/\QgZ l/\SM (ZI (LI l))/\True)/\∃(y:Nat),QbE y l m/\LN l-y<LN l-x/\(IntKind.wrap IntKind.i64 ((↑x:Int)+Z1)=(↑y:Int)/\True)/\True/\True)))) (RT (true=(List.map Nd.cl l==m))))) (by kernel_rfl) ?_
 delta DA GI LI LN N1 N4 SI SM Z0 Z1 ZI QgT QgU QgX QgY QrG QgZ QrH Yb Kr QgV QbE Zr QrE QrF QgW RT
 simp only[eq_self,ne_eq,implies_true,Bm,Int.toNat_natCast,Bh,Bf,decide_eq_true_eq,decide_eq_false_iff_not,true_and,and_true,beq_iff_eq,bne_iff_ne,bne_eq_false_iff_eq,beq_eq_false_iff_ne,Bool.not_eq_true',Bool.not_eq_false',exists_const,forall_const]
 simp only[<- dn]
 simp only[maxLen] at hl hm
 refine⟨fun h=>Biz fun ⟨e,_⟩=>h (by omega),fun he=>⟨⟨0,⟨Nat.zero_le _,fun j hj=>by omega⟩,rfl⟩,fun x ⟨x1,hx⟩=>⟨fun hlt=>⟨⟨by omega,by omega⟩,fun _=>⟨⟨by omega,by omega⟩,fun _ _=>⟨fun h=>Biz fun ⟨_,e⟩=>h (e x (by omega)),fun h=>⟨x+1,⟨by omega,fun j hj=>by
   by_cases e:j=x
   ·rw[e];exact h
   ·exact hx j (by omega)⟩,by omega,Be (by omega) (by omega)⟩⟩⟩⟩,fun hge=>(BdB.2 ⟨by omega,fun j hj=>hx j (by omega)⟩).symm⟩⟩⟩
def BcO(n:Nd):Con:=fun k ds S=>match k with
 |140=>match ds with
  | [_,.sl 1 m f _,_]=>some (pA ds S (.bool (n.ki.map Nd.cl==BH m f)) (wkL ds [gsl 15 Nd.row1 n.ki,isl (BH m f) .any,.fn (.func 141) [] []]/\m<=maxLen))
  |_=>none
 |_=>none
theorem BfJ{n:Nd}(h:n.ki.length<=maxLen):ConOk Tryz.prog (BcO n):=by
 intro k ds S A hh
 unfold BcO at hh
 split at hh
 ·split at hh
  ·injection hh with hh;subst hh
   exact Bs fun ⟨e,hm⟩=>CD.at_ (CD.wk (BkM _ _ h (by rw[CT];exact hm)) e) _
  ·cases hh
 ·cases hh
noncomputable def Ecls(n:Nd):Senv:=EC (BcO n) 9 3 [4] (fun _=>([],[]))
def Qg0(a:Nd):D:=D.sl 15 (LN (Nd.ki a)) (fun i=>Nd.row1 (List.getD (Nd.ki a) i (Nd.mk Z0 Z0 Z0 [] Z0 Z0 DA [] [] Z0 Z0 Z0))) Mode.any
def Qg1:List D:=[D.fn (Fn.func (141:Nat)) [] []]
def Qg2(a:List Int):List Int:=BH (LN a) fun i=>[ZI (GI a i)]
theorem BiZ(n:Nd)(m:List Int)(hl:n.ki.length<=maxLen)(hm:m.length<=maxLen):CD 125 [.agg n.row2,isl m .any] (.bool (BA n m)):=by
 refine Bi (A:=sC _ _) (x:=()) (E:=Ecls n) (eOk (BfJ hl) rfl) Tryz.func125 rfl (by kernel_rfl) rfl (by simp[sC,Ecls,EC,E0]) ?_
 refine Bj (T :=
  ∀(x:Nat),True->SM x/\∃(x:Unit),(wkL (Qg0 n::SI m::Qg1) (Qg0 n::SI (Qg2 m)::Qg1)/\LN m<=9223372036854775807)/\∀(y:Unit),True->RT ((List.map Nd.cl (Nd.ki n)==Qg2 m)=BA n m)) (by kernel_rfl) ?_
 delta DA GI LN N1 SI SM Z0 ZI Qg0 Qg1 Qg2 RT
 simp only[true_and,and_true,exists_const,forall_const,Eg]
 exact⟨⟨Bc _,hm⟩,rfl⟩
def Bh0(n:Nd):Con:=fun k ds S=>match k with
 |124=>some (pA ds S (.int .i64 (Ck n.va).1) (wkL ds [.agg n.va.row1]))
 |69=>some (pA ds S (.bool (Em n.tx)) (wkL ds [.str n.tx]))
 |102=>some (pA ds S (.str (EH n.pr)) (wkL ds [.int .i64 n.pr]))
 |103=>some (pA ds S (.str (opT n.op)) (wkL ds [.int .i64 n.op]))
 |_=>none
theorem BgQ{n:Nd}(h:n.va.ok):ConOk Tryz.prog (Bh0 n):=by
 intro k ds S A hh
 unfold Bh0 at hh
 split at hh
 ·injection hh with hh;subst hh
  exact Bs fun e=>CD.at_ (CD.wk (BlW n.va h) e) _
 ·injection hh with hh;subst hh
  exact Bs fun e=>CD.at_ (CD.wk (BkB n.tx) e) _
 ·injection hh with hh;subst hh
  exact Bs fun e=>CD.at_ (CD.wk (Bkb n.pr) e) _
 ·injection hh with hh;subst hh
  exact Bs fun e=>CD.at_ (CD.wk (Bki n.op) e) _
 ·cases hh
noncomputable def Ele(n:Nd):Senv:=EC (Bh0 n) 104 7 [10,12,13,49,64,71,82,89,93] (fun _=>([],[]))
def Va(a:Nd):Bool:=GD a
def JL(a:Nd):Prop:=True/\∃(_y:Unit),True/\false=Va a/\True/\True
def Q4(a:Nd):Int:=Nd.kd a
def Yc(a:Nd):Arr:=Nd.va a
def Qg3(a:Nd):List Int:=Arr.sh (Yc a)
def Qg4(a:Nd):Nat:=LN (Qg3 a)
def Qg5(a:Nd):Int:=(NI (Qg4 a))
def Qg6(a:Nd):Bool:=Qg5 a==Z0
def QbF(a:Nd):Int:=Arr.k (Yc a)
def Qg7(a:Nd):Bool:=QbF a != (3:Int)
def QbG(a:Nd):Bool:=bif Qg6 a then Qg7 a else false
def Qg8(a:Nd):Bool:=Qg5 a==Z1
def Qg9(a:Nd):Bool:=QbF a==2
def QbH(a:Nd):Bool:=bif Qg8 a then Qg9 a else false
def Vb(a:Nd):Int:=Nd.cl a
def QrI(a:Nd):List Int:=Arr.nu (Yc a)
def Qha(a:Nd):List Arr:=Arr.it (Yc a)
def Qhb(a:Nd):List D:=[D.agg [ZI (QbF a),D.sl N1 (Qg4 a) (fun i=>[ZI (GI (Qg3 a) i)]) Mode.any,SI (QrI a),D.sl N4 (LN (Qha a)) (fun i=>Arr.row (GA (Qha a) i)) Mode.any]]
def QbI(a:Nat)(b:Nd):Prop:=SM a/\True/\∃(_y:Unit),True/\(Vb b==Z1)=Va b/\True/\True
def QbJ(a:Nat)(b:Nd):Prop:=SM a/\True/\∃(_y:Unit),True/\(Vb b==2)=Va b/\True/\True
def Qhc(a:Nat)(b:Nd):Prop:=SM a/\∃(_x:Unit),wkL [ZI (Nd.op b)] [ZI (Nd.op b)]/\∀(_y:Unit),True->True/\∃(_y:Unit),True/\(opT (Nd.op b) != [])=Va b/\True/\True
def QbK(a:Nd)(b:Nat):Prop:=ifB (Q4 a==17) (SM b/\ifB (decide (Nd.op a<=5)) (SM b/\ifB (Vb a==3) (Qhc b a) (JL a)) (SM b/\ifB (Vb a==4) (Qhc b a) (JL a))) (JL a)
def QbL(a:Nd)(b:Nat):Prop:=ifB (Q4 a==9) (SM b/\ifB (Vb a==2) (SM b/\∃(_x:Unit),wkL [ZI (Nd.pr a)] [ZI (Nd.pr a)]/\∀(_y:Unit),True->True/\∃(_y:Unit),True/\(EH (Nd.pr a) != [])=Va a/\True/\True) (JL a)) (ifB (Q4 a==11) (ifB (Q4 a==11) (QbJ b a) (QbK a b)) (ifB (Q4 a==12) (ifB (Q4 a==12) (QbJ b a) (QbK a b)) (ifB (Q4 a==13) (QbJ b a) (QbK a b))))
theorem Bme(n:Nd)(h:n.va.ok):CD 99 [.agg n.row2] (.bool (GD n)) := by
  refine Bi (A := sC _ _) (x := ()) (E := Ele n) (eOk (BgQ h) rfl) Tryz.func99 rfl (by kernel_rfl) rfl (by simp [sC,Ele,EC,E0]) ?_
  refine Bj (T :=
    ∀ (x:Nat),True->SM x/\ifB (decide (Z0 < (LI (Nd.ki n)))) (JL n) (SM x/\ifB (Q4 n == Z1) (SM x/\∀ (x_1:Nat),x ≠ x_1/\True->SM x_1/\(SM x_1/\ifB (Qg6 n) (SM x_1/\Qg7 n = QbG n/\True) (false = QbG n/\True))/\(SM x_1/\ifB (Qg8 n) (SM x_1/\Qg9 n = QbH n/\True) (false = QbH n/\True))/\SM x/\ifB (Vb n == Z1) (SM x_1/\∃ (x:Unit),wkL (Qhb n) (Qhb n)/\∀ (y:Unit),True->ifB (Prod.fst (Ck (Yc n)) == Z0) (ifB (QbG n) (True/\∃ (y:Unit),True/\true = Va n/\True/\True) (True/\∃ (y:Unit),True/\QbH n = Va n/\True/\True)) (JL n)) (JL n)) (ifB (Q4 n == (2:Int)) (SM x/\ifB (decide (Z1 <= Vb n)) (SM x/\ifB (decide (Vb n <= (4:Int))) (SM x/\∃ (x:Unit),wkL [D.str (Nd.tx n)] [D.str (Nd.tx n)]/\∀ (y:Unit),True->True/\∃ (y:Unit),True/\Em (Nd.tx n) = Va n/\True/\True) (JL n)) (JL n)) (ifB (Q4 n == (6:Int)) (ifB (Q4 n == (6:Int)) (QbI x n) (QbL n x)) (ifB (Q4 n == (7:Int)) (ifB (Q4 n == (7:Int)) (QbI x n) (QbL n x)) (ifB (Q4 n == (8:Int)) (QbI x n) (QbL n x))))))) (by kernel_rfl) ?_
  delta DA GA GI LI LN N1 N4 NI SI SM Z0 Z1 ZI Va JL QbG Qg8 Qg9 QbH Vb QrI Qha Qhb QbI QbJ Q4 Qhc QbK QbL Yc Qg3 Qg4 Qg5 Qg6 QbF Qg7
  try simp only []
  try simp only [<- dn]
  simp only [ne_eq,Bh,decide_eq_true_eq,decide_eq_false_iff_not,true_and,and_true,beq_iff_eq,beq_eq_false_iff_ne,exists_const,forall_const]
  have e1:n.ki.isEmpty = (n.ki.length == 0) := by cases n.ki <;> rfl
  have e2:n.va.sh.isEmpty = (n.va.sh.length == 0) := by cases n.va.sh <;> rfl
  have e3:∀ l:List UInt8,(l != []) = !l.isEmpty := fun l => by cases l <;> rfl
  have e40:((n.va.sh.length:Int) == 0) = (n.va.sh.length == 0) := by rw [Bool.eq_iff_iff,beq_iff_eq,beq_iff_eq]; omega
  have e41:((n.va.sh.length:Int) == 1) = (n.va.sh.length == 1) := by rw [Bool.eq_iff_iff,beq_iff_eq,beq_iff_eq]; omega
  simp only [e3,e40,e41]
  intro x
  repeat' (first | exact Bc _ | refine And.intro ?_ ?_ | intro _)
  all_goals first
    | exact Bc _
    | (exfalso; omega)
    | (simp_all [GD]; done)
    | (simp_all [GD]; omega)
    | (have h9 : n.ki.isEmpty = false := by rw [e1, beq_eq_false_iff_ne]; omega
       unfold GD; rw [h9]; rfl)
theorem BkP(x y:Nat)(hx:x<18446744073709551616)(hy:y<18446744073709551616):CD 142 [.int .u64 x,.int .u64 y] (.tup [.int .u64 ((x*y / 18446744073709551616:Nat):Int),.int .u64 ((x*y % 18446744073709551616:Nat):Int)]):=by
 refine ACalls.of_shelf ⟨_,Tryz.func142,by kernel_rfl,by kernel_rfl⟩ fun C args w ha=>?_
 obtain ⟨u,v,e,hu,hv⟩:=MB ha
 have e2:args=[u,v].toArray:=by rw[<- e]
 subst e2
 simp only[Rep] at hu hv;subst hu hv
 have:=Tryz.bits_Mul x y hx hy w
 exact this.mono fun e w' ⟨h1,h2⟩=>⟨⟨_,h1,by simp[Rep,RepL]⟩,by rw[h2];exact Go.RowKit.Below.refl _ _⟩
def BfA(j:Nat):Nat->List D:=fun i=>[.int .i64 (if i<j then 1 else 0)]
def Bkh(n:Nat):Con:=fun k ds S=>match k with
 |142=>some (pA ds S (.tup [.int .u64 0,.int .u64 n]) (ds=[.int .u64 1,.int .u64 n]))
 |_=>none
noncomputable def Erp(n:Nat):Senv:={ EC (Bkh n) 48 2 [4,5,6,7,8,10,26,37] (fun id=>match id with | 9=>([0,1,2,3,4,5,6,7,8,9],[7]) | _=>([],[])) with
 gr:=[.slot 4]
 ann:=fun b env _S=>match b with
  |0=>match Ab.look env 7 with
   |.vs _k x _len cap _w=>some { slots:=[8],keep:=[0,1,7],α:=Nat,st:=fun j=>([.int .i64 j],⟨[(0,x,.vec 1 n cap (BfA j))],[]⟩),inv:=fun j=>1<=j/\j<=n,mu:=fun j=>n-j }
   |_=>none
  |_=>none }
def V0(a:Nat):Int:=IntKind.wrap IntKind.i64 (↑a:Int)
def Jp(a:Nat):Nat:=Int.toNat (V0 a)
def Zs(a:Nat):Prop:=SM (Jp a)
def QbM(a b:Nat):Prop:=a<Jp b
def V1(a b:Nat):List D:=BfA a b
def Zt(a:Nat):Int:=(NI (Jp a))
def JD(a:Nat):Nat:=Int.toNat (↑a:Int)
def QrJ:D:=D.sl N1 N1 (fun _x=>[ZI Z1]) Mode.full
def QrK(a b:Nat):D:=D.vs N0 a (Jp b) (Jp b) N1
def Qhd(a b:Nat):Nat:=min (Jp a-JD b) (JD b)
theorem Bl2(n:Nat)(h1:2<=n)(h2:n<=1000):CD 126 [.sl 1 1 (fun _=>[.int .i64 1]) .full,.int .i64 n] (isl (List.replicate n 1) .any):=by
 refine Bi (A:=sC _ _) (x:=()) (E:=Erp n) (eOk ?_ rfl) Tryz.func126 rfl (by kernel_rfl) rfl (by simp[sC,Erp,EC,E0]) ?_
 ·intro k ds S A hh
  unfold Bkh at hh
  split at hh
  ·injection hh with hh;subst hh
   refine Bs fun e=>?_
   rw[e]
   have:=BkP 1 n (by omega) (by omega)
   rw[Nat.one_mul,Nat.div_eq_of_lt (by omega),Nat.mod_eq_of_lt (by omega)] at this
   exact CD.at_ this _
  ·cases hh
 refine Bj (T :=
  ∃(x:Unit),[D.int IntKind.u64 Z1,D.int IntKind.u64 (IntKind.wrap IntKind.u64 (↑n:Int))]=[D.int IntKind.u64 Z1,D.int IntKind.u64 (↑n:Int)]/\∀(y:Unit),True->(SM (decide ((9223372036854775807:Int)<(↑n:Int)))/\True)/\ifB (decide ((9223372036854775807:Int)<(↑n:Int))) (∃(y:Unit),True/\False/\True/\True) (Bd (Z0<=V0 n/\V0 n<=V0 n/\(8:Int)*V0 n<=281474976710656/\V0 n<=9223372036854775807) (∀(x:Nat),True->SM x/\N1<=Jp n/\Zs n/\(∃(x_1:Nat),(N1<=x_1/\x_1<=n)/\(Z1=(↑x_1:Int)/\True)/\(SM x/\(Jp n=n/\Zs n/\∀(i:Nat),QbM i n->(if i<N1 then [ZI Z1] else [ZI Z0])=V1 x_1 i)/\True)/\True)/\∀(x_1:Nat),N1<=x_1/\x_1<=n->ifB (decide ((↑x_1:Int)<Zt n)) (Z0<=(↑x_1:Int)/\(↑x_1:Int)<=Zt n/\(↑x_1:Int)<Zt n/\Bd (Z0<=(↑x_1:Int)/\(↑x_1:Int)<=Zt n) (SM x/\SM x/\JD x_1*N1=JD x_1/\JD x_1*N1+(Jp n-JD x_1)=n/\(∀(i:Nat),i<JD x_1->SM true)/\(SM QrJ/\SM (ZI (↑n:Int))/\SM (QrK x n)/\True)/\∃(y:Nat),(N1<=y/\y<=n)/\n-y<n-x_1/\(IntKind.wrap IntKind.i64 ((↑x_1:Int)+(NI (Qhd n x_1)))=(↑y:Int)/\True)/\(SM x/\(SM n/\Zs n/\∀(i:Nat),i<n->(if i<JD x_1 then V1 x_1 i else if i<JD x_1+Qhd n x_1 then BfA x_1 (i-JD x_1) else V1 x_1 i)=V1 y i)/\True)/\True)) (SM x/\Zs n/\Bd (Jp n<=n) ((∀(i:Nat),QbM i n->(List.all (V1 x_1 i) fun (x:D)=>match x with | D.unk=>false | D.agg cs=>false | D.tup ds=>false | x=>true)=true)/\∀(t:Nat),True/\∃(y:Unit),True/\(Jp n=LN (List.replicate n Z1)/\(∀(i:Nat),QbM i n->V1 x_1 i=[ZI (GI (List.replicate n Z1) i)])/\True)/\True/\True))))) (by kernel_rfl) ?_
 delta GI LN N0 N1 NI SM Z0 Z1 ZI V0 Jp Zs QbM V1 Zt JD QrJ QrK Qhd
 simp only[eq_self,implies_true,Int.toNat_natCast,Bh,Bf,decide_eq_true_eq,decide_eq_false_iff_not,true_and,and_true,exists_const,forall_const]
 have w64:IntKind.i64.wrap (n:Int)=n:=Be (by omega) (by omega)
 have wu:IntKind.u64.wrap (n:Int)=n:=by
  simp only[IntKind.wrap,IntKind.signed,IntKind.bits]
  simp
  omega
 simp only[w64,wu,Int.toNat_natCast]
 refine⟨trivial,fun h=>by omega,fun _=>⟨⟨by omega,by omega,by omega,by omega⟩,by omega,⟨1,⟨by omega,by omega⟩,rfl,trivial,fun i _=>?_⟩,fun j ⟨j1,j2⟩=>⟨fun hlt=>⟨by omega,by omega,hlt,⟨by omega,by omega⟩,by omega,by omega,j+min (n-j) j,⟨by omega,by omega⟩,by omega,Be (by omega) (by omega),fun i hi=>?_⟩,fun hge=>⟨Nat.le_refl _,fun i _=>rfl,by simp,fun i hi=>?_⟩⟩⟩⟩
 ·unfold BfA
  split<;>rfl
 ·unfold BfA
  by_cases a1:i<j
  ·rw[if_pos a1,if_pos a1,if_pos (by omega)]
  ·rw[if_neg a1]
   by_cases a2:i<j+min (n-j) j
   ·rw[if_pos a2,if_pos (by omega),if_pos a2]
   ·rw[if_neg a2,if_neg a1,if_neg a2]
 ·unfold BfA
  rw[if_pos (by omega)]
  simp[List.getD_eq_getElem?_getD,hi]
def Bf8(n:Nd):Con:=fun k ds S=>match k with
 |125=>match ds with
  | [_,.sl 1 m f _]=>some (pA ds S (.bool (BA n (BH m f))) (wkL ds [.agg n.row2,isl (BH m f) .any]/\m<=maxLen))
  |_=>none
 |126=>some (pA ds S (isl (List.replicate n.ki.length 1) .any) (2<=n.ki.length/\n.ki.length<=1000/\wkL ds [.sl 1 1 (fun _=>[.int .i64 1]) .full,.int .i64 n.ki.length]))
 |_=>none
theorem Bho{n:Nd}(h:n.ki.length<=maxLen):ConOk Tryz.prog (Bf8 n):=by
 intro k ds S A hh
 unfold Bf8 at hh
 split at hh
 ·split at hh
  ·injection hh with hh;subst hh
   exact Bs fun ⟨e,hm⟩=>CD.at_ (CD.wk (BiZ n _ h (by rw[CT];exact hm)) e) _
  ·cases hh
 ·injection hh with hh;subst hh
  exact Bs fun ⟨h1,h2,e⟩=>CD.at_ (CD.wk (Bl2 _ h1 h2) e) _
 ·cases hh
theorem BcS{n:Nd}(h:n.kd=15):EF n=(n.cl==2&&BA n [4,2,G2 n]):=by
 unfold EF
 simp only[h]
 rfl
theorem BiF{n:Nd}(h:n.kd=15)(hc:(bif n.cl != 2 then true else ((n.ki.length:Int) != 3))=true):false=EF n:=by
 rw[BcS h]
 by_cases h2:n.cl=2
 ·have e:(n.cl != 2)=false:=by simp[h2]
  rw[e] at hc
  have hl:n.ki.length≠3:=by
   have:((n.ki.length:Int) != 3)=true:=hc
   rw[bne_iff_ne] at this
   omega
  have:BA n [4,2,G2 n]=false:=by
   unfold BA
   rw[beq_eq_false_iff_ne]
   intro e
   have:=congrArg List.length e
   simp at this
   exact hl this
  rw[this];simp
 ·have:(n.cl==2)=false:=by simpa using h2
  rw[this];rfl
theorem BdA{n:Nd}(hc:(bif n.cl != 2 then true else ((n.ki.length:Int) != 3))=false):(n.cl==2)=true:=by
 cases h2:n.cl != 2 with
 |true=>rw[h2] at hc;cases hc
 |false=>simpa using h2
theorem Blq{n:Nd}(h:n.kd=15)(hc:(bif n.cl != 2 then true else ((n.ki.length:Int) != 3))=false)(hr:(bif (n.ki.getD 0 default).kd==17 then bif bif (n.ki.getD 0 default).op==7 then true else (n.ki.getD 0 default).op==8 then true else (n.ki.getD 0 default).op==9 else false)=true):BA n [4,2,1]=EF n:=by
 rw[BcS h,BdA hc]
 have:G2 n=1:=by
  unfold G2
  refine if_pos ?_
  cases a:(n.ki.getD 0 default).kd==17<;>cases b:(n.ki.getD 0 default).op==7<;>cases c:(n.ki.getD 0 default).op==8<;>cases d:(n.ki.getD 0 default).op==9<;>simp[] at hr<;>simp_all
 rw[this];simp
theorem Blt{n:Nd}(h:n.kd=15)(hc:(bif n.cl != 2 then true else ((n.ki.length:Int) != 3))=false)(hr:(bif (n.ki.getD 0 default).kd==17 then bif bif (n.ki.getD 0 default).op==7 then true else (n.ki.getD 0 default).op==8 then true else (n.ki.getD 0 default).op==9 else false)=false):BA n [4,2,2]=EF n:=by
 rw[BcS h,BdA hc]
 have:G2 n=2:=by
  unfold G2
  refine if_neg ?_
  cases a:(n.ki.getD 0 default).kd==17<;>cases b:(n.ki.getD 0 default).op==7<;>cases c:(n.ki.getD 0 default).op==8<;>cases d:(n.ki.getD 0 default).op==9<;>simp[] at hr<;>simp_all
 rw[this];simp
theorem R3{r:List D}{m:Nat}{f:Nat->List D}{md:Ab.Mode}(h:IntsP m f):wkL [.agg r,.sl 1 m f md] [.agg r,isl (BH m f) .any]:=by
 simp only[wkL]
 refine⟨Bb _,?_,trivial⟩
 simp only[isl,wkD,Ba]
 refine⟨by simp,by simp[CT],fun i hi=>?_,by simp[BB]⟩
 have e:(BH m f).getD i 0=Bf0 (f i):=by simp[BH,List.getD_eq_getElem?_getD,hi]
 rw[e,h i hi]
 exact Bc _
noncomputable def Ecm(n:Nd):Senv:=EC (Bf8 n) 146 7 [8,9,37,50,64,76,87,110,117] (fun id=>match id with | 4=>([0,1,2,3,4,5,6,7,8,9,10,11,12,13,14,15,16,17,18,20,21,22,19,23,24,25,26],[19,23,24]) | _=>([],[]))
def Vs(a:Nd):Int:=Nd.kd a
def V2(a:Nd):Int:=Nd.cl a
def QbN(a:Nd):Bool:=V2 a==Z1
def V3(a:Nd):Nat:=LN (Nd.ki a)
def V4(a:Nd):Int:=(NI (V3 a))
def QbO:Arr:=DA
def Yd:Nd:=Nd.mk Z0 Z0 Z0 [] Z0 Z0 QbO [] [] Z0 Z0 Z0
def Ks(a:Nd)(b:Nat):Nd:=List.getD (Nd.ki a) b Yd
def Zu(a:Nd)(b:Nat):Arr:=Nd.va (Ks a b)
def QrL(a:Nd)(b:Nat):List Int:=Arr.sh (Zu a b)
def QrM(a:Nd)(b:Nat):List Int:=Arr.nu (Zu a b)
def Qhe(a:Nd)(b:Nat):List Arr:=Arr.it (Zu a b)
def Qhf(a:Nd)(b:Nat):List Nd:=Nd.ki (Ks a b)
def Qhg(a:Nd)(b:Nat):List Sm:=Nd.bo (Ks a b)
def Qhh:Sm:=Sm.mk Z0 Z0 [] Z0 Yd Yd
def Qhi(a:Nd):D:=D.sl 15 (V3 a) (fun i=>[ZI (Nd.kd (Ks a i)),ZI (Nd.at_ (Ks a i)),ZI (Nd.cl (Ks a i)),D.str (Nd.tx (Ks a i)),ZI (Nd.pr (Ks a i)),ZI (Nd.op (Ks a i)),ZI (Arr.k (Zu a i)),SI (QrL a i),SI (QrM a i),D.sl N4 (LN (Qhe a i)) (fun i_1=>Arr.row (List.getD (Qhe a i) i_1 QbO)) Mode.any,D.sl 15 (LN (Qhf a i)) (fun i_1=>Nd.row (List.getD (Qhf a i) i_1 Yd)) Mode.any,D.sl 34 (LN (Qhg a i)) (fun i_1=>Sm.row (List.getD (Qhg a i) i_1 Qhh)) Mode.any,ZI (Nd.de (Ks a i)),ZI (Nd.sl (Ks a i)),ZI (Nd.ss (Ks a i))]) Mode.any
def Zv(a:Nd):Arr:=Nd.va a
def QrN(a:Nd):List Int:=Arr.sh (Zv a)
def QrO(a:Nd):List Int:=Arr.nu (Zv a)
def Qhj(a:Nd):List Arr:=Arr.it (Zv a)
def QS(a:Nd):D:=D.agg [ZI (Vs a),ZI (Nd.at_ a),ZI (V2 a),D.str (Nd.tx a),ZI (Nd.pr a),ZI (Nd.op a),ZI (Arr.k (Zv a)),SI (QrN a),SI (QrO a),D.sl N4 (LN (Qhj a)) (fun i=>Arr.row (List.getD (Qhj a) i QbO)) Mode.any,Qhi a,D.sl 34 (LN (Nd.bo a)) (fun i=>Sm.row1 (List.getD (Nd.bo a) i Qhh)) Mode.any,ZI (Nd.de a),ZI (Nd.sl a),ZI (Nd.ss a)]
def Qhk(a:Nat)(b:Nd):Prop:=SM a/\SM (QS b)
def Zw:List D:=[ZI Z1]
def QbP:List (List D):=[Zw]
def Qhl(a:Nd):List D:=[ZI (V4 a)]
def QbQ(a:Nd):Nat:=LN (List.replicate (V3 a) Z1)
def Qhm(a:Nd)(b:Nat):List D:=[ZI (GI (List.replicate (V3 a) Z1) b)]
def Qhn(a:Nd):List Int:=BH (QbQ a) fun i=>Qhm a i
def JM(a:Nd):Bool:=EF a
def JN(a:Nd):Prop:=True/\∃(_y:Unit),True/\false=JM a/\True/\True
def V5:List D:=[ZI 2]
def Qho:List (List D):=V5::QbP
def Qhp(a:Nat):List D:=List.getD Qho a []
def Qhq:List Int:=BH N2 fun i=>Qhp i
def Qhr(a:Nat):List D:=List.getD (V5::Zw::QbP) a []
def Qhs:List Int:=BH (3:Nat) fun i=>Qhr i
def Qht(a:Nat):List D:=List.getD [[ZI 3],V5] a []
def Qhu:List Int:=BH N2 fun i=>Qht i
def QbR(a:Nd):Bool:=bif V2 a != (2:Int) then true else V4 a != (3:Int)
def Qhv(a:Nd):Nd:=List.getD (Nd.ki a) N0 Yd
def Qhw(a:Nd):Bool:=Nd.kd (Qhv a)==17
def QbS(a:Nd):Int:=Nd.op (Qhv a)
def Qhx(a:Nd):Bool:=QbS a==7
def Qhy(a:Nd):Bool:=QbS a==8
def Qhz(a:Nd):Bool:=QbS a==9
def Zx(a:Nd):Bool:=bif Qhw a then bif bif Qhx a then true else Qhy a then true else Qhz a else false
def QhA(a:Nd):Prop:=true=Zx a/\True
def QhB(a:Nat):List D:=List.getD ([ZI 4]::Qho) a []
def QhC:List Int:=BH (3:Nat) fun i=>QhB i
def Zy:List (List D):=[V5,V5]
def QhD(a:Nat):List D:=List.getD ([ZI 4]::Zy) a []
def QhE:List Int:=BH (3:Nat) fun i=>QhD i
def QhF(a:Nat):List D:=List.getD Zy a []
def QhG:List Int:=BH N2 fun i=>QhF i
def QhH(a:Nd):Prop:=True/\∃(_y:Unit),True/\true=JM a/\True/\True
def QhI(a:Nat):List D:=List.getD (V5::Zy) a []
def QhJ:List Int:=BH (3:Nat) fun i=>QhI i
def QhK(a:Nat):List D:=List.getD (Zw::Zy) a []
def QhL:List Int:=BH (3:Nat) fun i=>QhK i
theorem Bl8(n:Nd)(h:n.ki.length<=maxLen):CD 100 [.agg n.row2] (.bool (EF n)):=by
 refine Bi (A:=sC _ _) (x:=()) (E:=Ecm n) (eOk (Bho h) rfl) Tryz.func100 rfl (by kernel_rfl) rfl (by simp[sC,Ecm,EC,E0]) ?_
 refine Bj (T :=
  ∀(x:Nat),True->SM x/\ifB (Vs n==3) (SM x/\ifB (QbN n) (SM x/\ifB (decide ((2:Int)<=V4 n)) (SM x/\ifB (decide (V4 n<=1000)) (SM x/\SM x/\(SM x/\SM (Qhi n))/\Qhk x n/\∃(x_1:Unit),(N2<=V3 n/\V3 n<=1000/\wkL (D.sl N1 N1 (fun i=>List.getD QbP i []) Mode.full::Qhl n) (D.sl N1 N1 (fun x=>Zw) Mode.full::Qhl n))/\∀(y:Unit),True->Qhk x n/\∃(x:Unit),(wkL [QS n,D.sl N1 (QbQ n) (fun i=>Qhm n i) Mode.any] [QS n,SI (Qhn n)]/\QbQ n<=9223372036854775807)/\∀(y:Unit),True->RT (BA n (Qhn n)=JM n)) (JN n)) (JN n)) (JN n)) (ifB (Vs n==4) (SM x/\ifB (QbN n) (SM x/\∃(x:Unit),(wkL [QS n,D.sl N1 N2 (fun i=>Qhp i) Mode.full] [QS n,SI Qhq]/\N2<=9223372036854775807)/\∀(y:Unit),True->RT (BA n Qhq=JM n)) (JN n)) (ifB (Vs n==5) (SM x/\ifB (QbN n) (SM x/\∃(x:Unit),(wkL [QS n,D.sl N1 (3:Nat) (fun i=>Qhr i) Mode.full] [QS n,SI Qhs]/\(3:Nat)<=9223372036854775807)/\∀(y:Unit),True->RT (BA n Qhs=JM n)) (JN n)) (ifB (Vs n==14) (SM x/\ifB (V2 n==2) (SM x/\∃(x:Unit),(wkL [QS n,D.sl N1 N2 (fun i=>Qht i) Mode.full] [QS n,SI Qhu]/\N2<=9223372036854775807)/\∀(y:Unit),True->RT (BA n Qhu=JM n)) (JN n)) (ifB (Vs n==15) ((SM x/\ifB (V2 n != (2:Int)) (true=QbR n/\True) (SM x/\(V4 n != (3:Int))=QbR n/\True))/\ifB (QbR n) (JN n) (SM x/\Bd (Z0<=Z0/\Z0<V4 n) (∀(x_1:Nat),x≠x_1/\True->SM x_1/\(SM x_1/\ifB (Qhw n) (SM x_1/\ifB (Qhx n) (QhA n) (SM x_1/\ifB (Qhy n) (QhA n) (SM x_1/\Qhz n=Zx n/\True))) (false=Zx n/\True))/\ifB (Zx n) (SM x/\∃(x:Unit),(wkL [QS n,D.sl N1 (3:Nat) (fun i=>QhB i) Mode.full] [QS n,SI QhC]/\(3:Nat)<=9223372036854775807)/\∀(y:Unit),True->RT (BA n QhC=JM n)) (SM x/\∃(x:Unit),(wkL [QS n,D.sl N1 (3:Nat) (fun i=>QhD i) Mode.full] [QS n,SI QhE]/\(3:Nat)<=9223372036854775807)/\∀(y:Unit),True->RT (BA n QhE=JM n))))) (ifB (Vs n==16) (SM x/\ifB (V2 n==2) (SM x/\∃(x_1:Unit),(wkL [QS n,D.sl N1 N2 (fun i=>QhF i) Mode.full] [QS n,SI QhG]/\N2<=9223372036854775807)/\∀(y:Unit),True->ifB (BA n QhG) (QhH n) (SM x/\∃(x_2:Unit),(wkL [QS n,D.sl N1 (3:Nat) (fun i=>QhI i) Mode.full] [QS n,SI QhJ]/\(3:Nat)<=9223372036854775807)/\∀(y:Unit),True->ifB (BA n QhJ) (QhH n) (SM x/\∃(x:Unit),(wkL [QS n,D.sl N1 (3:Nat) (fun i=>QhK i) Mode.full] [QS n,SI QhL]/\(3:Nat)<=9223372036854775807)/\∀(y:Unit),True->RT (BA n QhL=JM n)))) (JN n)) (JN n))))))) (by kernel_rfl) ?_
 delta DA GI LN N0 N1 N2 N4 NI SI SM Z0 Z1 ZI Vs V2 QbN V3 V4 QbO Yd Ks Zu QrL QrM Qhe Qhf Qhg Qhh Qhi Zv QrN QrO Qhj QS Qhk Zw QbP Qhl QbQ Qhm Qhn JM JN V5 Qho Qhp Qhq Qhr Qhs Qht Qhu QbR Qhv Qhw QbS Qhx Qhy Qhz Zx QhA QhB QhC Zy QhD QhE QhF QhG QhH QhI QhJ QhK QhL RT
 try simp only[<- dm]
 try simp only[<- dn]
 simp only[ne_eq,Bh,Bf,decide_eq_true_eq,decide_eq_false_iff_not,true_and,and_true,beq_iff_eq,bne_iff_ne,bne_eq_false_iff_eq,beq_eq_false_iff_ne,exists_const,forall_const]
 have i2:∀a b:Int,BH 2 (fun i=>[[D.int IntKind.i64 a],[D.int IntKind.i64 b]].getD i [])=[a,b]:=fun _ _=>rfl
 have i3:∀a b c:Int,BH 3 (fun i=>[[D.int IntKind.i64 a],[D.int IntKind.i64 b],[D.int IntKind.i64 c]].getD i [])=[a,b,c]:=fun _ _ _=>rfl
 have p2:∀a b:Int,IntsP 2 (fun i=>[[D.int IntKind.i64 a],[D.int IntKind.i64 b]].getD i []):=fun _ _ i hi=>by
  match i,hi with
  |0,_=>rfl
  |1,_=>rfl
 have p3:∀a b c:Int,IntsP 3 (fun i=>[[D.int IntKind.i64 a],[D.int IntKind.i64 b],[D.int IntKind.i64 c]].getD i []):=fun _ _ _ i hi=>by
  match i,hi with
  |0,_=>rfl
  |1,_=>rfl
  |2,_=>rfl
 have w1:wkL [D.sl 1 1 (fun i=>[[D.int IntKind.i64 1]].getD i []) Mode.full,D.int IntKind.i64 n.ki.length] [D.sl 1 1 (fun _=>[D.int IntKind.i64 1]) Mode.full,D.int IntKind.i64 n.ki.length]:=by
  simp only[wkL,wkD,Ba]
  refine⟨⟨by simp,by simp,fun i hi=>?_,by simp[BB]⟩,by simp[Bk,Ba,kEq],trivial⟩
  match i,hi with
  |0,_=>exact Bc _
 intro x
 repeat' (first | exact Bc _ | exact w1 | exact R3 (p2 _ _) | exact R3 (p3 _ _ _) | exact R3 (CF _) | refine And.intro ?_ ?_ | intro _)
 all_goals try simp only[Eg,i2,i3] at *
 clear w1 i2 i3 p2 p3
 all_goals first
  |omega
  |(simp only[List.length_replicate];omega)
  |(simp_all[EF];done)
  |exact BiF (by assumption) (by assumption)
  |exact Blq (by assumption) (by assumption) (by assumption)
  |exact Blt (by assumption) (by assumption) (by assumption)
  |(simp_all[EF];omega)
def BO(l:List Sm):List (List UInt8):=(l.filter fun s=>s.kd==2).map Sm.nm
theorem IF{l:List Sm}{i:Nat}(h:i<l.length):BO (l.take (i+1))=if (l.getD i default).kd=2 then BO (l.take i)++[(l.getD i default).nm] else BO (l.take i):=by
 rw[CE h]
 unfold BO
 rw[List.filter_append,List.map_append]
 generalize l.getD i default=x
 by_cases e:x.kd=2
 ·rw[if_pos e];simp[e]
 ·rw[if_neg e]
  simp[e]
theorem BcK{g:Bool}{l:List Sm}{i:Nat}(h:i<l.length):B5 g (BO (l.take i)) (l.drop i)=(IY g (BO (l.take i)) (l.getD i default)&&B5 g (BO (l.take (i+1))) (l.drop (i+1))):=by
 rw[Bt h,B5,IF h]
theorem Bdh{g:Bool}{names:List (List UInt8)}{l:List Sm}{i:Nat}(h:l.length<=i):B5 g names (l.drop i)=true:=by
 rw[List.drop_eq_nil_of_le h,B5]
theorem Bji(n:Nd)(k:Int):CD 97 [.agg n.row2,.int .i64 k] (.bool (G7 n k)):=by
 rw[<- BbN]
 exact Bj7 n.kd n.at_ n.cl n.tx n.pr n.op n.va.k _ _ _ _ _ _ _ _ _ _ n.de n.sl n.ss k
theorem Bix(n:Nd):CD 68 [.agg n.row2] (.bool (Iv n)):=by
 rw[<- BfH]
 exact BlK n.kd n.at_ n.cl n.tx n.pr n.op n.va.k _ _ _ _ _ _ _ _ _ _ n.de n.sl n.ss
def RNode(n:Nd):Prop:=CD 67 [.agg n.row2] (.bool (BR n))
def RBody(l:List Sm)(g:Bool):Prop:=CD 41 [gsl 34 Sm.row1 l,.bool g] (.bool (CA g l))
def Bhp(n:Nd):Con:=fun k ds S=>match k with
 |72=>match ds with
  | [_,.int .i64 q]=>some (pA ds S (.bool (Ec n.bo q)) (wkL ds [gsl 34 Sm.row1 n.bo,.int .i64 q]))
  |_=>none
 |41=>some (pA ds S (.bool (CA true n.bo)) (wkL ds [gsl 34 Sm.row1 n.bo,.bool true]))
 |_=>none
theorem U7{n:Nd}(h:n.sm):∀s∈n.bo,s.sm:=by
 cases n with
 |mk kd at_ cl tx pr op va ki bo de sl ss =>
  simp only[Nd.sm] at h
  exact (G8 _).1 h.2.2.2
theorem BhT{n:Nd}(hn:n.sm)(h:RBody n.bo true):ConOk Tryz.prog (Bhp n):=by
 intro k ds S A hh
 unfold Bhp at hh
 split at hh
 ·split at hh
  ·injection hh with hh;subst hh
   exact Bs fun e=>CD.at_ (CD.wk (Bks n.bo _ (Ci (EM hn).2.2) (U7 hn)) e) _
  ·cases hh
 ·injection hh with hh;subst hh
  exact Bs fun e=>CD.at_ (CD.wk h e) _
 ·cases hh
noncomputable def Ela(n:Nd):Senv:={ EC (Bhp n) 55 5 [26,34,35,40,41,47,48,51] (fun id=>match id with | 3=>([0,1,3,4,2,5,6,7],[2,5]) | _=>([],[])) with mg:=fun _=>2 }
def Vt(a:Nd):List Sm:=Nd.bo a
def QhM(a:Nd):Bool:=CA true (Vt a)
def QhN(a:Nd):Bool:=Tn a&&QhM a
def Vc(a:Nd):Prop:=True/\∃(_y:Unit),True/\false=QhN a/\True/\True
def QbT(a:Nd):Int:=(LI (Vt a))
def QbU(a:Nd):Int:=IntKind.wrap IntKind.i64 (QbT a-Z1)
def QbV:Arr:=DA
def Zz:Nd:=Nd.mk Z0 Z0 Z0 [] Z0 Z0 QbV [] [] Z0 Z0 Z0
def ZA:Sm:=Sm.mk Z0 Z0 [] Z0 Zz Zz
def V6(a:Nd)(b:Nat):Sm:=List.getD (Vt a) b ZA
def Kt(a:Nd)(b:Nat):Nd:=Sm.te (V6 a b)
def ZB(a:Nd)(b:Nat):Arr:=Nd.va (Kt a b)
def QrP(a:Nd)(b:Nat):List Int:=Arr.sh (ZB a b)
def QrQ(a:Nd)(b:Nat):List Int:=Arr.nu (ZB a b)
def QhO(a:Nd)(b:Nat):List Arr:=Arr.it (ZB a b)
def QhP(a:Nd)(b:Nat):List Nd:=Nd.ki (Kt a b)
def QhQ(a:Nd)(b:Nat):List Sm:=Nd.bo (Kt a b)
def Ku(a:Nd)(b:Nat):Nd:=Sm.nd (V6 a b)
def ZC(a:Nd)(b:Nat):Arr:=Nd.va (Ku a b)
def QrR(a:Nd)(b:Nat):List Int:=Arr.sh (ZC a b)
def QrS(a:Nd)(b:Nat):List Int:=Arr.nu (ZC a b)
def QhR(a:Nd)(b:Nat):List Arr:=Arr.it (ZC a b)
def QhS(a:Nd)(b:Nat):List Nd:=Nd.ki (Ku a b)
def QhT(a:Nd)(b:Nat):List Sm:=Nd.bo (Ku a b)
def ZD(a:Nd):D:=D.sl 34 (LN (Vt a)) (fun i=>[ZI (Sm.kd (V6 a i)),ZI (Sm.at_ (V6 a i)),D.str (Sm.nm (V6 a i)),ZI (Sm.sl (V6 a i)),ZI (Nd.kd (Kt a i)),ZI (Nd.at_ (Kt a i)),ZI (Nd.cl (Kt a i)),D.str (Nd.tx (Kt a i)),ZI (Nd.pr (Kt a i)),ZI (Nd.op (Kt a i)),ZI (Arr.k (ZB a i)),SI (QrP a i),SI (QrQ a i),D.sl N4 (LN (QhO a i)) (fun i_1=>Arr.row (List.getD (QhO a i) i_1 QbV)) Mode.any,D.sl 15 (LN (QhP a i)) (fun i_1=>Nd.row (List.getD (QhP a i) i_1 Zz)) Mode.any,D.sl 34 (LN (QhQ a i)) (fun i_1=>Sm.row (List.getD (QhQ a i) i_1 ZA)) Mode.any,ZI (Nd.de (Kt a i)),ZI (Nd.sl (Kt a i)),ZI (Nd.ss (Kt a i)),ZI (Nd.kd (Ku a i)),ZI (Nd.at_ (Ku a i)),ZI (Nd.cl (Ku a i)),D.str (Nd.tx (Ku a i)),ZI (Nd.pr (Ku a i)),ZI (Nd.op (Ku a i)),ZI (Arr.k (ZC a i)),SI (QrR a i),SI (QrS a i),D.sl N4 (LN (QhR a i)) (fun i_1=>Arr.row (List.getD (QhR a i) i_1 QbV)) Mode.any,D.sl 15 (LN (QhS a i)) (fun i_1=>Nd.row (List.getD (QhS a i) i_1 Zz)) Mode.any,D.sl 34 (LN (QhT a i)) (fun i_1=>Sm.row (List.getD (QhT a i) i_1 ZA)) Mode.any,ZI (Nd.de (Ku a i)),ZI (Nd.sl (Ku a i)),ZI (Nd.ss (Ku a i))]) Mode.any
def QhU(a:Nd):List D:=[ZD a,ZI 12]
def QhV(a:Nd):List D:=[ZD a,ZI 13]
def QhW(a:Nd):Bool:=Ec (Vt a) (12:Int)
def QhX(a:Nd):Bool:=Ec (Vt a) (13:Int)
def QhY(a:Nd):List D:=[ZD a,D.bool true]
def QhZ(a:Nat)(b:Nd):Prop:=SM a/\∃(_x:Unit),wkL (QhY b) (QhY b)/\∀(_y:Unit),True->True/\∃(_y:Unit),True/\QhM b=QhN b/\True/\True
def Qh0(a:Nd)(b:Nat):Prop:=ifB (QhX a) (Vc a) (QhZ b a)
theorem BjV(n:Nd)(hn:n.sm)(h:RBody n.bo true):CD 98 [.agg n.row2] (.bool (Tn n && CA true n.bo)) := by
  refine Bi (A := sC _ _) (x := ()) (E := Ela n) (eOk (BhT hn h) rfl) Tryz.func98 rfl (by kernel_rfl) rfl (by simp [sC,Ela,EC,E0]) ?_
  refine Bj (T :=
    ∀ (x:Nat),True->SM x/\ifB (decide (Z0 < (LI (Nd.ki n)))) (Vc n) (SM x/\ifB (QbT n == Z0) (Vc n) (SM x/\SM x/\Bd (Z0 <= QbU n/\QbU n < QbT n) (ifB (Sm.kd (List.getD (Vt n) (Int.toNat (QbU n)) ZA) != Z1) (Vc n) (SM x/\SM x/\∃ (x_1:Unit),wkL (QhU n) (QhU n)/\∀ (y:Unit),True->(SM x/\SM (ZD n))/\∃ (x_2:Unit),wkL (QhV n) (QhV n)/\∀ (y:Unit),True->SM x/\ifB (Nd.cl n == (2:Int)) (ifB (QhW n) (Vc n) (Qh0 n x)) (ifB (Nd.cl n == (3:Int)) (ifB (!QhW n) (Vc n) (Qh0 n x)) (ifB (Nd.cl n == (4:Int)) (ifB (!QhX n) (Vc n) (QhZ x n)) (Vc n)))))))) (by kernel_rfl) ?_
  delta DA GI LI LN N1 N4 SI SM Z0 Z1 ZI Vt QhM Kt ZB QrP QrQ QhO QhP QhQ Ku ZC QrR QhN QrS QhR QhS QhT ZD QhU QhV QhW QhX QhY Vc QhZ Qh0 QbT QbU QbV Zz ZA V6
  try simp only [<- dm]
  try simp only [<- dn]
  simp only [ne_eq,Bh,Bf,decide_eq_true_eq,decide_eq_false_iff_not,true_and,and_true,beq_iff_eq,bne_iff_ne,bne_eq_false_iff_eq,beq_eq_false_iff_ne,Bool.not_eq_true',Bool.not_eq_false',exists_const,forall_const]
  have e1:n.ki.isEmpty = (n.ki.length == 0) := by cases n.ki <;> rfl
  have e2:n.bo.isEmpty = (n.bo.length == 0) := by cases n.bo <;> rfl
  have hlen := (EM hn).2.2
  unfold BU at hlen
  by_cases hb:n.bo.length = 0
  · skip
    repeat' (first | exact Bc _ | refine And.intro ?_ ?_ | intro _)
    all_goals first
      | (exfalso; omega)
      | (unfold Tn; rw [e1,e2,hb]; simp; done)
  · have w:IntKind.i64.wrap ((n.bo.length:Int) - 1) = ((n.bo.length - 1:Nat):Int) := by rw [Be (by omega) (by omega)]; omega
    simp only [w,Int.toNat_natCast]
    have e3:(n.bo.length == 0) = false := by simpa using hb
    repeat' (first | exact Bc _ | refine And.intro ?_ ?_ | intro _)
    all_goals first
      | omega
      | (unfold Tn; rw [e1,e2,e3]; simp_all; done)
      | (have h9 : n.ki.isEmpty = false := by rw [e1, beq_eq_false_iff_ne]; omega
         unfold Tn; rw [h9]; simp; done)
def BgB(n:Nd):Con:=fun k ds S=>match k with
 |97=>match ds with
  | [_,.int .i64 q]=>some (pA ds S (.bool (G7 n q)) (isN2 n ds [.int .i64 q]))
  |_=>none
 |98=>some (pA ds S (.bool (Tn n&&CA true n.bo)) (isN2 n ds []))
 |99=>some (pA ds S (.bool (GD n)) (isN2 n ds []))
 |100=>some (pA ds S (.bool (EF n)) (isN2 n ds []))
 |55=>some (pA ds S (.bool (n.ki.any fun b=>!BR b)) (wkL ds [gsl 15 Nd.row1 n.ki,.fn (.func 101) [] []]))
 |_=>none
def Bj4(b:Nd):Con:=fun k ds S=>match k with
 |67=>some (pA ds S (.bool (BR b)) (isN b ds []))
 |_=>none
noncomputable def En1(b:Nd):Senv:=EC (Bj4 b) 6 3 [] (fun _=>([],[]))
def ZE(a:Nd):Arr:=Nd.va a
def QrT(a:Nd):List Int:=Arr.sh (ZE a)
def QrU(a:Nd):List Int:=Arr.nu (ZE a)
def Qh1(a:Nd):List Arr:=Arr.it (ZE a)
def Qh2:Arr:=DA
def QbW:Nd:=Nd.mk Z0 Z0 Z0 [] Z0 Z0 Qh2 [] [] Z0 Z0 Z0
theorem BlC(b:Nd)(h:RNode b):CS 101 [.agg b.row1] ⟨[],[]⟩ (.bool (!BR b)):=by
 refine CS.of (Bi (A:=sS _ _ _) (x:=()) (E:=En1 b) (eOk ?_ rfl) Tryz.func101 rfl (by kernel_rfl) rfl (by simp[sS,En1,EC,E0]) ?_)
 ·intro k ds S A hh
  try unfold Bj4 at hh
  try dsimp only at hh
  split at hh
  ·injection hh with hh;subst hh
   exact Bs fun e=>CD.at_ (CD.isN h e) _
  ·cases hh
 refine Bj (T :=
  ∀(x:Nat),True->SM x/\∃(x:Unit),isN b [D.agg [ZI (Nd.kd b),ZI (Nd.at_ b),ZI (Nd.cl b),D.str (Nd.tx b),ZI (Nd.pr b),ZI (Nd.op b),ZI (Arr.k (ZE b)),SI (QrT b),SI (QrU b),D.sl N4 (LN (Qh1 b)) (fun i=>Arr.row (List.getD (Qh1 b) i Qh2)) Mode.any,D.sl 15 (LN (Nd.ki b)) (fun i=>Nd.row (List.getD (Nd.ki b) i QbW)) Mode.any,D.sl 34 (LN (Nd.bo b)) (fun i=>Sm.row (List.getD (Nd.bo b) i (Sm.mk Z0 Z0 [] Z0 QbW QbW))) Mode.any,ZI (Nd.de b),ZI (Nd.sl b),ZI (Nd.ss b)]] []/\∀(y:Unit),True->RT ((!BR b)=!BR b)) (by kernel_rfl) ?_
 delta DA GI LN N1 N4 SI SM Z0 ZI ZE QrT QrU Qh1 Qh2 QbW RT
 try simp only[<- dm]
 try simp only[<- dn]
 simp only[implies_true,true_and,and_true,exists_const,forall_const]
 first
  |exact B1 _ _
  |exact fun _=>B1 _ _
theorem BgZ{n:Nd}(hn:n.sm)(ho:n.va.ok)(h1:RBody n.bo true)(h2:∀b∈n.ki,RNode b):ConOk Tryz.prog (BgB n):=by
 intro k ds S A hh
 have hl:=Ci (EM hn).2.1
 unfold BgB at hh
 split at hh
 ·split at hh
  ·injection hh with hh;subst hh
   exact Bs fun e=>CD.at_ (CD.wk (Bji n _) e) _
  ·cases hh
 ·injection hh with hh;subst hh
  exact Bs fun e=>CD.at_ (CD.wk (BjV n hn h1) e) _
 ·injection hh with hh;subst hh
  exact Bs fun e=>CD.at_ (CD.wk (Bme n ho) e) _
 ·injection hh with hh;subst hh
  exact Bs fun e=>CD.at_ (CD.wk (Bl8 n hl) e) _
 ·injection hh with hh;subst hh
  exact Bs fun e=>CD.at_ (CD.wk (CS.cd (Nxc_ok n.ki (fun b=>!BR b) (fun b hb=>BlC b (h2 b hb)) hl)) e) _
 ·cases hh
noncomputable def End(n:Nd):Senv:=EC (BgB n) 25 3 [7,10] (fun _=>([],[]))
def ZF(a:Nd):Arr:=Nd.va a
def QrV(a:Nd):List Int:=Arr.sh (ZF a)
def QrW(a:Nd):List Int:=Arr.nu (ZF a)
def Qh3(a:Nd):List Arr:=Arr.it (ZF a)
def Qh4:Arr:=DA
def QbX:Nd:=Nd.mk Z0 Z0 Z0 [] Z0 Z0 Qh4 [] [] Z0 Z0 Z0
def Qh5(a:Nd):D:=D.sl 15 (LN (Nd.ki a)) (fun i=>Nd.row1 (List.getD (Nd.ki a) i QbX)) Mode.any
def Qh6(a:Nd):D:=D.agg [ZI (Nd.kd a),ZI (Nd.at_ a),ZI (Nd.cl a),D.str (Nd.tx a),ZI (Nd.pr a),ZI (Nd.op a),ZI (Arr.k (ZF a)),SI (QrV a),SI (QrW a),D.sl N4 (LN (Qh3 a)) (fun i=>Arr.row (List.getD (Qh3 a) i Qh4)) Mode.any,Qh5 a,D.sl 34 (LN (Nd.bo a)) (fun i=>Sm.row1 (List.getD (Nd.bo a) i (Sm.mk Z0 Z0 [] Z0 QbX QbX))) Mode.any,ZI (Nd.de a),ZI (Nd.sl a),ZI (Nd.ss a)]
def Ye(a:Nd):Bool:=BR a
def Qh7(a:Nd):Prop:=True/\∃(_y:Unit),True/\false=Ye a/\True/\True
def QbY(a:Nd):Prop:=isN2 a [Qh6 a] []
def Qh8(a:Nd):List D:=[Qh5 a,D.fn (Fn.func (101:Nat)) [] []]
theorem Bjz(n:Nd)(hn:n.sm)(ho:n.va.ok)(h1:RBody n.bo true)(h2:∀b∈n.ki,RNode b):RNode n:=by
 refine Bi (A:=sC _ _) (x:=()) (E:=End n) (eOk (BgZ hn ho h1 h2) rfl) Tryz.func67 rfl (by kernel_rfl) rfl (by simp[sC,End,EC,E0]) ?_
 refine Bj (T :=
  ∀(x:Nat),True->SM x/\SM x/\∃(x_1:Unit),isN2 n [Qh6 n,ZI (Nd.kd n)] [ZI (Nd.kd n)]/\∀(y:Unit),True->ifB (!G7 n (Nd.kd n)) (Qh7 n) (SM x/\ifB (Nd.kd n==10) (SM x/\∃(x:Unit),QbY n/\∀(y:Unit),True->RT ((Tn n&&CA true (Nd.bo n))=Ye n)) (SM x/\∃(x_2:Unit),QbY n/\∀(y:Unit),True->ifB (GD n) (RT (true=Ye n)) (SM x/\∃(x_3:Unit),QbY n/\∀(y:Unit),True->ifB (EF n) (SM x/\∃(x:Unit),wkL (Qh8 n) (Qh8 n)/\∀(y:Unit),True->RT ((!List.any (Nd.ki n) fun (b:Nd)=>!Ye b)=Ye n)) (Qh7 n))))) (by kernel_rfl) ?_
 delta DA GI LN N1 N4 SI SM Z0 ZI ZF QrV QrW Qh3 Qh4 QbX Qh5 Qh6 Ye Qh7 QbY Qh8 RT
 try simp only[<- dm]
 try simp only[<- dn]
 simp only[ne_eq,Bh,true_and,and_true,beq_iff_eq,beq_eq_false_iff_ne,Bool.not_eq_true',Bool.not_eq_false',exists_const,forall_const]
 have e:n.ki.all BR=!(n.ki.any fun b=>!BR b):=List.all_eq_not_any_not
 rw[OG,e]
 repeat' (first | exact U3 n _ | exact Bc _ | refine And.intro ?_ ?_ | intro _)
 all_goals first
  |(simp_all;done)
def Bcy(prs:List (List UInt8×Int))(names:List (List UInt8)):Prop:=∀s,(EV prs s).getD 0=(names.count s:Int)
theorem UW(nm:List UInt8)(v:Int):∀(l:List (List UInt8×Int)) (s:List UInt8),EV (TQ l nm v) s=if nm=s then some v else EV l s
 | [],s=>by
  simp only[TQ,EV]
 |(t,n)::r,s=>by
  simp only[TQ]
  by_cases e:t=nm
  ·rw[if_pos e]
   simp only[EV,e]
   by_cases e2:nm=s
   ·rw[if_pos e2,if_pos e2]
   ·rw[if_neg e2,if_neg e2,if_neg e2]
  ·rw[if_neg e]
   simp only[EV,UW nm v r s]
   by_cases e2:t=s
   ·rw[if_pos e2,if_pos e2,if_neg (fun e3=>e (e2.trans e3.symm))]
   ·rw[if_neg e2,if_neg e2]
theorem BgR{prs:List (List UInt8×Int)}{names:List (List UInt8)}(h:Bcy prs names)(nm:List UInt8):Bcy (TQ prs nm ((EV prs nm).getD 0+1)) (names++[nm]):=by
 intro s
 rw[UW,List.count_append,h nm]
 by_cases e:nm=s
 ·subst e
  rw[if_pos rfl]
  simp
 ·rw[if_neg e,h s]
  simp[e]
theorem BgD{prs:List (List UInt8×Int)}{names:List (List UInt8)}(h:Bcy prs names)(nm:List UInt8):((EV prs nm).getD 0+1=1)↔names.contains nm=false:=by
 rw[h nm]
 constructor
 ·intro e
  have:names.count nm=0:=by omega
  simpa using List.count_eq_zero.1 this
 ·intro e
  have:names.count nm=0:=List.count_eq_zero.2 (by simpa using e)
  omega
def BgC:Con:=fun k ds S=>match k with
 |67=>some (pE (β:=Nd) ds S (fun b=>.bool (BR b)) (fun b=>isN b ds []/\RNode b))
 |68=>some (pE (β:=Nd) ds S (fun b=>.bool (Iv b)) (fun b=>isN b ds []))
 |69=>match ds with
  | [.str s]=>some (pA ds S (.bool (Em s)) True)
  |_=>none
 |_=>none
theorem Bh9:ConOk Tryz.prog BgC:=by
 intro k ds S A hh
 unfold BgC at hh
 split at hh
 ·injection hh with hh;subst hh
  exact Cl fun b ⟨e,h⟩=>CD.at_ (CD.isN h e) _
 ·injection hh with hh;subst hh
  exact Cl fun b e=>CD.at_ (CD.isN (Bix b) e) _
 ·split at hh
  ·injection hh with hh;subst hh
   exact Bs fun _=>CD.at_ (BkB _) _
  ·cases hh
 ·cases hh
structure BoI (l:List Sm) (g:Bool) (i:Nat) (r:Bool) (prs:List (List UInt8×Int)):Prop where
 le:i<=l.length
 cnt:r=true->Bcy prs (BO (l.take i))
 tot:CA g l=(r&&B5 g (BO (l.take i)) (l.drop i))
noncomputable def Ebo(l:List Sm)(g:Bool):Senv:={ EC BgC 128 2 [4,5,6,8,9,14,15,16,17,32,37,38,57,98] (fun _=>([],[])) with
 mg:=fun _=>2
 ann:=fun b env _S=>match b with
  |0=>match Ab.look env 6 with
   |.map _k x=>some { slots:=[16,5],keep:=[0,1,6,14,15],α:=Nat×Bool×List (List UInt8×Int),st:=fun y=>([.int .i64 y.1,.bool y.2.1],⟨[(0,x,.amap .i64 y.2.2)],[]⟩),inv:=fun y=>BoI l g y.1 y.2.1 y.2.2,mu:=fun y=>l.length-y.1 }
   |_=>none
  |_=>none }
def Vu(a:List Sm)(b:Bool)(c:Nat)(d:Bool)(e:List (List UInt8×Int)):Prop:=BoI a b c d e
def Yf:Arr:=DA
def V7:Nd:=Nd.mk Z0 Z0 Z0 [] Z0 Z0 Yf [] [] Z0 Z0 Z0
def V8:Sm:=Sm.mk Z0 Z0 [] Z0 V7 V7
def V9(a:List Sm)(b:Nat):Sm:=List.getD a (Int.toNat (↑b:Int)) V8
def Kv(a:List Sm)(b:Nat):Nd:=Sm.nd (V9 a b)
def Qh9(a:List Sm)(b:Nat):Int:=Nd.kd (Kv a b)
def QbZ(a:List Sm)(b:Nat):Int:=Nd.cl (Kv a b)
def ZG(a:List Sm)(b:Nat):Arr:=Nd.va (Kv a b)
def QrX(a:List Sm)(b:Nat):List Int:=Arr.sh (ZG a b)
def QrY(a:List Sm)(b:Nat):List Int:=Arr.nu (ZG a b)
def Qia(a:List Sm)(b:Nat):List Arr:=Arr.it (ZG a b)
def Qib(a:List Sm)(b:Nat):List Nd:=Nd.ki (Kv a b)
def Qic(a:List Sm)(b:Nat):List Sm:=Nd.bo (Kv a b)
def Qb0(a:List Sm)(b:Nat):Int:=Sm.kd (V9 a b)
def Qb1(a:List Sm)(b:Nat):Bool:=QbZ a b==Z1
def Yg(a:List Sm)(b:Nat):List UInt8:=Sm.nm (V9 a b)
def Qid(a:List Sm)(b:Nat):Bool:=Yg a b==[]
def Qie(a:List Sm)(b:Nat):Int:=Sm.sl (V9 a b)
def Qif(a:List Sm)(b:Nat):Bool:=Qie a b==Z0
def Kw(a:List Sm)(b:Nat):Nd:=Sm.te (V9 a b)
def Qig(a:List Sm)(b:Nat):Int:=Nd.cl (Kw a b)
def ZH(a:List Sm)(b:Nat):Arr:=Nd.va (Kw a b)
def QrZ(a:List Sm)(b:Nat):List Int:=Arr.sh (ZH a b)
def Qr0(a:List Sm)(b:Nat):List Int:=Arr.nu (ZH a b)
def Qih(a:List Sm)(b:Nat):List Arr:=Arr.it (ZH a b)
def Qii(a:List Sm)(b:Nat):List Nd:=Nd.ki (Kw a b)
def Qij(a:List Sm)(b:Nat):List Sm:=Nd.bo (Kw a b)
def Qb2(a:Nd)(b:List Sm)(c:Nat):Prop:=isN a [D.agg [ZI (Nd.kd (Kw b c)),ZI (Nd.at_ (Kw b c)),ZI (Qig b c),D.str (Nd.tx (Kw b c)),ZI (Nd.pr (Kw b c)),ZI (Nd.op (Kw b c)),ZI (Arr.k (ZH b c)),SI (QrZ b c),SI (Qr0 b c),D.sl N4 (LN (Qih b c)) (fun i=>Arr.row (List.getD (Qih b c) i Yf)) Mode.any,D.sl 15 (LN (Qii b c)) (fun i=>Nd.row (List.getD (Qii b c) i V7)) Mode.any,D.sl 34 (LN (Qij b c)) (fun i=>Sm.row (List.getD (Qij b c) i V8)) Mode.any,ZI (Nd.de (Kw b c)),ZI (Nd.sl (Kw b c)),ZI (Nd.ss (Kw b c))]] []
def Xa(a:List Sm)(b:Nat):Sm:=List.getD a b V8
def Kx(a:List Sm)(b:Nat):Nd:=Sm.te (Xa a b)
def ZJ(a:List Sm)(b:Nat):Arr:=Nd.va (Kx a b)
def Qr1(a:List Sm)(b:Nat):List Int:=Arr.sh (ZJ a b)
def Qr2(a:List Sm)(b:Nat):List Int:=Arr.nu (ZJ a b)
def Qik(a:List Sm)(b:Nat):List Arr:=Arr.it (ZJ a b)
def Qil(a:List Sm)(b:Nat):List Nd:=Nd.ki (Kx a b)
def Qim(a:List Sm)(b:Nat):List Sm:=Nd.bo (Kx a b)
def Ky(a:List Sm)(b:Nat):Nd:=Sm.nd (Xa a b)
def ZK(a:List Sm)(b:Nat):Arr:=Nd.va (Ky a b)
def Qr3(a:List Sm)(b:Nat):List Int:=Arr.sh (ZK a b)
def Qr4(a:List Sm)(b:Nat):List Int:=Arr.nu (ZK a b)
def Qin(a:List Sm)(b:Nat):List Arr:=Arr.it (ZK a b)
def Qio(a:List Sm)(b:Nat):List Nd:=Nd.ki (Ky a b)
def Qip(a:List Sm)(b:Nat):List Sm:=Nd.bo (Ky a b)
def Qr5(a:List Sm):D:=D.sl 34 (LN a) (fun i=>[ZI (Sm.kd (Xa a i)),ZI (Sm.at_ (Xa a i)),D.str (Sm.nm (Xa a i)),ZI (Sm.sl (Xa a i)),ZI (Nd.kd (Kx a i)),ZI (Nd.at_ (Kx a i)),ZI (Nd.cl (Kx a i)),D.str (Nd.tx (Kx a i)),ZI (Nd.pr (Kx a i)),ZI (Nd.op (Kx a i)),ZI (Arr.k (ZJ a i)),SI (Qr1 a i),SI (Qr2 a i),D.sl N4 (LN (Qik a i)) (fun i_1=>Arr.row (List.getD (Qik a i) i_1 Yf)) Mode.any,D.sl 15 (LN (Qil a i)) (fun i_1=>Nd.row (List.getD (Qil a i) i_1 V7)) Mode.any,D.sl 34 (LN (Qim a i)) (fun i_1=>Sm.row (List.getD (Qim a i) i_1 V8)) Mode.any,ZI (Nd.de (Kx a i)),ZI (Nd.sl (Kx a i)),ZI (Nd.ss (Kx a i)),ZI (Nd.kd (Ky a i)),ZI (Nd.at_ (Ky a i)),ZI (Nd.cl (Ky a i)),D.str (Nd.tx (Ky a i)),ZI (Nd.pr (Ky a i)),ZI (Nd.op (Ky a i)),ZI (Arr.k (ZK a i)),SI (Qr3 a i),SI (Qr4 a i),D.sl N4 (LN (Qin a i)) (fun i_1=>Arr.row (List.getD (Qin a i) i_1 Yf)) Mode.any,D.sl 15 (LN (Qio a i)) (fun i_1=>Nd.row (List.getD (Qio a i) i_1 V7)) Mode.any,D.sl 34 (LN (Qip a i)) (fun i_1=>Sm.row (List.getD (Qip a i) i_1 V8)) Mode.any,ZI (Nd.de (Ky a i)),ZI (Nd.sl (Ky a i)),ZI (Nd.ss (Ky a i))]) Mode.any
def Qiq(a:List Sm):Prop:=SM (Qr5 a)
def Yh(a:List Sm)(b:Bool)(c:Nat):Prop:=Qiq a/\SM (D.bool b)/\SM (D.map N0 c)/\Qiq a/\SM (ZI (LI a))/\True
def ZL(a b:Nat):Prop:=IntKind.wrap IntKind.i64 ((↑a:Int)+Z1)=(↑b:Int)
def Qir(a b:Nat)(c:Nd)(d:Bool):Prop:=ZL a b/\Iv c=d/\True
def JO(a:List Sm)(b:Bool)(c d:Nat)(e:List (List UInt8×Int)):Prop:=Yh a b c/\∃(y:Nat×Bool×List (List UInt8×Int)),Vu a b y.1 y.2.1 y.2.2/\LN a-y.1<LN a-d/\(ZL d y.1/\false=y.2.1/\True)/\(SM c/\e=y.2.2/\True)/\True
def Qis(a:List (List UInt8×Int))(b:List Sm)(c:Nat):List (List UInt8×Int):=TQ a (Yg b c) (IntKind.wrap IntKind.i64 (Option.getD (EV a (Yg b c)) Z0+Z1))
def Qit(a:Nat)(b:List (List UInt8×Int))(c:List Sm)(d:Nat)(e:List (List UInt8×Int)):Prop:=(SM a/\Qis b c d=e/\True)/\True
def ZM(a:List Sm)(b:Bool)(c d:Nat)(e:List (List UInt8×Int)):Prop:=Yh a b c/\∃(y:Nat×Bool×List (List UInt8×Int)),Vu a b y.1 y.2.1 y.2.2/\LN a-y.1<LN a-d/\(ZL d y.1/\false=y.2.1/\True)/\Qit c e a d y.2.2
def Qb3(a:Nat)(b:List Sm)(c:Nat)(d:Bool)(e:Nat)(f:List (List UInt8×Int)):Prop:=SM a/\ifB (decide (Z0<=Qie b c)) (SM a/\∃(x:Nd),Qb2 x b c/\∀(_y:Unit),True->Yh b d e/\∃(y:Nat×Bool×List (List UInt8×Int)),Vu b d y.1 y.2.1 y.2.2/\LN b-y.1<LN b-c/\Qir c y.1 x y.2.1/\Qit e f b c y.2.2) (ZM b d e c f)
def Qiu(a:Bool)(b:List Sm):Prop:=True/\∃(_y:Unit),True/\false=CA a b/\True/\True
theorem BdZ(l:List Sm)(g:Bool)(hl:l.length<=BU)(h:∀s∈l,RNode s.nd/\RNode s.te):RBody l g:=by
 refine Bi (A:=sC _ _) (x:=()) (E:=Ebo l g) (eOk Bh9 rfl) Tryz.func41 rfl (by kernel_rfl) rfl (by simp[sC,Ebo,EC,E0]) ?_
 refine Bj (T :=
  ∀(y:Nat),True->(∃(x:Nat×Bool×List (List UInt8×Int)),Vu l g x.1 x.2.1 x.2.2/\(Z0=(NI x.1)/\decide ((LI l)<=1000)=x.2.1/\True)/\(SM y/\Cw (List (List UInt8×Int)) [] x.2.2/\True)/\True)/\∀(x:Nat×Bool×List (List UInt8×Int)),Vu l g x.1 x.2.1 x.2.2->ifB (decide ((NI x.1)<(LI l))) (Bd (Z0<=(NI x.1)/\(NI x.1)<(LI l)) (∀(x_1:Nat),y≠x_1/\True->SM x_1/\ifB x.2.1 (SM x_1/\ifB (decide (Z0<=Sm.at_ (V9 l x.1))) (SM x_1/\∃(x_2:Nd),(isN x_2 [D.agg [ZI (Qh9 l x.1),ZI (Nd.at_ (Kv l x.1)),ZI (QbZ l x.1),D.str (Nd.tx (Kv l x.1)),ZI (Nd.pr (Kv l x.1)),ZI (Nd.op (Kv l x.1)),ZI (Arr.k (ZG l x.1)),SI (QrX l x.1),SI (QrY l x.1),D.sl N4 (LN (Qia l x.1)) (fun i=>Arr.row (List.getD (Qia l x.1) i Yf)) Mode.any,D.sl 15 (LN (Qib l x.1)) (fun i=>Nd.row (List.getD (Qib l x.1) i V7)) Mode.any,D.sl 34 (LN (Qic l x.1)) (fun i=>Sm.row (List.getD (Qic l x.1) i V8)) Mode.any,ZI (Nd.de (Kv l x.1)),ZI (Nd.sl (Kv l x.1)),ZI (Nd.ss (Kv l x.1))]] []/\RNode x_2)/\∀(y_1:Unit),True->ifB (!BR x_2) (RT (BR x_2=CA g l)) (SM x_1/\SM x_1/\ifB (Qb0 l x.1==Z1) (ifB (Qb1 l x.1) (SM x_1/\ifB (Qid l x.1) (SM x_1/\ifB (Qif l x.1) (SM x_1/\∃(x_3:Nd),Qb2 x_3 l x.1/\∀(y_2:Unit),True->Yh l g y/\∃(y_3:Nat×Bool×List (List UInt8×Int)),Vu l g y_3.1 y_3.2.1 y_3.2.2/\LN l-y_3.1<LN l-x.1/\Qir x.1 y_3.1 x_3 y_3.2.1/\(SM y/\x.2.2=y_3.2.2/\True)/\True) (JO l g y x.1 x.2.2)) (JO l g y x.1 x.2.2)) (JO l g y x.1 x.2.2)) (ifB (Qb0 l x.1==2) (SM x_1/\SM y/\SM y/\SM x_1/\∃(x_3:Unit),True/\∀(y_2:Unit),True->ifB (Em (Yg l x.1)) (SM x_1/\SM y/\ifB (Option.getD (EV (Qis x.2.2 l x.1) (Yg l x.1)) Z0==Z1) (ifB (Qb1 l x.1) (Qb3 x_1 l x.1 g y x.2.2) (ifB (QbZ l x.1==2) (Qb3 x_1 l x.1 g y x.2.2) (SM x_1/\ifB (Qh9 l x.1==10) (Qb3 x_1 l x.1 g y x.2.2) (ZM l g y x.1 x.2.2)))) (ZM l g y x.1 x.2.2)) (ZM l g y x.1 x.2.2)) (ifB (Qb0 l x.1==3) (ifB g (SM x_1/\∃(x_3:Nd),(Qb2 x_3 l x.1/\RNode x_3)/\∀(y_2:Unit),True->ifB (BR x_3) (SM x_1/\ifB (Qig l x.1==Z1) (ifB (Qb1 l x.1) (SM x_1/\ifB (Qid l x.1) (SM x_1/\Yh l g y/\∃(y_3:Nat×Bool×List (List UInt8×Int)),Vu l g y_3.1 y_3.2.1 y_3.2.2/\LN l-y_3.1<LN l-x.1/\(ZL x.1 y_3.1/\Qif l x.1=y_3.2.1/\True)/\(SM y/\x.2.2=y_3.2.2/\True)/\True) (JO l g y x.1 x.2.2)) (JO l g y x.1 x.2.2)) (JO l g y x.1 x.2.2)) (JO l g y x.1 x.2.2)) (JO l g y x.1 x.2.2)) (JO l g y x.1 x.2.2))))) (Qiu g l)) (Qiu g l))) (RT (x.2.1=CA g l))) (by kernel_rfl) ?_
 delta DA GI LI LN N0 N1 N4 NI SI SM Z0 Z1 ZI Vu Yf QrY Qia Qib Qic Qb0 Qb1 Yg Qid Qie Qif V7 Kw Qig ZH QrZ Qr0 Qih Qii Qij Qb2 Xa V8 Kx ZJ Qr1 Qr2 Qik Qil Qim Ky ZK Qr3 V9 Qr4 Qin Qio Qip Qr5 Qiq Yh ZL Qir JO Kv Qis Qit ZM Qb3 Qiu Qh9 QbZ ZG QrX RT
 try simp only[<- dm]
 try simp only[<- dn]
 simp only[ne_eq,Int.toNat_natCast,Bh,Bf,decide_eq_true_eq,decide_eq_false_iff_not,true_and,and_true,beq_iff_eq,beq_eq_false_iff_ne,Bool.not_eq_true',Bool.not_eq_false',exists_const,forall_const,Prod.exists]
 intro y
 unfold BU at hl
 have hnd1:(decide ((l.length:Int)<=1000))=decide (l.length<=1000):=decide_eq_decide.2 (by omega)
 refine⟨⟨0,decide ((l.length:Int)<=1000),[],⟨Nat.zero_le _,fun _ s=>by simp[EV,BO],?_⟩,⟨rfl,rfl⟩,rfl⟩,?_⟩
 ·rw[hnd1]
  rfl
 rintro ⟨i,r,prs⟩ hI
 simp only at hI ⊢
 refine⟨fun hlt=>⟨⟨by omega,hlt⟩,fun z _=>?_⟩,fun hge=>?_⟩
 ·have hlt':i<l.length:=by omega
  have hm:=E6 hlt'
  have hnm:=IF hlt'
  obtain ⟨hnd,hte⟩:=h _ hm
  have tot:=hI.tot
  rw[BcK hlt',Om] at tot
  have w:IntKind.i64.wrap ((i:Int)+1)=((i+1:Nat):Int):=by rw[Be (by omega) (by omega)];rfl
  have go : ∀(r2 : Bool) (prs2 : List (List UInt8×Int)), (r2=true -> Bcy prs2 (BO (l.take (i+1)))) -> CA g l=(r2&&B5 g (BO (l.take (i+1))) (l.drop (i+1))) ->
    ∃a a_1 b,BoI l g a a_1 b/\l.length-a<l.length-i/\(IntKind.i64.wrap ((i:Int)+1)=(a:Int)/\r2=a_1)/\prs2=b:=fun r2 prs2 c1 c2 =>
   ⟨i+1,r2,prs2,⟨hlt',c1,c2⟩,by omega,⟨w,rfl⟩,rfl⟩
  have hcount:∀nm,(BO (l.take i)).count nm<=8589934592:=fun nm=>by
   have h1:=List.count_le_length (a:=nm) (l:=BO (l.take i))
   have h2:(BO (l.take i)).length<=(l.take i).length:=by
    unfold BO
    rw[List.length_map]
    exact List.length_filter_le _ _
   rw[List.length_take] at h2
   omega
  generalize B5 g (BO (l.take (i+1))) (l.drop (i+1))=rest at tot go
  generalize hs:l.getD i default=s at *
  cases r with
  |false =>
   simp only[Bool.false_and] at tot
   simp[tot]
  |true =>
   have hc:=hI.cnt rfl
   have wc:IntKind.i64.wrap ((EV prs s.nm).getD 0+1)=(EV prs s.nm).getD 0+1:=by
    have:=hcount s.nm
    rw[hc s.nm]
    exact Be (by omega) (by omega)
   have one:=BgD hc s.nm
   have put:=BgR hc s.nm
   simp only[wc,UW,if_true,Option.getD_some,one]
   have c1:s.kd≠2->Bcy prs (BO (l.take (i+1))):=fun e=>by rw[hnm,if_neg e];exact hc
   have c2:s.kd=2->Bcy (TQ prs s.nm ((EV prs s.nm).getD 0+1)) (BO (l.take (i+1))):=fun e=>by rw[hnm,if_pos e];exact put
   clear hs hI hm h hc put
   repeat' (first
    |exact fun _=>c1 (by omega)
    |exact fun _=>c2 (by assumption)
    |refine⟨s.nd,⟨B1 _ _,hnd⟩,?_⟩
    |refine⟨s.te,⟨B1 _ _,hte⟩,?_⟩
    |refine⟨s.te,B1 _ _,?_⟩
    |refine go _ _ ?_ ?_
    |refine And.intro ?_ ?_
    |intro _)
   all_goals first
    |(clear c1 c2 hnm go;rw[tot];simp_all;done)
    |(clear c1 c2 hnm go;rw[tot];simp_all;omega)
    |trace_state
 ·have e:i=l.length:=by have:=hI.le;omega
  have tot:=hI.tot
  rw[e,Bdh (Nat.le_refl _),Bool.and_true] at tot
  exact tot.symm
def MR(s:Int)(k:Nat):Int:=if s+(k:Int)<=16385 then s+(k:Int) else 16385
theorem Bhk{l:List Nd}{i:Nat}(h:i<l.length):szL (l.take (i+1))=szL (l.take i)+szN (l.getD i default):=by
 rw[CE h,M8]
 simp only[szL]
 omega
theorem Bbf(l:List Nd)(i:Nat):szL (l.take i)<=szL l:=by
 have h:=M8 (l.take i) (l.drop i)
 rw[List.take_append_drop] at h
 omega
def Bjj(xs xc:Nat)(s:Int):St:=⟨[(2,xc,.cells [.fn (.func 66) [] [.ref 1 xs 0,.ref 2 xc 0]]),(1,xs,.cells [.int .i64 s])],[]⟩
def sSz(xs xc:Nat)(q:Nd×Int->Prop):FnSpec where
 β:=Nd×Int
 α:=Unit
 args:=fun y=>[.agg y.1.row1,.ref 1 xs 0,.ref 2 xc 0]
 st:=fun y=>Bjj xs xc y.2
 pre:=q
 post:=fun _ _=>True
 res:=fun _ _=>.ret (.tup [])
 out:=fun y _=>Bjj xs xc (MR y.2 (szN y.1))
def Te(xs xc:Nat):FnSpec where
 β:=Nd×Int
 α:=Unit
 args:=fun y=>[.agg y.1.row2,.ref 1 xs 0,.ref 2 xc 0]
 st:=fun y=>Bjj xs xc y.2
 pre:=fun _=>True
 post:=fun _ _=>True
 res:=fun _ _=>.ret (.tup [])
 out:=fun y _=>Bjj xs xc (MR y.2 (szN y.1))
def Bgg(xs xc:Nat)(n:Nd):Con:=fun k ds S=>match k with
 |64=>some (pA ds S (gsl 15 Nd.row1 (BK n)) (isN2 n ds []))
 |66=>some (sSz xs xc (fun y=>y.1∈BK n/\0<=y.2/\y.2<=16384))
 |_=>none
noncomputable def Esz1(xs xc:Nat)(n:Nd)(s:Int):Senv:={ EC (Bgg xs xc n) 21 4 [5,9,10,11,12,16] (fun _=>([],[])) with
 ann:=fun b _ _S=>match b with
  |0=>some { slots:=[11],keep:=[0,1,2,3,9,10],α:=Nat×Int,st:=fun y=>([.int .i64 y.1],⟨[(2,xc,.cells [.fn (.func 66) [] [.ref 1 xs 0,.ref 2 xc 0]]),(1,xs,.cells [.int .i64 y.2])],[]⟩),inv:=fun y=>y.1<=(BK n).length/\y.2=MR (s+1) (szL ((BK n).take y.1)),mu:=fun y=>(BK n).length-y.1 }
  |_=>none }
def ZN(a:Nd):Arr:=Nd.va a
def Qiv(a:Nd):Int:=Arr.k (ZN a)
def Qiw(a:Nd):List Int:=Arr.sh (ZN a)
def Qix(a:Nd):Nat:=LN (Qiw a)
def Qiy(a:Nd)(b:Nat):List D:=[ZI (GI (Qiw a) b)]
def Qiz(a:Nd):List Int:=Arr.nu (ZN a)
def QiA(a:Nd):Nat:=LN (Qiz a)
def QiB(a:Nd)(b:Nat):List D:=[ZI (GI (Qiz a) b)]
def QiC(a:Nd):List Arr:=Arr.it (ZN a)
def QiD(a:Nd):Nat:=LN (QiC a)
def Qb4:Arr:=DA
def QiE(a:Nd)(b:Nat):List D:=Arr.row (List.getD (QiC a) b Qb4)
def Xb:Nd:=Nd.mk Z0 Z0 Z0 [] Z0 Z0 Qb4 [] [] Z0 Z0 Z0
def QiF(a:Nd)(b:Nat):Nd:=List.getD (Nd.ki a) b Xb
def QiG:Sm:=Sm.mk Z0 Z0 [] Z0 Xb Xb
def QiH(a:Nd)(b:Nat):Sm:=List.getD (Nd.bo a) b QiG
def QiI(a:Nd):D:=D.agg [ZI (Nd.kd a),ZI (Nd.at_ a),ZI (Nd.cl a),D.str (Nd.tx a),ZI (Nd.pr a),ZI (Nd.op a),ZI (Qiv a),D.sl N1 (Qix a) (fun i=>Qiy a i) Mode.any,D.sl N1 (QiA a) (fun i=>QiB a i) Mode.any,D.sl N4 (QiD a) (fun i=>QiE a i) Mode.any,D.sl 15 (LN (Nd.ki a)) (fun i=>Nd.row1 (QiF a i)) Mode.any,D.sl 34 (LN (Nd.bo a)) (fun i=>Sm.row1 (QiH a i)) Mode.any,ZI (Nd.de a),ZI (Nd.sl a),ZI (Nd.ss a)]
def Yi(a:Nd):List Nd:=BK a
def Yj(a:Nd):Nat:=LN (Yi a)
def Qb5(a:Nat)(b:Nd)(c d:Int):Prop:=a<=Yj b/\c=MR (d+Z1) (szL (List.take a (Yi b)))
def Qr6(a b:Nat):D:=D.fn (Fn.func (66:Nat)) [] [D.ref N1 a N0,D.ref N2 b N0]
def ZO(a b:Nat):Prop:=SM (Qr6 a b)/\True
def Qb6(a:Nd):Int:=(NI (Yj a))
def QiJ(a b:Nat)(c d:Int)(e:Nd):Prop:=True/\∃(_y:Unit),True/\True/\(SM a/\ZO b a/\SM b/\(c=MR d (szN e)/\True)/\True)/\True
def Kz(a:Nd)(b:Nat):Nd:=List.getD (Yi a) (Int.toNat (↑b:Int)) Xb
def ZP(a:Nd)(b:Nat):Arr:=Nd.va (Kz a b)
def QiK(a:Nd)(b:Nat):List Int:=Arr.sh (ZP a b)
def QiL(a:Nd)(b:Nat):Nat:=LN (QiK a b)
def QiM(a:Nd)(b:Nat):List Int:=Arr.nu (ZP a b)
def QiN(a:Nd)(b:Nat):Nat:=LN (QiM a b)
def QiO(a:Nd)(b:Nat):List Arr:=Arr.it (ZP a b)
def QiP(a:Nd)(b:Nat):Nat:=LN (QiO a b)
def QiQ(a:Nd)(b:Nat):List Nd:=Nd.ki (Kz a b)
def QiR(a:Nd)(b:Nat):Nat:=LN (QiQ a b)
def QiS(a:Nd)(b:Nat):List Sm:=Nd.bo (Kz a b)
def QiT(a:Nd)(b:Nat):Nat:=LN (QiS a b)
def Qr7(a:Nd):D:=D.sl 15 (Yj a) (fun i=>Nd.row1 (List.getD (Yi a) i Xb)) Mode.any
theorem Bih(xs xc : Nat)(n : Nd)(s : Int)(hn : n.sm)(h0 : 0<=s)(h1 : s<=16384)(h : ∀b∈BK n, ∀z, 0<=z -> z<=16384 -> ACalls Tryz.prog 66 ((Te xs xc).args (b, z)) ((Te xs xc).st (b, z)) (SpecR (Te xs xc) (b, z))) :
  ACalls Tryz.prog 66 ((Te xs xc).args (n,s)) ((Te xs xc).st (n,s)) (SpecR (Te xs xc) (n,s)):=by
 obtain ⟨_,k1,k2⟩:=EM hn
 refine Bi (A:=Te xs xc) (x:=(n,s)) (E:=Esz1 xs xc n s) (eOk ?_ rfl) Tryz.func66 rfl (by kernel_rfl) rfl (by simp[Te,Esz1,EC,E0]) ?_
 ·intro k ds S A hh
  try unfold Bgg at hh
  try dsimp only at hh
  split at hh
  ·injection hh with hh;subst hh
   exact Bs fun e=>CD.at_ (CD.wk (BhK n k1 k2) e) _
  ·injection hh with hh;subst hh
   refine ConOk.plain (fun y hy=>?_) rfl rfl
   refine ((h y.1 hy.1 y.2 hy.2.1 hy.2.2).wkArgs ?_).mono fun _ _ ⟨u,q1,q2,q3⟩=>⟨u,q1,q2,q3⟩
   simp only[Te,sSz,wkL,wkD]
   exact⟨GC _,by simp[Bk,Ba],by simp[Bk,Ba],trivial⟩
  ·cases hh
 refine Bj (T :=
  ∀(x:Nat),xc≠x/\xs≠x/\True->SM xs/\SM xs/\SM x/\∃(x_1:Unit),isN2 n [QiI n] []/\∀(y:Unit),True->(∃(x:Nat×Int),Qb5 x.1 n x.2 s/\(Z0=(NI x.1)/\True)/\(SM xc/\ZO xs xc/\SM xs/\(IntKind.wrap IntKind.i64 (s+Z1)=x.2/\True)/\True)/\True)/\∀(x_2:Nat×Int),Qb5 x_2.1 n x_2.2 s->ifB (decide ((NI x_2.1)<Qb6 n)) (Bd (Z0<=(NI x_2.1)/\(NI x_2.1)<Qb6 n) (∀(x_3:Nat),xc≠x_3/\xs≠x_3/\True->SM x_3/\SM xs/\ifB (decide ((16384:Int)<x_2.2)) (QiJ xc xs x_2.2 s n) (SM xc/\SM x_3/\∃(x_4:Nd×Int),((Nd.kd (Kz n x_2.1)=Nd.kd x_4.1/\Nd.at_ (Kz n x_2.1)=Nd.at_ x_4.1/\Nd.cl (Kz n x_2.1)=Nd.cl x_4.1/\Nd.tx (Kz n x_2.1)=Nd.tx x_4.1/\Nd.pr (Kz n x_2.1)=Nd.pr x_4.1/\Nd.op (Kz n x_2.1)=Nd.op x_4.1/\Arr.k (ZP n x_2.1)=Qiv x_4.1/\(QiL n x_2.1=Qix x_4.1/\(∀(i:Nat),i<QiL n x_2.1->[ZI (GI (QiK n x_2.1) i)]=Qiy x_4.1 i)/\True)/\(QiN n x_2.1=QiA x_4.1/\(∀(i:Nat),i<QiN n x_2.1->[ZI (GI (QiM n x_2.1) i)]=QiB x_4.1 i)/\True)/\(QiP n x_2.1=QiD x_4.1/\(∀(i:Nat),i<QiP n x_2.1->Arr.row (List.getD (QiO n x_2.1) i Qb4)=QiE x_4.1 i)/\True)/\(QiR n x_2.1=LN (Nd.ki x_4.1)/\(∀(i:Nat),i<QiR n x_2.1->Nd.row (List.getD (QiQ n x_2.1) i Xb)=Nd.row (QiF x_4.1 i))/\True)/\(QiT n x_2.1=LN (Nd.bo x_4.1)/\(∀(i:Nat),i<QiT n x_2.1->Sm.row (List.getD (QiS n x_2.1) i QiG)=Sm.row (QiH x_4.1 i))/\True)/\Nd.de (Kz n x_2.1)=Nd.de x_4.1/\Nd.sl (Kz n x_2.1)=Nd.sl x_4.1/\Nd.ss (Kz n x_2.1)=Nd.ss x_4.1/\True)/\SM xs/\SM xc/\True)/\((SM xc/\ZO xs xc/\SM xs/\(x_2.2=x_4.2/\True)/\True)/\True)/\(x_4.1∈Yi n/\Z0<=x_4.2/\x_4.2<=16384)/\∀(y:Unit),True->(SM (QiI n)/\SM (D.ref N1 xs N0)/\SM (D.ref N2 xc N0)/\SM (D.ref (3:Nat) x N0)/\SM (Qr7 n)/\SM (ZI (Qb6 n))/\True)/\∃(y:Nat×Int),Qb5 y.1 n y.2 s/\Yj n-y.1<Yj n-x_2.1/\(IntKind.wrap IntKind.i64 ((NI x_2.1)+Z1)=(NI y.1)/\True)/\(SM xc/\ZO xs xc/\SM xs/\(MR x_4.2 (szN x_4.1)=y.2/\True)/\True)/\True))) (QiJ xc xs x_2.2 s n)) (by kernel_rfl) ?_
 delta DA GI LN N0 N1 N2 N4 NI SM Z0 Z1 ZI ZN Qiv Qb4 QiE Xb QiF QiG QiH QiI Yi Yj Qb5 Qiw Qr6 ZO Qb6 QiJ Kz ZP QiK QiL QiM QiN Qix QiO QiP QiQ QiR QiS QiT Qr7 Qiy Qiz QiA QiB QiC QiD
 try simp only[<- dm]
 try simp only[<- dn]
 simp only[ne_eq,Int.toNat_natCast,Bh,Bf,decide_eq_true_eq,decide_eq_false_iff_not,true_and,and_true,exists_const,forall_const,Prod.exists]
 have hsz:=OY n
 have w1:IntKind.i64.wrap (s+1)=s+1:=Be (by omega) (by omega)
 intro x _
 refine⟨U3 n _,⟨0,s+1,⟨Nat.zero_le _,by simp only[List.take_zero,szL,MR];split<;>omega⟩,rfl,w1⟩,?_⟩
 rintro ⟨i,c⟩ ⟨hi,hc⟩
 simp only at hi hc ⊢
 have hl:=BbC hn
 unfold maxLen at hl
 have hle:=Bbf (BK n) i
 refine⟨fun hlt=>⟨⟨by omega,hlt⟩,fun _ _=>⟨fun hb=>?_,fun hb=>?_⟩⟩,fun hge=>?_⟩
 ·rw[hc]
  unfold MR at hc ⊢
  split at hc<;>split<;>omega
 ·have hlt':i<(BK n).length:=by omega
  have ht:=Bhk hlt'
  refine⟨(BK n).getD i default,c,⟨rfl,rfl,rfl,rfl,rfl,rfl,rfl,⟨rfl,fun _ _=>rfl⟩,⟨rfl,fun _ _=>rfl⟩,⟨rfl,fun _ _=>rfl⟩,⟨rfl,fun _ _=>rfl⟩,⟨rfl,fun _ _=>rfl⟩,rfl,rfl,rfl⟩,rfl,⟨GJ hlt',?_,by omega⟩,i+1,MR c (szN ((BK n).getD i default)),⟨hlt',?_⟩,by omega,Be (by omega) (by omega),rfl⟩
  ·unfold MR at hc
   split at hc<;>omega
  ·rw[ht]
   unfold MR at hc ⊢
   split at hc<;>split<;>split<;>omega
 ·have e:i=(BK n).length:=by omega
  rw[e,List.take_length] at hc
  rw[hc]
  unfold MR
  split<;>split<;>omega
theorem Bhx(xs xc:Nat)(n:Nd)(s:Int)(hn:n.sm)(h0:0<=s)(h1:s<=16384):ACalls Tryz.prog 66 ((Te xs xc).args (n,s)) ((Te xs xc).st (n,s)) (SpecR (Te xs xc) (n,s)) :=
 Bih xs xc n s hn h0 h1 fun b hb z z0 z1=>Bhx xs xc b z (IP hn hb) z0 z1
termination_by szN n
decreasing_by exact C7 hb
def GK(n:Nd):Int:=if szN n<=16385 then (szN n:Int) else 16385
def BhY(n:Nd):Con:=fun k ds _=>match k with
 |66=>match ds with
  | [_,.ref _ xs _,.ref _ xc _]=>some (sSz xs xc (fun y=>y.1=n/\y.2=0))
  |_=>none
 |_=>none
noncomputable def Eszs(n:Nd):Senv:=EC (BhY n) 11 5 [] (fun _=>([],[]))
def ZQ(a:Nd):Arr:=Nd.va a
def QiU(a:Nd):Int:=Arr.k (ZQ a)
def QiV(a:Nd):List Int:=Arr.sh (ZQ a)
def Qb7(a:Nd):Nat:=LN (QiV a)
def QiW(a:Nd)(b:Nat):List D:=[ZI (GI (QiV a) b)]
def QiX(a:Nd):List Int:=Arr.nu (ZQ a)
def Qb8(a:Nd):Nat:=LN (QiX a)
def QiY(a:Nd)(b:Nat):List D:=[ZI (GI (QiX a) b)]
def QiZ(a:Nd):List Arr:=Arr.it (ZQ a)
def Qb9(a:Nd):Nat:=LN (QiZ a)
def Qi0:Arr:=DA
def Qi1(a:Nd)(b:Nat):List D:=Arr.row (List.getD (QiZ a) b Qi0)
def Qca(a:Nd):Nat:=LN (Nd.ki a)
def Qcb:Nd:=Nd.mk Z0 Z0 Z0 [] Z0 Z0 Qi0 [] [] Z0 Z0 Z0
def Qi2(a:Nd)(b:Nat):List D:=Nd.row (List.getD (Nd.ki a) b Qcb)
def Qcc(a:Nd):Nat:=LN (Nd.bo a)
def Qi3(a:Nd)(b:Nat):List D:=Sm.row (List.getD (Nd.bo a) b (Sm.mk Z0 Z0 [] Z0 Qcb Qcb))
theorem Bk7(n:Nd)(hn:n.sm):CD 40 [.agg n.row1] (.int .i64 (GK n)):=by
 refine Bi (A:=sC _ _) (x:=()) (E:=Eszs n) (eOk ?_ rfl) Tryz.func40 rfl (by kernel_rfl) rfl (by simp[sC,Eszs,EC,E0]) ?_
 ·intro k ds S A hh
  try unfold BhY at hh
  try dsimp only at hh
  split at hh
  ·split at hh
   ·injection hh with hh;subst hh
    refine ConOk.plain (fun y hy=>?_) rfl rfl
    obtain ⟨y,z⟩:=y
    obtain ⟨rfl,rfl⟩:y=n/\z=0:=hy
    refine ((Bhx _ _ y 0 hn (by omega) (by omega)).wkArgs ?_).mono fun _ _ ⟨u,q1,q2,q3⟩=>⟨u,q1,q2,q3⟩
    simp only[Te,sSz,wkL,wkD]
    exact⟨GC _,by simp[Bk,Ba],by simp[Bk,Ba],trivial⟩
   ·cases hh
  ·cases hh
 refine Bj (T :=
  ∀(x:Nat),True->∀(x_1:Nat),x≠x_1/\True->SM x_1/\∀(x_2:Nat),x_1≠x_2/\x≠x_2/\True->SM x_2/\SM x_2/\SM x/\∃(x:Nd×Int),((Nd.kd n=Nd.kd x.1/\Nd.at_ n=Nd.at_ x.1/\Nd.cl n=Nd.cl x.1/\Nd.tx n=Nd.tx x.1/\Nd.pr n=Nd.pr x.1/\Nd.op n=Nd.op x.1/\QiU n=QiU x.1/\(Qb7 n=Qb7 x.1/\(∀(i:Nat),i<Qb7 n->QiW n i=QiW x.1 i)/\True)/\(Qb8 n=Qb8 x.1/\(∀(i:Nat),i<Qb8 n->QiY n i=QiY x.1 i)/\True)/\(Qb9 n=Qb9 x.1/\(∀(i:Nat),i<Qb9 n->Qi1 n i=Qi1 x.1 i)/\True)/\(Qca n=Qca x.1/\(∀(i:Nat),i<Qca n->Qi2 n i=Qi2 x.1 i)/\True)/\(Qcc n=Qcc x.1/\(∀(i:Nat),i<Qcc n->Qi3 n i=Qi3 x.1 i)/\True)/\Nd.de n=Nd.de x.1/\Nd.sl n=Nd.sl x.1/\Nd.ss n=Nd.ss x.1/\True)/\SM x_1/\SM x_2/\True)/\((SM x_2/\(D.fn (Fn.func (66:Nat)) [] [D.ref (max (N0+N1) N0) x_1 N0,D.ref (max N2 (max (N0+N1) N0)) x_2 N0]=D.fn (Fn.func (66:Nat)) [] [D.ref N1 x_1 N0,D.ref N2 x_2 N0]/\True)/\SM x_1/\(Z0=x.2/\True)/\True)/\True)/\(x.1=n/\x.2=Z0)/\∀(y:Unit),True->SM x_1/\RT ((if (16385:Int)<MR x.2 (szN x.1) then (16385:Int) else MR x.2 (szN x.1))=GK n)) (by kernel_rfl) ?_
 delta DA GI LN N0 N1 N2 SM Z0 ZI ZQ QiU QiV Qb7 QiW QiX Qb8 QiY QiZ Qb9 Qi0 Qi1 Qca Qcb Qi2 Qcc Qi3 RT
 try simp only[<- dm]
 try simp only[<- dn]
 simp only[ne_eq,true_and,and_true,exists_const,forall_const,Prod.exists]
 refine fun _ _ _ _ _=>⟨n,0,⟨rfl,rfl,rfl,rfl,rfl,rfl,rfl,⟨rfl,fun _ _=>rfl⟩,⟨rfl,fun _ _=>rfl⟩,⟨rfl,fun _ _=>rfl⟩,⟨rfl,fun _ _=>rfl⟩,⟨rfl,fun _ _=>rfl⟩,rfl,rfl,rfl⟩,⟨rfl,rfl⟩,⟨rfl,rfl⟩,?_⟩
 unfold MR GK
 split<;>split<;>split<;>omega
theorem Bii{n:Nd}(h:n.ok):n.va.ok:=by
 cases n with
 |mk kd at_ cl tx pr op va ki bo de sl ss =>
  simp only[Nd.ok] at h
  exact h.2.1
theorem Bir{n:Nd}(h:n.ok):∀b∈n.ki,b.ok:=by
 cases n with
 |mk kd at_ cl tx pr op va ki bo de sl ss =>
  simp only[Nd.ok] at h
  exact (OS _).1 h.2.2.1
theorem UX{n:Nd}(h:n.ok):∀s∈n.bo,s.ok:=by
 cases n with
 |mk kd at_ cl tx pr op va ki bo de sl ss =>
  simp only[Nd.ok] at h
  exact (Mu _).1 h.2.2.2
theorem Gp{s:Sm}(h:s.ok):s.te.ok/\s.nd.ok:=by
 cases s with
 |mk kd at_ nm sl te nd =>
  simp only[Sm.ok] at h
  exact h.2
theorem EW{s:Sm}(h:s.sm):s.te.sm/\s.nd.sm:=by
 cases s with
 |mk kd at_ nm sl te nd =>
  simp only[Sm.sm] at h
  exact h.2
theorem BbP(n:Nd)(ho:n.ok)(hn:n.sm):RNode n :=
 Bjz n hn (Bii ho) (BdZ n.bo true (EM hn).2.2 fun s hs =>
  have h1:=Gp (UX ho s hs)
  have h2:=EW (U7 hn s hs)
  ⟨BbP s.nd h1.2 h2.2,BbP s.te h1.1 h2.1⟩) fun b hb=>BbP b (Bir ho b hb) (IP hn (Co hb))
termination_by SizeOf.sizeOf n
decreasing_by
 ·have:=Nd.size_stmt hs
  have:=Sm.size_nd s
  omega
 ·have:=Nd.size_stmt hs
  have:=Sm.size_te s
  omega
 ·exact Nd.size_kid hb
theorem BkY(l:List Sm)(g:Bool)(hl:l.length<=BU)(ho:∀s∈l,s.ok)(hs:∀s∈l,s.sm):RBody l g :=
 BdZ l g hl fun s h=>⟨BbP s.nd (Gp (ho s h)).2 (EW (hs s h)).2,BbP s.te (Gp (ho s h)).1 (EW (hs s h)).1⟩
def UC(l:List Nd):Bool:=l.any fun b=>BD b 60
def Bbk(l:List Sm):Bool:=l.any fun s=>UC (Bg s)
def EX:List Nd->Int
 | []=>0
 |x::r=>GK x+EX r
def Iz:List Sm->Int
 | []=>0
 |s::r=>EX (Bg s)+Iz r
theorem Bfe{l:List Nd}{i:Nat}(h:i<l.length):UC (l.take (i+1))=(UC (l.take i)||BD (l.getD i default) 60):=by
 unfold UC
 rw[CE h,List.any_append]
 simp
theorem Bfd{l:List Sm}{i:Nat}(h:i<l.length):Bbk (l.take (i+1))=(Bbk (l.take i)||UC (Bg (l.getD i default))):=by
 unfold Bbk
 rw[CE h,List.any_append]
 simp
theorem Uv:∀a b:List Nd,EX (a++b)=EX a+EX b
 | [],b=>by simp only[List.nil_append,EX];omega
 |x::a,b=>by simp only[List.cons_append,EX,Uv a b];omega
theorem Bbl:∀a b:List Sm,Iz (a++b)=Iz a+Iz b
 | [],b=>by simp only[List.nil_append,Iz];omega
 |x::a,b=>by simp only[List.cons_append,Iz,Bbl a b];omega
theorem Bfa{l:List Nd}{i:Nat}(h:i<l.length):EX (l.take (i+1))=EX (l.take i)+GK (l.getD i default):=by
 rw[CE h,Uv]
 simp only[EX]
 omega
theorem BfO{l:List Sm}{i:Nat}(h:i<l.length):Iz (l.take (i+1))=Iz (l.take i)+EX (Bg (l.getD i default)):=by
 rw[CE h,Bbl]
 simp only[Iz]
 omega
theorem Bbj(n:Nd):0<=GK n/\GK n<=16385:=by
 unfold GK
 split<;>omega
theorem TW:∀l:List Nd,0<=EX l/\EX l<=16385*(l.length:Int)
 | []=>by simp[EX]
 |x::r=>by
  have:=Bbj x
  have:=TW r
  simp only[EX,List.length_cons]
  omega
theorem Bec:∀l:List Sm,0<=Iz l/\Iz l<=32770*(l.length:Int)
 | []=>by simp[Iz]
 |s::r=>by
  have h1:=TW (Bg s)
  have:=Bec r
  have:=Gc s
  simp only[Iz,List.length_cons]
  omega
theorem BdC:∀l:List Nd,EX l<=(szL l:Int)/\(szL l<=16384->EX l=(szL l:Int))/\(16384<szL l->16384<EX l)
 | []=>by simp[EX,szL]
 |x::r=>by
  have:=BdC r
  have:=TW r
  have h:GK x=if szN x<=16385 then (szN x:Int) else 16385:=rfl
  simp only[EX,szL]
  split at h<;>omega
theorem Rw:∀l:List Sm,Iz l=EX (l.flatMap Bg)
 | []=>by simp only[Iz,List.flatMap_nil,EX]
 |s::r=>by simp only[Iz,List.flatMap_cons,Uv,Rw r]
theorem BjG(l:List Sm):16384<Iz l↔16384<szB l:=by
 rw[Rw,OV]
 have:=BdC (l.flatMap Bg)
 omega
theorem W9:∀l:List Sm,Bbk l=UC (l.flatMap Bg)
 | []=>rfl
 |s::r=>by
  have:=W9 r
  unfold Bbk UC at this ⊢
  rw[List.any_cons,this,List.flatMap_cons,List.any_append]
theorem BjA(l:List Sm):Bbk l=true↔60<dpB l:=by
 rw[W9,G4]
 unfold UC
 rw[Ww]
 constructor
 ·rintro ⟨_,h⟩;omega
 ·intro h
  refine⟨fun e=>?_,by omega⟩
  rw[e] at h
  simp[dpL] at h
def Bhn(l:List Sm):Con:=fun k ds S=>match k with
 |38=>some (pE (β:=Sm) ds S (fun s=>gsl 15 Nd.row1 (Bg s)) (fun s=>isS s ds []))
 |39=>some (pE (β:=Nd) ds S (fun b=>.bool (BD b 60)) (fun b=>isN b ds [.int .i64 60]/\b.sm))
 |40=>some (pE (β:=Nd) ds S (fun b=>.int .i64 (GK b)) (fun b=>isN b ds []/\b.sm))
 |41=>some (pA ds S (.bool (CA false l)) (wkL ds [gsl 34 Sm.row1 l,.bool false]))
 |42=>some (pA ds S (.bool (WN l)) (wkL ds [gsl 34 Sm.row1 l]))
 |_=>none
theorem Bia{l:List Sm}(hl:l.length<=BU)(ho:∀s∈l,s.ok)(hs:∀s∈l,s.sm):ConOk Tryz.prog (Bhn l):=by
 intro k ds S A hh
 unfold Bhn at hh
 split at hh
 ·injection hh with hh;subst hh
  exact Cl fun s e=>CD.at_ (CD.wk (Bg6 s) e) _
 ·injection hh with hh;subst hh
  exact Cl fun b ⟨e,hb⟩=>CD.at_ (CD.isN (Bj1 b 60 hb (by unfold BY;omega)) e) _
 ·injection hh with hh;subst hh
  exact Cl fun b ⟨e,hb⟩=>CD.at_ (CD.wk (Bk7 b hb) e) _
 ·injection hh with hh;subst hh
  exact Bs fun e=>CD.at_ (CD.wk (BkY l false hl ho hs) e) _
 ·injection hh with hh;subst hh
  exact Bs fun e=>CD.at_ (CD.wk (BlE l (Ci hl) hs) e) _
 ·cases hh
noncomputable def Epr(l:List Sm):Senv:={ EC (Bhn l) 72 5 [6,8,10,12,16,18,19,20,21,25,26,27,28,38,40,41,42,43,47,48,49,50,59,62] (fun _=>([],[])) with
 mg:=fun _=>2
 ann:=fun b env S=>match b with
  |0=>some { slots:=[20,4],keep:=[0,1,3,18,19],α:=Nat×Bool,st:=fun y=>([.int .i64 y.1,.bool y.2],S),inv:=fun y=>y.1<=l.length/\y.2=Bbk (l.take y.1),mu:=fun y=>l.length-y.1 }
  |2=>match Ab.look env 25,Ab.look env 20,Ab.look env 4 with
   |.sl _ n _f _,.int _ i,.bool t=>some { slots:=[27,4],keep:=[0,1,3,18,19,20,25,26],α:=Nat×Bool,st:=fun y=>([.int .i64 y.1,.bool y.2],S),inv:=fun y=>y.1<=n/\y.2=(t||UC ((Bg (l.getD i.toNat default)).take y.1)),mu:=fun y=>n-y.1 }
   |_,_,_=>none
  |4=>some { slots:=[42,3],keep:=[0,1,40,41],α:=Nat×Int,st:=fun y=>([.int .i64 y.1,.int .i64 y.2],S),inv:=fun y=>y.1<=l.length/\y.2=Iz (l.take y.1),mu:=fun y=>l.length-y.1 }
  |6=>match Ab.look env 47,Ab.look env 42,Ab.look env 3 with
   |.sl _ n _f _,.int _ i,.int _ t=>some { slots:=[49,3],keep:=[0,1,40,41,42,47,48],α:=Nat×Int,st:=fun y=>([.int .i64 y.1,.int .i64 y.2],S),inv:=fun y=>y.1<=n/\y.2=t+EX ((Bg (l.getD i.toNat default)).take y.1),mu:=fun y=>n-y.1 }
   |_,_,_=>none
  |_=>none }
def Yk(a:List Sm):Int:=BP a
def Qcd(a:Nat)(b:List Sm)(c:Bool):Prop:=a<=LN b/\c=Bbk (List.take a b)
def Xc:Arr:=DA
def JP:Nd:=Nd.mk Z0 Z0 Z0 [] Z0 Z0 Xc [] [] Z0 Z0 Z0
def Vv:Sm:=Sm.mk Z0 Z0 [] Z0 JP JP
def Xd(a:List Sm)(b:Nat):Sm:=List.getD a b Vv
def KA(a:List Sm)(b:Nat):Nd:=Sm.te (Xd a b)
def ZR(a:List Sm)(b:Nat):Arr:=Nd.va (KA a b)
def Qr8(a:List Sm)(b:Nat):List Int:=Arr.sh (ZR a b)
def Qr9(a:List Sm)(b:Nat):List Int:=Arr.nu (ZR a b)
def Qi4(a:List Sm)(b:Nat):List Arr:=Arr.it (ZR a b)
def Qi5(a:List Sm)(b:Nat):List Nd:=Nd.ki (KA a b)
def Qi6(a:List Sm)(b:Nat):List Sm:=Nd.bo (KA a b)
def KB(a:List Sm)(b:Nat):Nd:=Sm.nd (Xd a b)
def ZS(a:List Sm)(b:Nat):Arr:=Nd.va (KB a b)
def Qsa(a:List Sm)(b:Nat):List Int:=Arr.sh (ZS a b)
def Qsb(a:List Sm)(b:Nat):List Int:=Arr.nu (ZS a b)
def Qi7(a:List Sm)(b:Nat):List Arr:=Arr.it (ZS a b)
def Qi8(a:List Sm)(b:Nat):List Nd:=Nd.ki (KB a b)
def Qi9(a:List Sm)(b:Nat):List Sm:=Nd.bo (KB a b)
def Qja(a:List Sm)(b:Nat):List D:=[ZI (Sm.kd (Xd a b)),ZI (Sm.at_ (Xd a b)),D.str (Sm.nm (Xd a b)),ZI (Sm.sl (Xd a b)),ZI (Nd.kd (KA a b)),ZI (Nd.at_ (KA a b)),ZI (Nd.cl (KA a b)),D.str (Nd.tx (KA a b)),ZI (Nd.pr (KA a b)),ZI (Nd.op (KA a b)),ZI (Arr.k (ZR a b)),SI (Qr8 a b),SI (Qr9 a b),D.sl N4 (LN (Qi4 a b)) (fun i=>Arr.row (List.getD (Qi4 a b) i Xc)) Mode.any,D.sl 15 (LN (Qi5 a b)) (fun i=>Nd.row (List.getD (Qi5 a b) i JP)) Mode.any,D.sl 34 (LN (Qi6 a b)) (fun i=>Sm.row (List.getD (Qi6 a b) i Vv)) Mode.any,ZI (Nd.de (KA a b)),ZI (Nd.sl (KA a b)),ZI (Nd.ss (KA a b)),ZI (Nd.kd (KB a b)),ZI (Nd.at_ (KB a b)),ZI (Nd.cl (KB a b)),D.str (Nd.tx (KB a b)),ZI (Nd.pr (KB a b)),ZI (Nd.op (KB a b)),ZI (Arr.k (ZS a b)),SI (Qsa a b),SI (Qsb a b),D.sl N4 (LN (Qi7 a b)) (fun i=>Arr.row (List.getD (Qi7 a b) i Xc)) Mode.any,D.sl 15 (LN (Qi8 a b)) (fun i=>Nd.row (List.getD (Qi8 a b) i JP)) Mode.any,D.sl 34 (LN (Qi9 a b)) (fun i=>Sm.row (List.getD (Qi9 a b) i Vv)) Mode.any,ZI (Nd.de (KB a b)),ZI (Nd.sl (KB a b)),ZI (Nd.ss (KB a b))]
def Qjb(a:Nat)(b:List Sm):Prop:=SM a/\((SM (LN b)/\(∀(i:Nat),i<LN b->SM (Qja b i))/\True)/\True)/\True
def ZT(a:Nat)(b:List Sm):Prop:=Qjb a b/\True
def Vw(a:List Sm)(b:Nat):Sm:=List.getD a (Int.toNat (↑b:Int)) Vv
def Qjc(a:List Sm)(b:Nat):Int:=Sm.kd (Vw a b)
def Qjd(a:List Sm)(b:Nat):Int:=Sm.at_ (Vw a b)
def Qje(a:List Sm)(b:Nat):List UInt8:=Sm.nm (Vw a b)
def Qjf(a:List Sm)(b:Nat):Int:=Sm.sl (Vw a b)
def KC(a:List Sm)(b:Nat):Nd:=Sm.te (Vw a b)
def Qjg(a:List Sm)(b:Nat):Int:=Nd.kd (KC a b)
def Qjh(a:List Sm)(b:Nat):Int:=Nd.at_ (KC a b)
def Qji(a:List Sm)(b:Nat):Int:=Nd.cl (KC a b)
def Qjj(a:List Sm)(b:Nat):List UInt8:=Nd.tx (KC a b)
def Qjk(a:List Sm)(b:Nat):Int:=Nd.pr (KC a b)
def Qjl(a:List Sm)(b:Nat):Int:=Nd.op (KC a b)
def ZU(a:List Sm)(b:Nat):Arr:=Nd.va (KC a b)
def Qjm(a:List Sm)(b:Nat):Int:=Arr.k (ZU a b)
def Qjn(a:List Sm)(b:Nat):List Int:=Arr.sh (ZU a b)
def Qce(a:List Sm)(b:Nat):Nat:=LN (Qjn a b)
def Qjo(a:List Sm)(b c:Nat):List D:=[ZI (GI (Qjn a b) c)]
def Qjp(a:List Sm)(b:Nat):List Int:=Arr.nu (ZU a b)
def Qcf(a:List Sm)(b:Nat):Nat:=LN (Qjp a b)
def Qjq(a:List Sm)(b c:Nat):List D:=[ZI (GI (Qjp a b) c)]
def Qjr(a:List Sm)(b:Nat):List Arr:=Arr.it (ZU a b)
def Qcg(a:List Sm)(b:Nat):Nat:=LN (Qjr a b)
def Qjs(a:List Sm)(b c:Nat):List D:=Arr.row (List.getD (Qjr a b) c Xc)
def Qjt(a:List Sm)(b:Nat):List Nd:=Nd.ki (KC a b)
def Qch(a:List Sm)(b:Nat):Nat:=LN (Qjt a b)
def Qju(a:List Sm)(b c:Nat):List D:=Nd.row (List.getD (Qjt a b) c JP)
def Qjv(a:List Sm)(b:Nat):List Sm:=Nd.bo (KC a b)
def Qci(a:List Sm)(b:Nat):Nat:=LN (Qjv a b)
def Qjw(a:List Sm)(b c:Nat):List D:=Sm.row (List.getD (Qjv a b) c Vv)
def Qjx(a:List Sm)(b:Nat):Int:=Nd.de (KC a b)
def Qjy(a:List Sm)(b:Nat):Int:=Nd.sl (KC a b)
def Qjz(a:List Sm)(b:Nat):Int:=Nd.ss (KC a b)
def KD(a:List Sm)(b:Nat):Nd:=Sm.nd (Vw a b)
def QjA(a:List Sm)(b:Nat):Int:=Nd.kd (KD a b)
def QjB(a:List Sm)(b:Nat):Int:=Nd.at_ (KD a b)
def QjC(a:List Sm)(b:Nat):Int:=Nd.cl (KD a b)
def QjD(a:List Sm)(b:Nat):List UInt8:=Nd.tx (KD a b)
def QjE(a:List Sm)(b:Nat):Int:=Nd.pr (KD a b)
def QjF(a:List Sm)(b:Nat):Int:=Nd.op (KD a b)
def ZV(a:List Sm)(b:Nat):Arr:=Nd.va (KD a b)
def QjG(a:List Sm)(b:Nat):Int:=Arr.k (ZV a b)
def QjH(a:List Sm)(b:Nat):List Int:=Arr.sh (ZV a b)
def Qcj(a:List Sm)(b:Nat):Nat:=LN (QjH a b)
def QjI(a:List Sm)(b c:Nat):List D:=[ZI (GI (QjH a b) c)]
def QjJ(a:List Sm)(b:Nat):List Int:=Arr.nu (ZV a b)
def Qck(a:List Sm)(b:Nat):Nat:=LN (QjJ a b)
def QjK(a:List Sm)(b c:Nat):List D:=[ZI (GI (QjJ a b) c)]
def QjL(a:List Sm)(b:Nat):List Arr:=Arr.it (ZV a b)
def Qcl(a:List Sm)(b:Nat):Nat:=LN (QjL a b)
def QjM(a:List Sm)(b c:Nat):List D:=Arr.row (List.getD (QjL a b) c Xc)
def QjN(a:List Sm)(b:Nat):List Nd:=Nd.ki (KD a b)
def Qcm(a:List Sm)(b:Nat):Nat:=LN (QjN a b)
def QjO(a:List Sm)(b c:Nat):List D:=Nd.row (List.getD (QjN a b) c JP)
def QjP(a:List Sm)(b:Nat):List Sm:=Nd.bo (KD a b)
def Qcn(a:List Sm)(b:Nat):Nat:=LN (QjP a b)
def QjQ(a:List Sm)(b c:Nat):List D:=Sm.row (List.getD (QjP a b) c Vv)
def QjR(a:List Sm)(b:Nat):Int:=Nd.de (KD a b)
def QjS(a:List Sm)(b:Nat):Int:=Nd.sl (KD a b)
def QjT(a:List Sm)(b:Nat):Int:=Nd.ss (KD a b)
def QjU(a:Sm)(b:List Sm)(c:Nat):Prop:=isS a [D.agg [ZI (Qjc b c),ZI (Qjd b c),D.str (Qje b c),ZI (Qjf b c),ZI (Qjg b c),ZI (Qjh b c),ZI (Qji b c),D.str (Qjj b c),ZI (Qjk b c),ZI (Qjl b c),ZI (Qjm b c),D.sl N1 (Qce b c) (fun i=>Qjo b c i) Mode.any,D.sl N1 (Qcf b c) (fun i=>Qjq b c i) Mode.any,D.sl N4 (Qcg b c) (fun i=>Qjs b c i) Mode.any,D.sl 15 (Qch b c) (fun i=>Qju b c i) Mode.any,D.sl 34 (Qci b c) (fun i=>Qjw b c i) Mode.any,ZI (Qjx b c),ZI (Qjy b c),ZI (Qjz b c),ZI (QjA b c),ZI (QjB b c),ZI (QjC b c),D.str (QjD b c),ZI (QjE b c),ZI (QjF b c),ZI (QjG b c),D.sl N1 (Qcj b c) (fun i=>QjI b c i) Mode.any,D.sl N1 (Qck b c) (fun i=>QjK b c i) Mode.any,D.sl N4 (Qcl b c) (fun i=>QjM b c i) Mode.any,D.sl 15 (Qcm b c) (fun i=>QjO b c i) Mode.any,D.sl 34 (Qcn b c) (fun i=>QjQ b c i) Mode.any,ZI (QjR b c),ZI (QjS b c),ZI (QjT b c)]] []
def Qco(a:Sm):List Nd:=Bg a
def Xe(a:Sm):Nat:=LN (Qco a)
def QjV(a:Nat)(b:List Sm)(c:Nat):List Nd:=List.take a (Bg (Vw b c))
def ZW(a:Nat)(b:Sm)(c d:Bool)(e:List Sm)(f:Nat):Prop:=a<=Xe b/\c=(d||UC (QjV a e f))
def Yl(a:Nat)(b:List Sm)(c d:Nat):Prop:=(SM a/\(SM (Qjc b c)/\SM (Qjd b c)/\SM (Qje b c)/\SM (Qjf b c)/\SM (Qjg b c)/\SM (Qjh b c)/\SM (Qji b c)/\SM (Qjj b c)/\SM (Qjk b c)/\SM (Qjl b c)/\SM (Qjm b c)/\(SM (Qce b c)/\(∀(i:Nat),i<Qce b c->SM (Qjo b c i))/\True)/\(SM (Qcf b c)/\(∀(i:Nat),i<Qcf b c->SM (Qjq b c i))/\True)/\(SM (Qcg b c)/\(∀(i:Nat),i<Qcg b c->SM (Qjs b c i))/\True)/\(SM (Qch b c)/\(∀(i:Nat),i<Qch b c->SM (Qju b c i))/\True)/\(SM (Qci b c)/\(∀(i:Nat),i<Qci b c->SM (Qjw b c i))/\True)/\SM (Qjx b c)/\SM (Qjy b c)/\SM (Qjz b c)/\SM (QjA b c)/\SM (QjB b c)/\SM (QjC b c)/\SM (QjD b c)/\SM (QjE b c)/\SM (QjF b c)/\SM (QjG b c)/\(SM (Qcj b c)/\(∀(i:Nat),i<Qcj b c->SM (QjI b c i))/\True)/\(SM (Qck b c)/\(∀(i:Nat),i<Qck b c->SM (QjK b c i))/\True)/\(SM (Qcl b c)/\(∀(i:Nat),i<Qcl b c->SM (QjM b c i))/\True)/\(SM (Qcm b c)/\(∀(i:Nat),i<Qcm b c->SM (QjO b c i))/\True)/\(SM (Qcn b c)/\(∀(i:Nat),i<Qcn b c->SM (QjQ b c i))/\True)/\SM (QjR b c)/\SM (QjS b c)/\SM (QjT b c)/\True)/\Qjb d b)/\True
def ZX(a:Sm):Int:=(NI (Xe a))
def QjW(a:Nat)(b:Sm):Bool:=decide ((↑a:Int)<ZX b)
def Qcp(a:List Sm):D:=D.sl 34 (LN a) (fun i=>Qja a i) Mode.any
def Qcq(a:List Sm):List D:=[Qcp a]
def Qsc(a:List Sm):D:=D.agg (Qcq a)
def ZY(a:List Sm):Prop:=SM (Qsc a)
def ZZ(a:Nat):Prop:=SM (D.ref N0 a N0)
def QjX(a:List Sm):Prop:=SM (Qcp a)
def Qsd(a:Sm):D:=D.sl 15 (Xe a) (fun i=>Nd.row1 (List.getD (Qco a) i JP)) Mode.any
def QjY(a:List Sm)(b:Nat)(c:Sm):Prop:=QjX a/\SM (ZI (LI a))/\SM (ZI (↑b:Int))/\SM (Qsd c)/\SM (ZI (ZX c))/\True
def QjZ(a:List Sm)(b c:Nat)(d:Sm):Prop:=ZY a/\ZZ b/\SM (ZI Z0)/\QjY a c d
def Qcr(a:Sm)(b c:Nat):Prop:=Xe a-b<Xe a-c
def Ym(a b:Nat):Prop:=IntKind.wrap IntKind.i64 ((↑a:Int)+Z1)=(↑b:Int)
def KE(a:Sm)(b:Nat):Nd:=List.getD (Qco a) (Int.toNat (↑b:Int)) JP
def Z2(a:Sm)(b:Nat):Arr:=Nd.va (KE a b)
def Qse(a:Sm)(b:Nat):List Int:=Arr.sh (Z2 a b)
def Qsf(a:Sm)(b:Nat):List Int:=Arr.nu (Z2 a b)
def Qj0(a:Sm)(b:Nat):List Arr:=Arr.it (Z2 a b)
def Qj1(a:Sm)(b:Nat):List Nd:=Nd.ki (KE a b)
def Qj2(a:Sm)(b:Nat):List Sm:=Nd.bo (KE a b)
def Qj3(a:Sm)(b:Nat):D:=D.agg [ZI (Nd.kd (KE a b)),ZI (Nd.at_ (KE a b)),ZI (Nd.cl (KE a b)),D.str (Nd.tx (KE a b)),ZI (Nd.pr (KE a b)),ZI (Nd.op (KE a b)),ZI (Arr.k (Z2 a b)),SI (Qse a b),SI (Qsf a b),D.sl N4 (LN (Qj0 a b)) (fun i=>Arr.row (List.getD (Qj0 a b) i Xc)) Mode.any,D.sl 15 (LN (Qj1 a b)) (fun i=>Nd.row (List.getD (Qj1 a b) i JP)) Mode.any,D.sl 34 (LN (Qj2 a b)) (fun i=>Sm.row (List.getD (Qj2 a b) i Vv)) Mode.any,ZI (Nd.de (KE a b)),ZI (Nd.sl (KE a b)),ZI (Nd.ss (KE a b))]
def Qj4(a:List Sm):Prop:=QjX a/\SM (ZI (LI a))/\True
def Qcs(a:Nat)(b:List Sm)(c:Int):Prop:=a<=LN b/\c=Iz (List.take a b)
def Qct(a:Nat)(b:Sm)(c d:Int)(e:List Sm)(f:Nat):Prop:=a<=Xe b/\c=d+EX (QjV a e f)
def Qj5(a:List Sm):List D:=[Qcp a,D.bool false]
def Qj6(a:List Sm):Prop:=True/\∃(_y:Unit),True/\(11:Int)=Yk a/\True/\True
theorem Bkc(l:List Sm)(hl:l.length<=BU)(ho:∀s∈l,s.ok)(hs:∀s∈l,s.sm):CD 20 [.agg [gsl 34 Sm.row1 l]] (.int .i64 (BP l)):=by
 refine Bi (A:=sC _ _) (x:=()) (E:=Epr l) (eOk (Bia hl ho hs) rfl) Tryz.func20 rfl (by kernel_rfl) rfl (by simp[sC,Epr,EC,E0]) ?_
 refine Bj (T :=
  ∀(x:Nat),True->SM x/\ifB (decide ((1000:Int)<(LI l))) (RT ((2:Int)=Yk l)) (SM x/\(∃(x_1:Nat×Bool),Qcd x_1.1 l x_1.2/\(Z0=(NI x_1.1)/\false=x_1.2/\True)/\ZT x l)/\∀(x_1:Nat×Bool),Qcd x_1.1 l x_1.2->ifB (decide ((NI x_1.1)<(LI l))) (Bd (Z0<=(NI x_1.1)/\(NI x_1.1)<(LI l)) (∀(x_2:Nat),x≠x_2/\True->SM x_2/\SM x_2/\∃(x_3:Sm),QjU x_3 l x_1.1/\∀(y:Unit),True->(∃(x_4:Nat×Bool),ZW x_4.1 x_3 x_4.2 x_1.2 l x_1.1/\(Z0=(NI x_4.1)/\x_1.2=x_4.2/\True)/\Yl x_2 l x_1.1 x)/\∀(x_4:Nat×Bool),ZW x_4.1 x_3 x_4.2 x_1.2 l x_1.1->ifB (QjW x_4.1 x_3) (Bd (Z0<=(NI x_4.1)/\(NI x_4.1)<ZX x_3) (∀(x_5:Nat),x_2≠x_5/\x≠x_5/\True->SM x_5/\ifB x_4.2 (QjZ l x x_1.1 x_3/\∃(y:Nat×Bool),ZW y.1 x_3 y.2 x_1.2 l x_1.1/\Qcr x_3 y.1 x_4.1/\(Ym x_4.1 y.1/\true=y.2/\True)/\Yl x_2 l x_1.1 x) (SM x_5/\∃(x_6:Nd),(isN x_6 [Qj3 x_3 x_4.1,ZI 60] [ZI 60]/\Nd.sm x_6)/\∀(y:Unit),True->QjZ l x x_1.1 x_3/\∃(y:Nat×Bool),ZW y.1 x_3 y.2 x_1.2 l x_1.1/\Qcr x_3 y.1 x_4.1/\(Ym x_4.1 y.1/\BD x_6 (60:Int)=y.2/\True)/\Yl x_2 l x_1.1 x))) ((ZY l/\ZZ x/\SM (ZI Z0)/\Qj4 l)/\∃(y:Nat×Bool),Qcd y.1 l y.2/\LN l-y.1<LN l-x_1.1/\(Ym x_1.1 y.1/\x_4.2=y.2/\True)/\ZT x l))) (ifB x_1.2 (RT ((8:Int)=Yk l)) (SM x/\(∃(x_2:Nat×Int),Qcs x_2.1 l x_2.2/\(Z0=(NI x_2.1)/\Z0=x_2.2/\True)/\ZT x l)/\∀(x_2:Nat×Int),Qcs x_2.1 l x_2.2->ifB (decide ((NI x_2.1)<(LI l))) (Bd (Z0<=(NI x_2.1)/\(NI x_2.1)<(LI l)) (∀(x_3:Nat),x≠x_3/\True->SM x_3/\SM x_3/\∃(x_4:Sm),QjU x_4 l x_2.1/\∀(y:Unit),True->(∃(x_5:Nat×Int),Qct x_5.1 x_4 x_5.2 x_2.2 l x_2.1/\(Z0=(NI x_5.1)/\x_2.2=x_5.2/\True)/\Yl x_3 l x_2.1 x)/\∀(x_5:Nat×Int),Qct x_5.1 x_4 x_5.2 x_2.2 l x_2.1->ifB (QjW x_5.1 x_4) (Bd (Z0<=(NI x_5.1)/\(NI x_5.1)<ZX x_4) (∀(x_6:Nat),x_3≠x_6/\x≠x_6/\True->SM x_6/\SM x_6/\∃(x_7:Nd),(isN x_7 [Qj3 x_4 x_5.1] []/\Nd.sm x_7)/\∀(y:Unit),True->(ZY l/\ZZ x/\QjY l x_2.1 x_4)/\∃(y:Nat×Int),Qct y.1 x_4 y.2 x_2.2 l x_2.1/\Qcr x_4 y.1 x_5.1/\(Ym x_5.1 y.1/\IntKind.wrap IntKind.i64 (x_5.2+GK x_7)=y.2/\True)/\Yl x_3 l x_2.1 x)) ((ZY l/\ZZ x/\Qj4 l)/\∃(y:Nat×Int),Qcs y.1 l y.2/\LN l-y.1<LN l-x_2.1/\(Ym x_2.1 y.1/\x_5.2=y.2/\True)/\ZT x l))) (ifB (decide ((16384:Int)<x_2.2)) (RT ((21:Int)=Yk l)) (SM x/\∃(x_3:Unit),wkL (Qj5 l) (Qj5 l)/\∀(y:Unit),True->ifB (!CA false l) (Qj6 l) (SM x/\∃(x:Unit),wkL (Qcq l) (Qcq l)/\∀(y:Unit),True->ifB (WN l) (Qj6 l) (RT (Z0=Yk l))))))))) (by kernel_rfl) ?_
 delta DA GI LI LN N0 N1 N4 NI SI SM Z0 Z1 ZI Yk Qcd Qi4 Ym KE Z2 Qse Qsf Qj0 Qj1 Qj2 Qj3 Qj4 Qi5 Qcs Qct Qj5 Qj6 Qi6 KB ZS Qsa Qsb Qi7 Qi8 Qi9 Xc Qja Qjb ZT Vw Qjc Qjd Qje Qjf KC Qjg JP Qjh Qji Qjj Qjk Qjl ZU Qjm Qjn Qce Qjo Vv Qjp Qcf Qjq Qjr Qcg Qjs Qjt Qch Qju Qjv Xd Qci Qjw Qjx Qjy Qjz KD QjA QjB QjC QjD KA QjE QjF ZV QjG QjH Qcj QjI QjJ Qck QjK ZR QjL Qcl QjM QjN Qcm QjO QjP Qcn QjQ QjR Qr8 QjS QjT QjU Qco Xe QjV ZW Yl ZX QjW Qr9 Qcp Qcq Qsc ZY ZZ QjX Qsd QjY QjZ Qcr RT
 try simp only[<- dm]
 try simp only[<- dn]
 simp only[ne_eq,implies_true,Int.toNat_natCast,Bh,Bf,decide_eq_true_eq,decide_eq_false_iff_not,true_and,and_true,Bool.not_eq_true',Bool.not_eq_false',exists_const,forall_const,Prod.exists]
 unfold BU at hl
 have hr:BP l=if 1000<l.length then 2 else if 60<dpB l then 8 else if 16384<szB l then 21 else if (CA false l&&!WN l)=true then 0 else 11:=rfl
 rw[hr]
 intro x
 refine⟨fun h=>by rw[if_pos (by omega)],fun h=>?_⟩
 rw[if_neg (by omega)]
 refine⟨⟨0,false,⟨Nat.zero_le _,rfl⟩,rfl,rfl⟩,?_⟩
 rintro ⟨i,t⟩ ⟨hi,ht⟩
 simp only at hi ht ⊢
 refine⟨fun hlt=>⟨⟨by omega,hlt⟩,fun z _=>?_⟩,fun hge=>?_⟩
 ·have hlt':i<l.length:=by omega
  have hsm:=Wr (hs _ (E6 hlt'))
  have h2:=Gc (l.getD i default)
  have hta:=Bfd hlt'
  refine⟨l.getD i default,Iy _ _,⟨0,t,⟨Nat.zero_le _,by simp[UC]⟩,rfl,rfl⟩,?_⟩
  rintro ⟨j,u⟩ ⟨hj,hu⟩
  simp only at hj hu ⊢
  refine⟨fun hl2=>⟨⟨by omega,hl2⟩,fun _ _=>?_⟩,fun hg2=>?_⟩
  ·have hl2':j<(Bg (l.getD i default)).length:=by omega
   have htd:=Bfe hl2'
   have w:IntKind.i64.wrap ((j:Int)+1)=((j+1:Nat):Int):=by rw[Be (by omega) (by omega)];rfl
   refine⟨fun e=>⟨j+1,true,⟨hl2',?_⟩,by omega,w,rfl⟩,fun e=>⟨(Bg (l.getD i default)).getD j default,⟨B1 _ _,hsm _ (GJ hl2')⟩,j+1,_,⟨hl2',?_⟩,by omega,w,rfl⟩⟩
   ·rw[htd,<- Bool.or_assoc,<- hu,e];rfl
   ·rw[htd,<- Bool.or_assoc,<- hu,e];rfl
  ·have e:j=(Bg (l.getD i default)).length:=by omega
   refine⟨i+1,u,⟨hlt',?_⟩,by omega,by rw[Be (by omega) (by omega)];rfl,rfl⟩
   rw[hta,<- ht,hu,e,List.take_length]
 ·have e:i=l.length:=by omega
  rw[e,List.take_length] at ht
  have hdp:=BjA l
  rw[<- ht] at hdp
  refine⟨fun h3=>by rw[if_pos (hdp.1 h3)],fun h3=>?_⟩
  rw[if_neg (fun h4=>by rw[hdp.2 h4] at h3;cases h3)]
  refine⟨⟨0,0,⟨Nat.zero_le _,rfl⟩,rfl,rfl⟩,?_⟩
  rintro ⟨k,c⟩ ⟨hk,hc⟩
  simp only at hk hc ⊢
  have hb:=Bec (l.take k)
  rw[List.length_take] at hb
  refine⟨fun hlt=>⟨⟨by omega,hlt⟩,fun z _=>?_⟩,fun hge=>?_⟩
  ·have hlt':k<l.length:=by omega
   have hsm:=Wr (hs _ (E6 hlt'))
   have h2:=Gc (l.getD k default)
   have hta:=BfO hlt'
   refine⟨l.getD k default,Iy _ _,⟨0,c,⟨Nat.zero_le _,by simp[EX]⟩,rfl,rfl⟩,?_⟩
   rintro ⟨j,u⟩ ⟨hj,hu⟩
   simp only at hj hu ⊢
   refine⟨fun hl2=>⟨⟨by omega,hl2⟩,fun _ _=>?_⟩,fun hg2=>?_⟩
   ·have hl2':j<(Bg (l.getD k default)).length:=by omega
    have htd:=Bfa hl2'
    have hz:=TW ((Bg (l.getD k default)).take j)
    rw[List.length_take] at hz
    have hs1:=Bbj ((Bg (l.getD k default)).getD j default)
    have w:IntKind.i64.wrap ((j:Int)+1)=((j+1:Nat):Int):=by rw[Be (by omega) (by omega)];rfl
    have w2:IntKind.i64.wrap (u+GK ((Bg (l.getD k default)).getD j default))=u+GK ((Bg (l.getD k default)).getD j default):=Be (by omega) (by omega)
    refine⟨(Bg (l.getD k default)).getD j default,⟨B1 _ _,hsm _ (GJ hl2')⟩,j+1,u+GK ((Bg (l.getD k default)).getD j default),⟨hl2',?_⟩,by omega,w,w2⟩
    rw[htd,hu]
    omega
   ·have e:j=(Bg (l.getD k default)).length:=by omega
    refine⟨k+1,u,⟨hlt',?_⟩,by omega,by rw[Be (by omega) (by omega)];rfl,rfl⟩
    rw[hta,<- hc,hu,e,List.take_length]
  ·have e:k=l.length:=by omega
   rw[e,List.take_length] at hc
   have hsz:=BjG l
   rw[<- hc] at hsz
   refine⟨fun h4=>by rw[if_pos (hsz.1 h4)],fun h4=>?_⟩
   rw[if_neg (fun h5=>h4 (hsz.2 h5))]
   exact⟨Bc _,fun h5=>by rw[h5];rfl,fun h5=>⟨Bc _,fun h6=>by rw[h5,h6];rfl,fun h6=>by rw[h5,h6];rfl⟩⟩
mutual
/-- A tree without what comparisons do not see. -/
def stN:Nd->Nd
 |.mk kd _ cl tx pr op va ki bo _ _ _=>.mk kd 0 cl tx pr op va (stL ki) (stB bo) 0 0 0
def stL:List Nd->List Nd
 | []=>[]
 |x::r=>stN x::stL r
def stB:List Sm->List Sm
 | []=>[]
 |x::r=>stM x::stB r
def stM:Sm->Sm
 |.mk kd _ nm _ te nd=>.mk kd 0 nm 0 (stN te) (stN nd)
end
theorem Mx:∀l:List Nd,stL l=l.map stN
 | []=>by simp only[stL,List.map_nil]
 |x::r=>by simp only[stL,List.map_cons,Mx r]
theorem Mt:∀l:List Sm,stB l=l.map stM
 | []=>by simp only[stB,List.map_nil]
 |x::r=>by simp only[stB,List.map_cons,Mt r]
theorem M9(a b:Nd):stN a=stN b↔a.kd=b.kd/\a.cl=b.cl/\a.tx=b.tx/\a.pr=b.pr/\a.op=b.op/\a.va=b.va/\a.ki.map stN=b.ki.map stN/\a.bo.map stM=b.bo.map stM:=by
 cases a;cases b
 simp only[stN,Mx,Mt,Nd.mk.injEq,Nd.kd,Nd.cl,Nd.tx,Nd.pr,Nd.op,Nd.va,Nd.ki,Nd.bo,true_and,and_true]
theorem Bi5(a b:Sm):stM a=stM b↔a.kd=b.kd/\a.nm=b.nm/\stN a.te=stN b.te/\stN a.nd=stN b.nd:=by
 cases a;cases b
 simp only[stM,Sm.mk.injEq,Sm.kd,Sm.nm,Sm.te,Sm.nd,true_and]
theorem Bf5{a b:Nd}:wkL [.agg a.row1,.agg b.row1] [.agg a.row2,.agg b.row2]:=by
 simp only[wkL,wkD]
 exact⟨GC a,GC b,trivial⟩
def okS(l:List Sm):Prop:=l.length<=BU/\(∀s∈l,s.ok)/\∀s∈l,s.sm
abbrev Frm1:=List (List UInt8×Int)
abbrev Scp:=List Frm1
def B3(nm:List UInt8):Frm1->Option (Nat×Int)
 | []=>none
 |d::r=>if d.1=nm then some (0,d.2) else (B3 nm r).map fun x=>(x.1+1,x.2)
def Bp(nm:List UInt8):Scp->Option (Nat×Nat×Int)
 | []=>none
 |f::r=>match B3 nm f with
  |some (i,c)=>some (0,i,c)
  |none=>(Bp nm r).map fun x=>(x.1+1,x.2.1,x.2.2)
abbrev Flt:=Int×Int×List UInt8
def Ce(f:Frm1)(s:Sm):Frm1:=if s.kd=2 then f++[(s.nm,s.nd.cl)] else f
mutual
def rvN(sc:Scp):Nd->Except Flt Nd
 |.mk kd at_ cl tx pr op va ki bo _de _sl _ss =>
  match rvL sc ki with
  |Except.error e=>Except.error e
  |Except.ok ki' =>
   if kd=2 then match Bp tx sc with
    |none=>Except.error (28,at_,tx)
    |some (d,i,c)=>if c=cl then Except.ok (Nd.mk kd at_ cl tx pr op va ki' bo d i 0) else Except.error (11,at_,tx)
   else if kd=10 then match rvB sc [] bo with
    |Except.error e=>Except.error e
    |Except.ok (bo',f)=>Except.ok (Nd.mk kd at_ cl tx pr op va ki' bo' 0 0 f.length)
   else Except.ok (Nd.mk kd at_ cl tx pr op va ki' bo 0 0 0)
def rvL(sc:Scp):List Nd->Except Flt (List Nd)
 | []=>Except.ok []
 |x::r=>match rvN sc x with
  |Except.error e=>Except.error e
  |Except.ok y=>match rvL sc r with
   |Except.error e=>Except.error e
   |Except.ok l=>Except.ok (y::l)
/-- A body's statements behind the definitions f of the same body. -/
def rvB(sc:Scp)(f:Frm1):List Sm->Except Flt (List Sm×Frm1)
 | []=>Except.ok ([],f)
 |s::r=>match rvM sc f s with
  |Except.error e=>Except.error e
  |Except.ok t=>match rvB sc (Ce f t) r with
   |Except.error e=>Except.error e
   |Except.ok (l,g)=>Except.ok (t::l,g)
def rvM(sc:Scp)(f:Frm1):Sm->Except Flt Sm
 |.mk kd at_ nm _sl te nd =>
  if kd=3 then match rvN (f::sc) te with
   |Except.error e=>Except.error e
   |Except.ok te'=>match rvN (f::sc) nd with
    |Except.error e=>Except.error e
    |Except.ok nd'=>Except.ok (Sm.mk kd at_ nm 0 te' nd')
  else match rvN (f::sc) nd with
   |Except.error e=>Except.error e
   |Except.ok nd'=>Except.ok (Sm.mk kd at_ nm (if kd=2 then (f.length:Int) else 0) te nd')
end
def rvP(l:List Sm):Except Flt (List Sm×Frm1):=if BP l≠0 then Except.error (BP l,0,[]) else rvB [] [] l
theorem Bhj(sc : Scp)(f : Frm1)(s : Sm) : rvM sc f s=if s.kd=3 then match rvN (f::sc) s.te with
   |Except.error e=>Except.error e
   |Except.ok te'=>match rvN (f::sc) s.nd with
    |Except.error e=>Except.error e
    |Except.ok nd'=>Except.ok (Sm.mk s.kd s.at_ s.nm 0 te' nd')
  else match rvN (f::sc) s.nd with
   |Except.error e=>Except.error e
   |Except.ok nd'=>Except.ok (Sm.mk s.kd s.at_ s.nm (if s.kd=2 then (f.length:Int) else 0) s.te nd'):=by
 cases s
 rw[rvM]
 rfl
theorem Oz{nm:List UInt8}:∀ {f:Frm1} {i:Nat} {c:Int},B3 nm f=some (i,c)->i<f.length/\f.getD i ([],0)=(nm,c)
 | [],_,_,h=>by simp[B3] at h
 |d::r,i,c,h=>by
  rw[B3] at h
  split at h
  ·rename_i e
   simp only[Option.some.injEq,Prod.mk.injEq] at h
   obtain ⟨rfl,rfl⟩:=h
   exact⟨by simp,by rw[<- e];rfl⟩
  ·rw[Option.map_eq_some_iff] at h
   obtain ⟨x,h1,h2⟩:=h
   simp only[Prod.mk.injEq] at h2
   obtain ⟨rfl,rfl⟩:=h2
   have:=Oz h1
   exact⟨by simp only[List.length_cons];omega,by simpa using this.2⟩
theorem MX{nm:List UInt8}:∀ {f:Frm1},B3 nm f=none↔∀d∈f,d.1≠nm
 | []=>by simp[B3]
 |d::r=>by
  rw[B3]
  split
  ·rename_i e
   simp[e]
  ·rename_i e
   rw[Option.map_eq_none_iff,MX]
   simp[e]
theorem Mo{sc : Scp}{kd at_ cl : Int}{tx : List UInt8}{pr op : Int}{va : Arr}{ki : List Nd}{bo : List Sm}{de sl ss : Int}{m : Nd}(h : rvN sc (.mk kd at_ cl tx pr op va ki bo de sl ss)=.ok m) :
  ∃ki' bo' de' sl' ss',m=.mk kd at_ cl tx pr op va ki' bo' de' sl' ss'/\rvL sc ki=.ok ki'/\0<=de'/\0<=sl'/\0<=ss' /\
   ((kd=2/\bo'=bo/\ss'=0/\∃(d i:Nat),Bp tx sc=some (d,i,cl)/\de'=d/\sl'=i)\/(kd=10/\de'=0/\sl'=0/\∃f,rvB sc [] bo=.ok (bo',f)/\ss'=f.length)\/(kd≠2/\kd≠10/\bo'=bo/\de'=0/\sl'=0/\ss'=0)):=by
 rw[rvN] at h
 cases hk:rvL sc ki with
 |error e=>rw[hk] at h;cases h
 |ok ki' =>
  rw[hk] at h
  simp only at h
  by_cases h2:kd=2
  ·rw[if_pos h2] at h
   cases hl:Bp tx sc with
   |none=>rw[hl] at h;cases h
   |some x =>
    obtain ⟨d,i,c⟩:=x
    rw[hl] at h
    simp only at h
    split at h
    ·rename_i hc
     subst hc
     injection h with h
     subst h
     exact⟨ki',bo,d,i,0,rfl,rfl,by omega,by omega,by omega,.inl ⟨h2,rfl,rfl,d,i,rfl,rfl,rfl⟩⟩
    ·cases h
  ·rw[if_neg h2] at h
   by_cases h10:kd=10
   ·rw[if_pos h10] at h
    cases hb:rvB sc [] bo with
    |error e=>rw[hb] at h;cases h
    |ok z =>
     obtain ⟨bo',f⟩:=z
     rw[hb] at h
     injection h with h
     subst h
     exact⟨ki',bo',0,0,f.length,rfl,rfl,by omega,by omega,by omega,.inr (.inl ⟨h10,rfl,rfl,f,rfl,rfl⟩)⟩
   ·rw[if_neg h10] at h
    injection h with h
    subst h
    exact⟨ki',bo,0,0,0,rfl,rfl,by omega,by omega,by omega,.inr (.inr ⟨h2,h10,rfl,rfl,rfl,rfl⟩)⟩
mutual
theorem Ct:∀(n:Nd) (sc:Scp) (m:Nd),rvN sc n=.ok m->rvN sc m=.ok m/\stN m=stN n
 |.mk kd at_ cl tx pr op va ki bo de sl ss,sc,m,h=>by
  obtain ⟨ki',bo',de',sl',ss',rfl,hk,_,_,_,hc⟩:=Mo h
  obtain ⟨k1,k2⟩:=WX ki sc ki' hk
  rcases hc with ⟨h2,rfl,rfl,d,i,hl,rfl,rfl⟩ | ⟨h10,rfl,rfl,f,hb,rfl⟩ | ⟨h2,h10,rfl,rfl,rfl,rfl⟩
  ·refine⟨?_,by simp only[stN,k2]⟩
   rw[rvN,k1]
   simp only[if_pos h2,hl,if_true]
  ·obtain ⟨b1,b2⟩:=OP bo sc [] bo' f hb
   refine⟨?_,by simp only[stN,k2,b2]⟩
   rw[rvN,k1]
   have h2:kd≠2:=by omega
   simp only[if_neg h2,if_pos h10,b1]
  ·refine⟨?_,by simp only[stN,k2]⟩
   rw[rvN,k1]
   simp only[if_neg h2,if_neg h10]
theorem WX:∀(l:List Nd) (sc:Scp) (m:List Nd),rvL sc l=.ok m->rvL sc m=.ok m/\stL m=stL l
 | [],sc,m,h=>by
  rw[rvL] at h;injection h with h;subst h
  exact⟨by rw[rvL],rfl⟩
 |x::r,sc,m,h=>by
  rw[rvL] at h
  cases hx:rvN sc x with
  |error e=>rw[hx] at h;cases h
  |ok y =>
   rw[hx] at h
   simp only at h
   cases hr:rvL sc r with
   |error e=>rw[hr] at h;cases h
   |ok s =>
    rw[hr] at h
    injection h with h;subst h
    obtain ⟨a1,a2⟩:=Ct x sc y hx
    obtain ⟨b1,b2⟩:=WX r sc s hr
    exact⟨by rw[rvL,a1];simp only[b1],by simp only[stL,a2,b2]⟩
theorem OP:∀(l:List Sm) (sc:Scp) (f:Frm1) (m:List Sm) (g:Frm1),rvB sc f l=.ok (m,g)->rvB sc f m=.ok (m,g)/\stB m=stB l
 | [],sc,f,m,g,h=>by
  rw[rvB] at h;injection h with h;injection h with h1 h2;subst h1 h2
  exact⟨by rw[rvB],rfl⟩
 |x::r,sc,f,m,g,h=>by
  rw[rvB] at h
  cases hx:rvM sc f x with
  |error e=>rw[hx] at h;cases h
  |ok y =>
   rw[hx] at h
   simp only at h
   cases hr:rvB sc (Ce f y) r with
   |error e=>rw[hr] at h;cases h
   |ok z =>
    obtain ⟨s,g'⟩:=z
    rw[hr] at h
    injection h with h;injection h with h1 h2;subst h1 h2
    obtain ⟨a1,a2⟩:=WV x sc f y hx
    obtain ⟨b1,b2⟩:=OP r sc (Ce f y) s g' hr
    exact⟨by rw[rvB,a1];simp only[b1],by simp only[stB,a2,b2]⟩
theorem WV:∀(s:Sm) (sc:Scp) (f:Frm1) (m:Sm),rvM sc f s=.ok m->rvM sc f m=.ok m/\stM m=stM s
 |.mk kd at_ nm sl te nd,sc,f,m,h=>by
  rw[rvM] at h
  by_cases h3:kd=3
  ·rw[if_pos h3] at h
   cases ht:rvN (f::sc) te with
   |error e=>rw[ht] at h;cases h
   |ok te' =>
    rw[ht] at h
    simp only at h
    cases hn:rvN (f::sc) nd with
    |error e=>rw[hn] at h;cases h
    |ok nd' =>
     rw[hn] at h
     injection h with h;subst h
     obtain ⟨a1,a2⟩:=Ct te (f::sc) te' ht
     obtain ⟨b1,b2⟩:=Ct nd (f::sc) nd' hn
     exact⟨by rw[rvM,if_pos h3,a1];simp only[b1],by simp only[stM,a2,b2]⟩
  ·rw[if_neg h3] at h
   cases hn:rvN (f::sc) nd with
   |error e=>rw[hn] at h;cases h
   |ok nd' =>
    rw[hn] at h
    injection h with h;subst h
    obtain ⟨b1,b2⟩:=Ct nd (f::sc) nd' hn
    exact⟨by rw[rvM,if_neg h3,b1],by simp only[stM,b2]⟩
end
mutual
theorem Bdm:∀n:Nd,dpN (stN n)=dpN n
 |.mk kd at_ cl tx pr op va ki bo de sl ss=>by simp only[stN,dpN,Bhr ki,RW bo]
theorem Bhr:∀l:List Nd,dpL (stL l)=dpL l
 | []=>rfl
 |x::r=>by simp only[stL,dpL,Bdm x,Bhr r]
theorem RW:∀l:List Sm,dpB (stB l)=dpB l
 | []=>rfl
 |x::r=>by simp only[stB,dpB,Bln x,RW r]
theorem Bln:∀s:Sm,dpM (stM s)=dpM s
 |.mk kd at_ nm sl te nd=>by simp only[stM,dpM,Bdm te,Bdm nd]
end
mutual
theorem Bdt:∀n:Nd,szN (stN n)=szN n
 |.mk kd at_ cl tx pr op va ki bo de sl ss=>by simp only[stN,szN,Bh1 ki,Bar bo]
theorem Bh1:∀l:List Nd,szL (stL l)=szL l
 | []=>rfl
 |x::r=>by simp only[stL,szL,Bdt x,Bh1 r]
theorem Bar:∀l:List Sm,szB (stB l)=szB l
 | []=>rfl
 |x::r=>by simp only[stB,szB,Bk8 x,Bar r]
theorem Bk8:∀s:Sm,szM (stM s)=szM s
 |.mk kd at_ nm sl te nd=>by simp only[stM,szM,Bdt te,Bdt nd]
end
mutual
theorem BeD(k:Int):∀n:Nd,Gr k (stN n)=Gr k n
 |.mk kd at_ cl tx pr op va ki bo de sl ss=>by simp only[stN,Gr,BeF k ki]
theorem BeF(k:Int):∀l:List Nd,BbX k (stL l)=BbX k l
 | []=>rfl
 |x::r=>by simp only[stL,BbX,BeD k x,BeF k r]
end
theorem Bik(s:Sm):Bg (stM s)=(Bg s).map stN:=by
 have e:(stM s).kd=s.kd/\(stM s).te=stN s.te/\(stM s).nd=stN s.nd:=by cases s;simp only[stM,Sm.kd,Sm.te,Sm.nd,and_self]
 unfold Bg
 rw[e.1,e.2.1,e.2.2]
 split<;>rfl
theorem T8(k:Int):∀l:List Sm,Ec (stB l) k=Ec l k
 | []=>rfl
 |s::r=>by
  have ih:=T8 k r
  unfold Ec at ih ⊢
  rw[stB,List.any_cons,List.any_cons,ih,Bik,List.any_map]
  congr 1
  exact Rc fun x _=>BeD k x
theorem Rz(n:Nd):(stN n).cl=n.cl/\(stN n).kd=n.kd/\(stN n).op=n.op:=by cases n;simp only[stN,Nd.cl,Nd.kd,Nd.op,and_self]
theorem TX:∀l:List Sm,(stB l).length=l.length:=fun l=>by rw[Mt,List.length_map]
theorem O3(n:Nd):(stN n).tx=n.tx/\(stN n).pr=n.pr/\(stN n).va=n.va/\(stN n).ki=stL n.ki/\(stN n).bo=stB n.bo:=by
 cases n;simp only[stN,Nd.tx,Nd.pr,Nd.va,Nd.ki,Nd.bo,and_self]
theorem Rq:∀l:List Nd,(stL l).isEmpty=l.isEmpty
 | []=>rfl
 |_::_=>rfl
theorem Bfi:∀l:List Sm,(stB l).isEmpty=l.isEmpty
 | []=>rfl
 |_::_=>rfl
theorem Bhw(n:Nd):GD (stN n)=GD n:=by
 obtain ⟨a1,a2,a3⟩:=Rz n
 obtain ⟨b1,b2,b3,b4,b5⟩:=O3 n
 simp only[GD,a1,a2,a3,b1,b2,b3,b4,Rq]
theorem BdL(l:List Nd)(i:Nat):((stL l).getD i default).kd=(l.getD i default).kd/\((stL l).getD i default).op=(l.getD i default).op:=by
 rw[Mx]
 simp only[List.getD_eq_getElem?_getD,List.getElem?_map]
 cases l[i]? with
 |none=>simp
 |some x=>simp[(Rz x).2.1,(Rz x).2.2]
theorem BhL(n:Nd):EF (stN n)=EF n:=by
 obtain ⟨a1,a2,a3⟩:=Rz n
 obtain ⟨b1,b2,b3,b4,b5⟩:=O3 n
 have h1:(stL n.ki).length=n.ki.length:=by rw[Mx,List.length_map]
 have h2:(stL n.ki).map Nd.cl=n.ki.map Nd.cl:=by
  rw[Mx,List.map_map]
  exact List.map_congr_left fun x _=>(Rz x).1
 have h3:G2 (stN n)=G2 n:=by simp only[G2,b4,(BdL n.ki 0).1,(BdL n.ki 0).2]
 simp only[EF,BA,a1,a2,b4,h1,h2,h3]
theorem Bio(l:List Sm):((stB l).getD ((stB l).length-1) default).kd=(l.getD (l.length-1) default).kd:=by
 rw[TX,Mt]
 simp only[List.getD_eq_getElem?_getD,List.getElem?_map]
 cases l[l.length-1]? with
 |none=>simp
 |some x=>cases x;simp[stM,Sm.kd]
theorem BiS(n:Nd):Tn (stN n)=Tn n:=by
 obtain ⟨a1,a2,a3⟩:=Rz n
 obtain ⟨b1,b2,b3,b4,b5⟩:=O3 n
 simp only[Tn,a1,b4,b5,Rq,Bfi,Bio n.bo,T8]
theorem BgA{α:Type}{F:Nd->α}(hF:∀n,F (stN n)=F n){m n:Nd}(h:stN m=stN n):F m=F n:=by rw[<- hF m,h,hF n]
theorem Bfb{kd at_ cl : Int}{tx : List UInt8}{pr op : Int}{va : Arr}{ki ki' : List Nd}{bo bo' : List Sm}{de sl ss de' sl' ss' : Int}(hb : bo'.isEmpty=bo.isEmpty)(h1 : 0<=de')(h2 : 0<=sl')(h3 : 0<=ss')
  (h:G7 (.mk kd at_ cl tx pr op va ki bo de sl ss) kd=true):G7 (.mk kd at_ cl tx pr op va ki' bo' de' sl' ss') kd=true:=by
 simp only[G7,Nd.kd,Nd.at_,Nd.de,Nd.sl,Nd.ss,Nd.tx,Nd.pr,Nd.op,Nd.va,Nd.bo,Bool.and_eq_true] at h ⊢
 obtain ⟨⟨⟨⟨⟨⟨⟨⟨⟨a1,a2⟩,a3⟩,a4⟩,a5⟩,a6⟩,a7⟩,a8⟩,a9⟩,a10⟩:=h
 exact⟨⟨⟨⟨⟨⟨⟨⟨⟨a1,a2⟩,decide_eq_true h1⟩,decide_eq_true h2⟩,decide_eq_true h3⟩,a6⟩,a7⟩,a8⟩,a9⟩,by rw[hb];exact a10⟩
mutual
theorem Mk:∀(n:Nd) (sc:Scp) (m:Nd),rvN sc n=.ok m->BR n=true->BR m=true
 |.mk kd at_ cl tx pr op va ki bo de sl ss,sc,m,h,hv=>by
  have hst:=(Ct _ _ _ h).2
  have e1:=BgA Bhw hst
  have e2:=BgA BhL hst
  have e3:=BgA BiS hst
  obtain ⟨ki',bo',de',sl',ss',rfl,hk,p1,p2,p3,hc⟩:=Mo h
  have hl:bo'.length=bo.length:=by
   have:=congrArg List.length (congrArg Nd.bo hst)
   simpa only[stN,Nd.bo,TX] using this
  rw[BR] at hv ⊢
  rw[e1,e2,e3]
  rw[Bool.and_eq_true] at hv ⊢
  have hbe:bo'.isEmpty=bo.isEmpty:=by
   cases bo'<;>cases bo<;>first | rfl | (simp at hl)
  refine⟨Bfb hbe p1 p2 p3 hv.1,?_⟩
  by_cases h10:kd=10
  ·have hv2:=hv.2
   rw[if_pos h10] at hv2 ⊢
   rcases hc with ⟨q,_⟩ | ⟨_,rfl,rfl,f,hb,rfl⟩ | ⟨_,q,_⟩
   ·omega
   ·rw[Bool.and_eq_true,Bool.and_eq_true] at hv2 ⊢
    refine⟨hv2.1,by rw[hl];exact hv2.2.1,OX bo sc [] bo' f true [] hb hv2.2.2⟩
   ·exact (q h10).elim
  ·have hv2:=hv.2
   rw[if_neg h10] at hv2 ⊢
   rw[Bool.or_eq_true,Bool.and_eq_true] at hv2 ⊢
   rcases hv2 with q | ⟨q1,q2⟩
   ·exact .inl q
   ·exact .inr ⟨q1,Rb ki sc ki' hk q2⟩
theorem Rb:∀(l:List Nd) (sc:Scp) (m:List Nd),rvL sc l=.ok m->IW l=true->IW m=true
 | [],sc,m,h,hv=>by
  rw[rvL] at h;injection h with h;subst h;exact hv
 |x::r,sc,m,h,hv=>by
  rw[rvL] at h
  cases hx:rvN sc x with
  |error e=>rw[hx] at h;cases h
  |ok y =>
   rw[hx] at h
   simp only at h
   cases hr:rvL sc r with
   |error e=>rw[hr] at h;cases h
   |ok s =>
    rw[hr] at h
    injection h with h;subst h
    rw[IW,Bool.and_eq_true] at hv ⊢
    exact⟨Mk x sc y hx hv.1,Rb r sc s hr hv.2⟩
theorem OX:∀(l:List Sm) (sc:Scp) (f:Frm1) (m:List Sm) (g:Frm1) (gd:Bool) (names:List (List UInt8)),rvB sc f l=.ok (m,g)->B5 gd names l=true->B5 gd names m=true
 | [],sc,f,m,g,gd,names,h,hv=>by
  rw[rvB] at h;injection h with h;injection h with h1 h2;subst h1;exact hv
 |x::r,sc,f,m,g,gd,names,h,hv=>by
  rw[rvB] at h
  cases hx:rvM sc f x with
  |error e=>rw[hx] at h;cases h
  |ok y =>
   rw[hx] at h
   simp only at h
   cases hr:rvB sc (Ce f y) r with
   |error e=>rw[hr] at h;cases h
   |ok z =>
    obtain ⟨s,g'⟩:=z
    rw[hr] at h
    injection h with h;injection h with h1 h2;subst h1
    have hk:y.kd=x.kd/\y.nm=x.nm:=by
     have:=(WV x sc f y hx).2
     rw[Bi5] at this
     exact⟨this.1,this.2.1⟩
    rw[B5,Bool.and_eq_true] at hv ⊢
    rw[hk.1,hk.2]
    exact⟨BeV x sc f y gd names hx hv.1,OX r sc (Ce f y) s g' gd _ hr hv.2⟩
theorem BeV:∀(s:Sm) (sc:Scp) (f:Frm1) (m:Sm) (gd:Bool) (names:List (List UInt8)),rvM sc f s=.ok m->IY gd names s=true->IY gd names m=true
 |.mk kd at_ nm sl te nd,sc,f,m,gd,names,h,hv=>by
  rw[rvM] at h
  rw[IY,Bool.and_eq_true,Bool.and_eq_true] at hv
  obtain ⟨⟨v1,v2⟩,v3⟩:=hv
  by_cases h3:kd=3
  ·rw[if_pos h3] at h
   cases ht:rvN (f::sc) te with
   |error e=>rw[ht] at h;cases h
   |ok te' =>
    rw[ht] at h
    simp only at h
    cases hn:rvN (f::sc) nd with
    |error e=>rw[hn] at h;cases h
    |ok nd' =>
     rw[hn] at h
     injection h with h;subst h
     have c1:=(M9 _ _).1 (Ct te (f::sc) te' ht).2
     have c2:=(M9 _ _).1 (Ct nd (f::sc) nd' hn).2
     rw[IY,Bool.and_eq_true,Bool.and_eq_true]
     refine⟨⟨v1,Mk nd _ nd' hn v2⟩,?_⟩
     have n1:kd≠1:=by omega
     have n2:kd≠2:=by omega
     rw[if_neg n1,if_neg n2,if_pos h3] at v3 ⊢
     simp only[Bool.and_eq_true] at v3 ⊢
     obtain ⟨⟨⟨⟨⟨w1,w2⟩,w3⟩,w4⟩,w5⟩,w6⟩:=v3
     exact⟨⟨⟨⟨⟨w1,Mk te _ te' ht w2⟩,by rw[c1.2.1];exact w3⟩,by rw[c2.2.1];exact w4⟩,w5⟩,rfl⟩
  ·rw[if_neg h3] at h
   cases hn:rvN (f::sc) nd with
   |error e=>rw[hn] at h;cases h
   |ok nd' =>
    rw[hn] at h
    injection h with h;subst h
    have c2:=(M9 _ _).1 (Ct nd (f::sc) nd' hn).2
    rw[IY,Bool.and_eq_true,Bool.and_eq_true]
    refine⟨⟨v1,Mk nd _ nd' hn v2⟩,?_⟩
    rw[c2.1,c2.2.1]
    by_cases n1:kd=1
    ·rw[if_pos n1] at v3 ⊢
     have n2:kd≠2:=by omega
     simp only[Bool.and_eq_true] at v3 ⊢
     exact⟨⟨v3.1.1,by rw[if_neg n2];rfl⟩,v3.2⟩
    ·rw[if_neg n1] at v3 ⊢
     by_cases n2:kd=2
     ·rw[if_pos n2] at v3 ⊢
      simp only[Bool.and_eq_true,decide_eq_true_eq] at v3 ⊢
      exact⟨⟨v3.1.1,by rw[if_pos n2];omega⟩,v3.2⟩
     ·rw[if_neg n2,if_neg h3] at v3
      cases v3
end
theorem W4{l b:List Sm}{f:Frm1}(h:rvP l=.ok (b,f)):BP b=0/\rvP b=.ok (b,f)/\b.map stM=l.map stM:=by
 unfold rvP at h
 split at h
 ·cases h
 ·rename_i hr
  have hr:BP l=0:=by simpa using hr
  obtain ⟨h1,h2⟩:=OP l [] [] b f h
  have hlen:b.length=l.length:=by have:=congrArg List.length h2;simpa only[TX] using this
  have hd:dpB b=dpB l:=by rw[<- RW b,h2,RW]
  have hz:szB b=szB l:=by rw[<- Bar b,h2,Bar]
  have ho:∀k,Ec b k=Ec l k:=fun k=>by rw[<- T8 k b,h2,T8]
  have hb:BP b=0:=by
   unfold BP at hr ⊢
   rw[hlen,hd,hz]
   have hout:WN b=WN l:=by unfold WN;simp only[ho]
   rw[hout]
   split at hr
   ·omega
   ·split at hr
    ·omega
    ·split at hr
     ·omega
     ·split at hr
      ·rename_i q1 q2 q3 q4
       rw[if_neg q1,if_neg q2,if_neg q3,if_pos ?_]
       rw[Bool.and_eq_true] at q4 ⊢
       refine⟨?_,q4.2⟩
       have q5:=q4.1
       unfold CA at q5 ⊢
       rw[Bool.and_eq_true] at q5 ⊢
       exact⟨by rw[hlen];exact q5.1,OX l [] [] b f false [] h q5.2⟩
      ·omega
  refine⟨hb,?_,?_⟩
  ·unfold rvP
   rw[if_neg (by rw[hb];simp),h1]
  ·rw[<- Mt,<- Mt,h2]
mutual
/-- A tree without its offsets. -/
def exN:Nd->Nd
 |.mk kd _ cl tx pr op va ki bo de sl ss=>.mk kd 0 cl tx pr op va (exL ki) (exB bo) de sl ss
def exL:List Nd->List Nd
 | []=>[]
 |x::r=>exN x::exL r
def exB:List Sm->List Sm
 | []=>[]
 |x::r=>exM x::exB r
def exM:Sm->Sm
 |.mk kd _ nm sl te nd=>.mk kd 0 nm sl (exN te) (exN nd)
end
theorem BdY:∀l:List Nd,exL l=l.map exN
 | []=>by simp only[exL,List.map_nil]
 |x::r=>by simp only[exL,List.map_cons,BdY r]
theorem Bem:∀l:List Sm,exB l=l.map exM
 | []=>by simp only[exB,List.map_nil]
 |x::r=>by simp only[exB,List.map_cons,Bem r]
theorem Bjd(a b:Nd):exN a=exN b↔a.kd=b.kd/\a.cl=b.cl/\a.tx=b.tx/\a.pr=b.pr/\a.op=b.op/\a.de=b.de/\a.sl=b.sl/\a.ss=b.ss/\a.va=b.va/\a.ki.map exN=b.ki.map exN/\a.bo.map exM=b.bo.map exM:=by
 cases a;cases b
 simp only[exN,BdY,Bem,Nd.mk.injEq,Nd.kd,Nd.cl,Nd.tx,Nd.pr,Nd.op,Nd.va,Nd.ki,Nd.bo,Nd.de,Nd.sl,Nd.ss,true_and]
 constructor
 ·rintro ⟨a1,a2,a3,a4,a5,a6,a7,a8,a9,a10,a11⟩;exact⟨a1,a2,a3,a4,a5,a9,a10,a11,a6,a7,a8⟩
 ·rintro ⟨a1,a2,a3,a4,a5,a9,a10,a11,a6,a7,a8⟩;exact⟨a1,a2,a3,a4,a5,a6,a7,a8,a9,a10,a11⟩
theorem BiH(a b:Sm):exM a=exM b↔a.kd=b.kd/\a.nm=b.nm/\a.sl=b.sl/\exN a.te=exN b.te/\exN a.nd=exN b.nd:=by
 cases a;cases b
 simp only[exM,Sm.mk.injEq,Sm.kd,Sm.nm,Sm.sl,Sm.te,Sm.nd,true_and]
end
end Go.Proofs.YtfbfnhbafjmnaaaGreat
