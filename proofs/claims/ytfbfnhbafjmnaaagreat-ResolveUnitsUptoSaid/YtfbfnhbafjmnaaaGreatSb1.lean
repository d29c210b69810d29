/- Functions of the given program and what each of them computes: lemmas towards the statement, their conditions stated with each of them. -/
import Derived.Test.YtfbfnhbafjmnaaaGreatS4
namespace Go.Proofs.YtfbfnhbafjmnaaaGreat
open Go Go.Ab
set_option maxRecDepth 100000
noncomputable section
def Gx(n:Nd):Bool:=decide (0<=n.at_)&&decide (0<=n.de)&&decide (0<=n.sl)&&decide (0<=n.ss)
def Cl(n:Nd)(tx pr op va ki bo:Bool):Bool:=(tx||n.tx.isEmpty)&&(pr||n.pr==0)&&(op||n.op==0)&&(va||Gn n.va)&&(ki||n.ki.isEmpty)&&(bo||n.bo.isEmpty)
def Cc(op:Int):Int:=if op<1\/11<op then 0 else if op<=5 then 3 else 4
def Gg(n:Nd):Bool :=
 if n.kd=1 then Cl n false false false true false false&&n.cl==1&&(BB n.va).1==0&&((n.va.sh.isEmpty&&n.va.k != 3)||(n.va.sh.length==1&&n.va.k==2))
 else if n.kd=2 then Cl n true false false false false false&&Cb n.tx&&decide (1<=n.cl)&&decide (n.cl<=4)
 else if n.kd=6\/n.kd=7\/n.kd=8 then Cl n false false false false false false&&n.cl==1
 else if n.kd=9 then Cl n false true false false false false&&n.cl==2&&decide (1<=n.pr)&&decide (n.pr<=55)
 else if n.kd=11\/n.kd=12\/n.kd=13 then Cl n false false false false false false&&n.cl==2
 else if n.kd=17 then Cl n false false true false false false&&Cc n.op != 0&&n.cl==Cc n.op
 else false
def Cn(n:Nd):Bool := Cl n false false false false true false &&
  (if n.kd = 3 then Bj n (List.replicate n.ki.length 1) && n.cl == 1 && decide (2 <= n.ki.length) && decide (n.ki.length <= 1000)
   else if n.kd = 4 then n.cl == 1 && Bj n [2,1]
   else if n.kd = 5 then n.cl == 1 && Bj n [2,1,1]
   else if n.kd = 14 then n.cl == 2 && Bj n [3,2]
   else if n.kd = 15 then n.cl == 2 && Bj n [4,2,EG n]
   else if n.kd = 16 then n.cl == 2 && (Bj n [2,2] || Bj n [2,2,2] || Bj n [1,2,2])
   else false)
theorem RW(p:Int):(EF p).isEmpty=!(decide (1<=p)&&decide (p<=55)):=by
 have h:∀n,n<56->(primL.getD n []).isEmpty=!(decide (1<=n)):=by decide +kernel
 unfold EF
 split
 ·rename_i hc
  have:(decide (1<=p)&&decide (p<=55))=false:=by
   rw[Bool.and_eq_false_iff,decide_eq_false_iff_not,decide_eq_false_iff_not];omega
  rw[this];rfl
 ·rename_i hc
  have:(decide (1<=p)&&decide (p<=55))=true:=by
   rw[Bool.and_eq_true,decide_eq_true_eq,decide_eq_true_eq];omega
  rw[this,h _ (by omega)]
  have:(1:Nat)<=p.toNat:=by omega
  simp[this]
theorem Be6(p:Int):(opT p).isEmpty=!(decide (1<=p)&&decide (p<=11)):=by
 have h:∀n,n<12->(opL.getD n []).isEmpty=!(decide (1<=n)):=by decide +kernel
 unfold opT
 split
 ·rename_i hc
  have:(decide (1<=p)&&decide (p<=11))=false:=by
   rw[Bool.and_eq_false_iff,decide_eq_false_iff_not,decide_eq_false_iff_not];omega
  rw[this];rfl
 ·rename_i hc
  have:(decide (1<=p)&&decide (p<=11))=true:=by
   rw[Bool.and_eq_true,decide_eq_true_eq,decide_eq_true_eq];omega
  rw[this,h _ (by omega)]
  have:(1:Nat)<=p.toNat:=by omega
  simp[this]
theorem MU(n:Nd):ED n n.kd=(Gx n&&(n.tx.isEmpty||n.kd==2)&&(n.pr==0||n.kd==9)&&(n.op==0||n.kd==17)&&(Gn n.va||n.kd==1)&&(n.bo.isEmpty||n.kd==10)):=by
 unfold ED Gx
 simp
theorem RA(op:Int):(Cc op != 0)=(decide (1<=op)&&decide (op<=11))/\((Cc op != 0)=true->Cc op=if op<=5 then 3 else 4):=by
 unfold Cc
 by_cases h:op<1\/11<op
 ·rw[if_pos h]
  have:(decide (1<=op)&&decide (op<=11))=false:=by
   rw[Bool.and_eq_false_iff,decide_eq_false_iff_not,decide_eq_false_iff_not];omega
  rw[this]
  exact⟨rfl,fun h=>by cases h⟩
 ·rw[if_neg h]
  have:(decide (1<=op)&&decide (op<=11))=true:=by
   rw[Bool.and_eq_true,decide_eq_true_eq,decide_eq_true_eq];omega
  rw[this]
  refine⟨?_,fun _=>rfl⟩
  split<;>rfl
theorem Ban(n:Nd)(v:Bool)(h:n.kd≠10):(Gx n&&(Gg n||(Cn n&&v)))=(ED n n.kd&&(EN n||(Ej n&&v))):=by
 rw[MU]
 obtain ⟨o1,o2⟩:=RA n.op
 have h10:(n.kd==10)=false:=by simpa using h
 cases hp:Gx n with
 |false=>simp
 |true =>
  unfold Gg Cn EN Ej Cl
  by_cases e1:n.kd=1
  ·simp[e1]
   cases n.tx.isEmpty<;>cases n.ki.isEmpty<;>cases n.bo.isEmpty<;>simp
   ac_rfl
  by_cases e2:n.kd=2
  ·simp[e2]
   cases n.ki.isEmpty<;>cases n.bo.isEmpty<;>simp
   ac_rfl
  by_cases e3:n.kd=3
  ·simp[e3]
   cases n.tx.isEmpty<;>cases n.bo.isEmpty<;>simp
   ac_rfl
  by_cases e4:n.kd=4
  ·simp[e4]
   cases n.tx.isEmpty<;>cases n.bo.isEmpty<;>simp
   ac_rfl
  by_cases e5:n.kd=5
  ·simp[e5]
   cases n.tx.isEmpty<;>cases n.bo.isEmpty<;>simp
   ac_rfl
  by_cases e6:n.kd=6\/n.kd=7\/n.kd=8
  ·rcases e6 with e | e | e <;>
   ·simp[e]
    cases n.tx.isEmpty<;>cases n.ki.isEmpty<;>cases n.bo.isEmpty<;>simp
  by_cases e9:n.kd=9
  ·simp[e9,RW]
   cases n.tx.isEmpty<;>cases n.ki.isEmpty<;>cases n.bo.isEmpty<;>simp
   ac_rfl
  by_cases e11:n.kd=11\/n.kd=12\/n.kd=13
  ·rcases e11 with e | e | e <;>
   ·simp[e]
    cases n.tx.isEmpty<;>cases n.ki.isEmpty<;>cases n.bo.isEmpty<;>simp
  by_cases e14:n.kd=14
  ·simp[e14]
   cases n.tx.isEmpty<;>cases n.bo.isEmpty<;>simp
   ac_rfl
  by_cases e15:n.kd=15
  ·simp[e15]
   cases n.tx.isEmpty<;>cases n.bo.isEmpty<;>simp
   ac_rfl
  by_cases e16:n.kd=16
  ·simp[e16]
   cases n.tx.isEmpty<;>cases n.bo.isEmpty<;>simp
   ac_rfl
  by_cases e17:n.kd=17
  ·simp only[e17]
   rw[Be6,<- o1]
   cases ho:Cc n.op != 0 with
   |false=>simp
   |true =>
    rw[o2 ho]
    simp
    cases n.tx.isEmpty<;>cases n.ki.isEmpty<;>cases n.bo.isEmpty<;>simp
  ·simp only[e1,e2,e3,e4,e5,e6,e9,e11,e14,e15,e16,e17,if_false]
   simp
mutual
def BL(k:Int):Nd->Bool
 |.mk kd _ _ _ _ _ _ ki _ _ _ _=>kd==k||Oi k ki
def Oi(k:Int):List Nd->Bool
 | []=>false
 |x::r=>BL k x||Oi k r
end
def Ca(l:List Sm)(k:Int):Bool:=l.any fun s=>BL k s.te||BL k s.nd
theorem I0(k:Int):∀l:List Nd,Oi k l=l.any (BL k)
 | []=>by simp only[Oi,List.any_nil]
 |x::r=>by simp only[Oi,List.any_cons,I0 k r]
theorem Iu(k:Int)(n:Nd):BL k n=(n.kd==k||n.ki.any (BL k)):=by
 cases n
 simp only[BL,I0]
 rfl
theorem E1(k:Int)(n:Nd)(h:BC n=true):BL k n=Gs k n:=by
 obtain ⟨h1,h2⟩:=ER h
 rw[Iu,BcI]
 have e:n.ki.any (BL k)=n.ki.any (Gs k):=GW fun x hx=>by
  have:=Nd.size_kid hx
  exact E1 k x (h1 x hx)
 rw[e]
 by_cases hk:n.kd=10
 ·rw[h2 hk];simp
 ·have:(n.kd != 10)=true:=by simpa using hk
  rw[this,Bool.true_and]
termination_by SizeOf.sizeOf n
theorem Uq{n:Nd}{k:Int}(h:B4 n=true)(hk:k≠0):BL k n=false:=by
 unfold B4 at h
 simp only[Bool.and_eq_true,beq_iff_eq,List.isEmpty_iff] at h
 obtain ⟨⟨⟨⟨⟨⟨⟨h1,_⟩,_⟩,_⟩,_⟩,_⟩,_⟩,h2⟩:=h
 rw[Iu,h1,h2]
 have:((0:Int)==k)=false:=by simpa using fun e=>hk e.symm
 rw[this];rfl
theorem IT{g:Bool}:∀ {l:List Sm} {names:List (List UInt8)},BR g names l=true->∀s∈l,BC s.nd=true/\((s.kd=3/\BC s.te=true/\g=true)\/(s.kd≠3/\B4 s.te=true))
 | [],_,_,s,hs=>by simp at hs
 |x::r,names,h,s,hs=>by
  simp only[BR,Bool.and_eq_true] at h
  rcases List.mem_cons.1 hs with rfl | hs
  ·have h:=h.1
   rw[Et] at h
   simp only[Bool.and_eq_true] at h
   refine⟨h.1.2,?_⟩
   have h:=h.2
   by_cases h1:s.kd=1
   ·rw[if_pos h1] at h
    simp only[Bool.and_eq_true] at h
    exact .inr ⟨by omega,h.2⟩
   ·rw[if_neg h1] at h
    by_cases h2:s.kd=2
    ·rw[if_pos h2] at h
     simp only[Bool.and_eq_true] at h
     exact .inr ⟨by omega,h.2⟩
    ·rw[if_neg h2] at h
     by_cases h3:s.kd=3
     ·rw[if_pos h3] at h
      simp only[Bool.and_eq_true] at h
      exact .inl ⟨h3,h.1.1.1.1.2,h.1.1.1.1.1⟩
     ·rw[if_neg h3] at h;cases h
  ·exact IT h.2 s hs
theorem Cm{g:Bool}{l:List Sm}(h:BF g l=true){k:Int}(hk:k≠0):Ca l k=C8 l k:=by
 unfold BF at h
 rw[Bool.and_eq_true] at h
 unfold Ca C8
 refine GW fun s hs=>?_
 obtain ⟨h1,h2⟩:=IT h.2 s hs
 unfold Bs
 rcases h2 with ⟨h3,h4,_⟩ | ⟨h3,h4⟩
 ·rw[if_pos h3,E1 k _ h1,E1 k _ h4]
  simp
 ·rw[if_neg h3,E1 k _ h1,Uq h4 hk]
  simp
def Ik(n:Nd):Bool:=Cl n false false false false false true&&!n.bo.isEmpty&&(n.bo.getD (n.bo.length-1) default).kd==1&&BF true n.bo &&
 (if Ca n.bo 13=true then n.cl==4 else if Ca n.bo 12=true then n.cl==3 else n.cl==2)
theorem BbQ(n:Nd)(h:n.kd=10):(Gx n&&Ik n)=(ED n n.kd&&(Mz n&&BF true n.bo)):=by
 rw[MU]
 have e2:(n.kd==2)=false:=by rw[h];rfl
 have e9:(n.kd==9)=false:=by rw[h];rfl
 have e17:(n.kd==17)=false:=by rw[h];rfl
 have e1:(n.kd==1)=false:=by rw[h];rfl
 have e10:(n.kd==10)=true:=by rw[h];rfl
 rw[e2,e9,e17,e1,e10]
 unfold Ik Mz Cl
 cases hb:BF true n.bo with
 |false=>simp
 |true =>
  rw[Cm hb (by decide),Cm hb (by decide)]
  cases C8 n.bo 12<;>cases C8 n.bo 13<;>cases n.ki.isEmpty<;>cases n.bo.isEmpty<;>simp
  all_goals first
   |ac_rfl
   |skip
  all_goals by_cases c2:n.cl=2<;>by_cases c3:n.cl=3<;>by_cases c4:n.cl=4<;>simp[c2,c3,c4]<;>first | omega | ac_rfl
theorem UT(n:Nd):BC n=(Gx n&&(if n.kd=10 then Ik n else Gg n||(Cn n&&n.ki.all BC))):=by
 rw[Io]
 by_cases h:n.kd=10
 ·rw[if_pos h,if_pos h,BbQ n h]
 ·rw[if_neg h,if_neg h,Ban n _ h]
noncomputable def Ern(s:List UInt8):Senv:={ EC BdW 47 1 [2,3,14,18,46] (fun _=>([],[])) with
 mg:=fun _=>2
 ann:=fun b _ S=>match b with
  |0=>some { slots:=[3],keep:=[0],α:=Nat,st:=fun y=>([.int .i64 y],S),inv:=fun y=>y<=s.length/\(s.take y).all Mp=true/\(0<y->low (s.getD 0 0)=true),mu:=fun y=>s.length-y }
  |_=>none }
def Jz(a:List UInt8):Prop:=True/\∃(_y:Unit),True/\false=Cb a/\True/\True
def H0(a:Nat)(b:List UInt8):Prop:=a<=LN b/\List.all (List.take a b) Mp=true/\(N0<a->low (List.getD b N0 U0)=true)
def Yq(a:List UInt8)(b:Nat):Int:=(BI a (Int.toNat (↑b:Int)))
def Qc9(a:List UInt8)(b:Nat):Prop:=(SM (D.str a)/\True)/\∃(y:Nat),H0 y a/\LN a-y<LN a-b/\(IntKind.wrap IntKind.i64 ((↑b:Int)+Z1)=(↑y:Int)/\True)/\True/\True
def Qda(a:Nat)(b:List UInt8):Prop:=ifB ((↑a:Int)==Z0) (Jz b) (Bf (Z0<=(↑a:Int)/\(↑a:Int)<(LI b)) (ifB (decide (Yq b a<48)) (Jz b) (Bf (Z0<=(↑a:Int)/\(↑a:Int)<(LI b)) (ifB (decide ((57:Int)<Yq b a)) (Jz b) (Qc9 b a)))))
theorem Bd1(s:List UInt8):ACalls Tryz.prog 79 [.str s] ⟨[],[]⟩ (SpecR (sC [.str s] (.bool (Cb s))) ()):=by
 refine Bh (A:=sC _ _) (x:=()) (E:=Ern s) (eOk Bay rfl) Tryz.func79 rfl (by kernel_rfl) rfl (by simp[sC,Ern,EC,E0]) ?_
 refine Bl (T :=
  ifB (s==[]) (Jz s) (ifB (decide ((32:Int)<(LI s))) (Jz s) (LN s<=8589934592/\∀(y:Unit),True->ifB (R8 s) (Jz s) ((∃(x:Nat),H0 x s/\(Z0=(↑x:Int)/\True)/\True/\True)/\∀(x:Nat),H0 x s->ifB (decide ((↑x:Int)<(LI s))) (Bf (Z0<=(↑x:Int)/\(↑x:Int)<(LI s)) (ifB (decide (Yq s x<97)) (Qda x s) (Bf (Z0<=(↑x:Int)/\(↑x:Int)<(LI s)) (ifB (decide ((122:Int)<Yq s x)) (Qda x s) (Qc9 s x))))) (RT (true=Cb s)))))) (by kernel_rfl) ?_
 delta BI LI LN N0 SM U0 Z0 Z1 Yq Qc9 Qda Jz H0 RT
 simp only[eq_self,ne_eq,Int.toNat_natCast,Bg,Be,decide_eq_true_eq,decide_eq_false_iff_not,true_and,and_true,beq_iff_eq,beq_eq_false_iff_ne,exists_const,forall_const]
 refine⟨fun h=>Cd fun e=>(B5 e).1 h,fun k1=>⟨fun h=>Cd fun e=>by have:=(B5 e).2.1;omega,fun k2=>⟨by omega,fun h=>Cd fun e=>?_,fun k3=>?_⟩⟩⟩
 ·unfold Cb at e
  rw[h] at e
  simp at e
 have hl:0<s.length:=List.length_pos_iff.2 k1
 have lo:∀b:UInt8,low b=true↔(97<=b.toNat/\b.toNat<=122):=fun b=>by
  unfold low
  simp only[Bool.and_eq_true,decide_eq_true_eq]
 refine⟨⟨0,⟨Nat.zero_le _,rfl,fun h=>absurd h (by omega)⟩,rfl⟩,fun x ⟨hx,ht,h0⟩=>⟨fun hlt=>?_,fun hge=>?_⟩⟩
 ·have hx':x<s.length:=by omega
  have w:IntKind.i64.wrap ((x:Int)+1)=((x+1:Nat):Int):=by rw[Bb (by omega) (by omega)];rfl
  have go:((97<=(s.getD x 0).toNat/\(s.getD x 0).toNat<=122)\/(48<=(s.getD x 0).toNat/\(s.getD x 0).toNat<=57))->(x=0->(97<=(s.getD x 0).toNat/\(s.getD x 0).toNat<=122))->∃y,(y<=s.length/\(List.take y s).all Mp=true/\(0<y->low (s.getD 0 0)=true))/\s.length-y<s.length-x/\IntKind.i64.wrap ((x:Int)+1)=(y:Int):=fun hc h1 =>
   ⟨x+1,⟨hx',Rz hx' ht ((TC _).2 hc),fun _=>by
    by_cases e:x=0
    ·subst e;exact (lo _).2 (h1 rfl)
    ·exact h0 (by omega)⟩,by omega,w⟩
  have no:¬((97<=(s.getD x 0).toNat/\(s.getD x 0).toNat<=122)\/(48<=(s.getD x 0).toNat/\(s.getD x 0).toNat<=57))->false=Cb s:=fun hc=>Cd fun e=>hc ((B5 e).2.2.2.2.2.1 x hx')
  have n0:(x:Int)=0->¬(97<=(s.getD x 0).toNat/\(s.getD x 0).toNat<=122)->false=Cb s:=fun hx0 hc=>Cd fun e=>hc (by
   have:x=0:=by omega
   rw[this];exact (B5 e).2.2.2.2.1)
  exact⟨⟨by omega,by omega⟩,fun a1=>⟨fun a2=>n0 a2 (by omega),fun a2=>⟨⟨by omega,by omega⟩,fun a3=>no (by omega),fun a3=>⟨⟨by omega,by omega⟩,fun a4=>no (by omega),fun a4=>go (by omega) (by omega)⟩⟩⟩,
   fun a1=>⟨⟨by omega,by omega⟩,fun b=>⟨fun a2=>n0 a2 (by omega),fun a2=>⟨⟨by omega,by omega⟩,fun a3=>no (by omega),fun a3=>⟨⟨by omega,by omega⟩,fun a4=>no (by omega),fun a4=>go (by omega) (by omega)⟩⟩⟩,fun b=>go (by omega) (by omega)⟩⟩
 ·have:x=s.length:=by omega
  rw[this,List.take_length] at ht
  have hp:Tc s=true:=(I8 s).2 ⟨k1,h0 (by omega),ht⟩
  unfold Cb
  rw[hp,k3,decide_eq_true (by omega)]
  rfl
noncomputable def Ernum:Senv:=EC CK 9 1 [2] (fun _=>([],[]))
def H1(a:Int):Bool:=bif decide ((-4611686018427387903:Int)<=a) then decide (a<=4611686018427387903) else false
theorem Bcj(z:Int):ACalls Tryz.prog 153 [.int .i64 z] ⟨[],[]⟩ (SpecR (sC [.int .i64 z] (.bool (Uf z))) ()):=by
 refine Bh (A:=sC _ _) (x:=()) (E:=Ernum) (eOk BE rfl) Tryz.func153 rfl (by kernel_rfl) rfl (by simp[sC,Ernum,EC,E0]) ?_
 refine Bl (T :=
  ifB (decide ((-4611686018427387903:Int)<=z)) (decide (z<=4611686018427387903)=H1 z/\True) (false=H1 z/\True)/\RT (H1 z=Uf z)) (by kernel_rfl) ?_
 delta H1 RT
 simp only[Bg,decide_eq_true_eq,decide_eq_false_iff_not,true_and,and_true,Bool.cond_false_right,exists_const]
 refine⟨⟨fun h=>by rw[decide_eq_true h];rfl,fun h=>by rw[decide_eq_false h];rfl⟩,rfl⟩
noncomputable def Erchr:Senv:=EC CK 17 1 [2] (fun _=>([],[]))
def Yr(a:Int):Bool:=bif bif decide (Z0<=a) then decide (a<=1114111) else false then bif decide (a<55296) then true else decide ((57343:Int)<a) else false
def Qdb(a:Int):Prop:=false=Yr a/\True
theorem Bcg(z:Int):ACalls Tryz.prog 154 [.int .i64 z] ⟨[],[]⟩ (SpecR (sC [.int .i64 z] (.bool (Ug z))) ()):=by
 refine Bh (A:=sC _ _) (x:=()) (E:=Erchr) (eOk BE rfl) Tryz.func154 rfl (by kernel_rfl) rfl (by simp[sC,Erchr,EC,E0]) ?_
 refine Bl (T :=
  ifB (decide (Z0<=z)) (ifB (decide (z<=1114111)) (ifB (decide (z<55296)) (true=Yr z/\True) (decide ((57343:Int)<z)=Yr z/\True)) (Qdb z)) (Qdb z)/\RT (Yr z=Ug z)) (by kernel_rfl) ?_
 delta Z0 Yr Qdb RT
 simp only[Bg,decide_eq_true_eq,decide_eq_false_iff_not,true_and,and_true,Bool.cond_false_right,Bool.cond_true_left,exists_const]
 refine⟨⟨fun h1=>⟨fun h2=>⟨fun h3=>by simp[h1,h2,h3],fun h3=>by simp[h1,h2,h3]⟩,fun h2=>by simp[h1,h2]⟩,fun h1=>by simp[h1]⟩,rfl⟩
def B9(k:Int)(nn ni:Nat):Int:=if k=1\/k=2 then nn else if k=3 then ni else 0
noncomputable def Esz:Senv:=EC CK 16 3 [4,5,11] (fun _=>([],[]))
def Qdc(a b:Nat)(c:Int)(d:Nat):Prop:=SM a/\True/\∃(_y:Unit),True/\(↑b:Int)=B9 c b d/\True/\True
def Qdd(a:Int)(b c d:Nat):Prop:=ifB (a==3) (SM b/\True/\∃(_y:Unit),True/\(↑c:Int)=B9 a d c/\True/\True) (True/\∃(_y:Unit),True/\Z0=B9 a d c/\True/\True)
theorem Biw(k : Int)(ns nn ni : Nat)(f g h : Nat -> List D) :
  ACalls Tryz.prog 151 [.agg [.int .i64 k,.sl 1 ns f .any,.sl 1 nn g .any,.sl 4 ni h .any]] ⟨[],[]⟩ (SpecR (sC [.agg [.int .i64 k,.sl 1 ns f .any,.sl 1 nn g .any,.sl 4 ni h .any]] (.int .i64 (B9 k nn ni))) ()):=by
 refine Bh (A:=sC _ _) (x:=()) (E:=Esz) (eOk BE rfl) Tryz.func151 rfl (by kernel_rfl) rfl (by simp[sC,Esz,EC,E0]) ?_
 refine Bl (T :=
  ∀(x:Nat),True->SM x/\ifB (k==Z1) (ifB (k==Z1) (Qdc x nn k ni) (Qdd k x ni nn)) (ifB (k==2) (Qdc x nn k ni) (Qdd k x ni nn))) (by kernel_rfl) ?_
 delta SM Z0 Z1 Qdc Qdd
 simp only[Bg,true_and,and_true,beq_iff_eq,beq_eq_false_iff_ne,ne_eq,exists_const,forall_const]
 repeat' (first
  |refine And.intro ?_ ?_
  |intro _)
 all_goals first
  |(simp_all[B9];done)
  |grind [B9]
  |trace_state
def Tr:Con:=fun k ds S=>match k with
 |151=>match ds with
  | [.agg [.int .i64 k,.sl 1 _ _ _,.sl 1 nn _ _,.sl 4 ni _ _]]=>some (pC ds (.int .i64 (B9 k nn ni)) True)
  |_=>none
 |153=>match ds with
  | [.int .i64 z]=>some (pC [.int .i64 z] (.bool (Uf z)) True)
  |_=>none
 |154=>match ds with
  | [.int .i64 z]=>some (pC [.int .i64 z] (.bool (Ug z)) True)
  |_=>none
 |k=>Bbm k ds S
theorem Oc:ConOk Tryz.prog Tr:=by
 intro k ds S A h
 unfold Tr at h
 split at h
 ·split at h
  ·rename_i k ns f _ nn g _ ni g' _
   injection h with h;subst h
   refine C4 fun _=>⟨Bo _,CU (us:=[.agg [.int .i64 k,.sl 1 ns f .any,.sl 1 nn g .any,.sl 4 ni g' .any]]) ?_ (Biw _ _ _ _ _ _ _)⟩
   refine⟨?_,trivial⟩
   simp only[Br,BS]
   refine⟨by simp[Ba,kEq],?_,?_,?_,trivial⟩
   ·simp[Ba,BG]
   ·simp[Ba,BG]
   ·simp[Ba,BG]
  ·cases h
 ·split at h
  ·injection h with h;subst h
   exact C4 fun _=>⟨Bo _,Bcj _⟩
  ·cases h
 ·split at h
  ·injection h with h;subst h
   exact C4 fun _=>⟨Bo _,Bcg _⟩
  ·cases h
 ·exact Ud _ _ _ _ h
mutual
def wtA:Arr->Int
 |.mk k _ n is=>min (wtL k is (B9 k n.length is.length)) 262145
def wtL(k:Int):List Arr->Int->Int
 | [],n=>n
 |x::r,n=>if k=3/\n<=262144 then wtL k r (n+wtA x) else n
end
theorem Ro(a:Arr):wtA a=min (wtL a.k a.it (B9 a.k a.nu.length a.it.length)) 262145:=by
 cases a with
 |mk k s n is=>rw[wtA];rfl
theorem T8(k:Int):∀(l:List Arr) (n:Int),0<=n->(∀x∈l,0<=wtA x)->0<=wtL k l n
 | [],n,h,_=>by rw[wtL];exact h
 |x::r,n,h,h2=>by
  rw[wtL]
  have:=h2 x (by simp)
  split
  ·exact T8 k r _ (by omega) fun y hy=>h2 y (by simp[hy])
  ·exact h
theorem In:∀(a:Arr),0<=wtA a/\wtA a<=262145
 |.mk k s n is=>by
  rw[wtA]
  have hs:0<=B9 k n.length is.length:=by unfold B9;split<;>(try split)<;>omega
  have:=T8 k is _ hs fun x hx=>(In x).1
  omega
termination_by a=>SizeOf.sizeOf a
decreasing_by
 have:=List.sizeOf_lt_of_mem hx
 simp;omega
def sRc(row:Arr->List D)(q:Arr->Prop)(r:Arr->D):FnSpec where
 β:=Arr
 α:=Unit
 args:=fun a=>[.agg (row a)]
 st:=fun _=>⟨[],[]⟩
 pre:=q
 post:=fun _ _=>True
 res:=fun a _=>.ret (r a)
 out:=fun _ _=>⟨[],[]⟩
def WZ(its:List Arr):Con:=fun k ds S=>match k with
 |155=>some (sRc Arr.row1 (fun b=>b∈its) (fun b=>.int .i64 (wtA b)))
 |k=>Tr k ds S
theorem Tw{k:Nat}{q q':Arr->Prop}{r:Arr->D}{b:Arr}(h:ACalls Tryz.prog k ((sRc Arr.row2 q r).args b) ⟨[],[]⟩ (SpecR (sRc Arr.row2 q r) b)):ACalls Tryz.prog k ((sRc Arr.row1 q' r).args b) ⟨[],[]⟩ (SpecR (sRc Arr.row1 q' r) b):=by
 refine (h.wkArgs ?_).mono fun _ _ ⟨y,h1,h2,h3⟩=>⟨y,h1,h2,h3⟩
 simp only[sRc,wkL,wkD]
 exact⟨Eh b,trivial⟩
theorem RV{its:List Arr}(ih:∀b∈its,ACalls Tryz.prog 155 ((sRc Arr.row2 (fun _=>True) (fun b=>.int .i64 (wtA b))).args b) ⟨[],[]⟩ (SpecR (sRc Arr.row2 (fun _=>True) (fun b=>.int .i64 (wtA b))) b)):ConOk Tryz.prog (WZ its):=by
 intro k ds S A h
 unfold WZ at h
 split at h
 ·injection h with h;subst h
  exact ConOk.plain (fun b hb=>Tw (ih b hb)) rfl rfl
 ·exact Oc _ _ _ _ h
noncomputable def Ewt(a:Arr):Senv:={ EC (WZ a.it) 33 5 [20] (fun _=>([],[])) with
 ann:=fun b _ S=>match b with
  |0=>some { slots:=[3,4],keep:=[0,1,2],α:=Nat×Int,st:=fun y=>([.int .i64 y.2,.int .i64 y.1],S),inv:=fun y=>y.1<=a.it.length/\0<=y.2/\y.2<=maxLen/\wtL a.k (a.it.drop y.1) y.2=wtL a.k a.it (B9 a.k a.nu.length a.it.length),mu:=fun y=>a.it.length-y.1 }
  |_=>none }
def JA(a:Arr):List Arr:=Arr.it a
def KA(a:Arr):Nat:=LN (JA a)
def KT(a:Arr):Int:=Arr.k a
def V5(a:Arr):Nat:=LN (Arr.nu a)
def Qde(a:Arr):Int:=B9 (KT a) (V5 a) (KA a)
def H2(a:Nat)(b:Arr)(c:Int):Prop:=a<=KA b/\Z0<=c/\c<=9223372036854775807/\wtL (KT b) (List.drop a (JA b)) c=wtL (KT b) (JA b) (Qde b)
def Ys(a:Arr):Nat:=LN (Arr.sh a)
def H3(a:Arr)(b:Nat):List D:=[ZI (GI (Arr.sh a) b)]
def H4(a:Arr)(b:Nat):List D:=[ZI (GI (Arr.nu a) b)]
def Yt:Arr:=DA
def V6(a:Arr)(b:Nat):Arr:=List.getD (JA a) b Yt
def Qoz(a:Arr)(b:Nat):List Int:=Arr.sh (V6 a b)
def QoA(a:Arr)(b:Nat):List Int:=Arr.nu (V6 a b)
def Qdf(a:Arr)(b:Nat):List Arr:=Arr.it (V6 a b)
def Qdg(a:Arr)(b:Nat):List D:=[ZI (Arr.k (V6 a b)),SI (Qoz a b),SI (QoA a b),D.sl N4 (LN (Qdf a b)) (fun i=>Arr.row (List.getD (Qdf a b) i Yt)) Mode.any]
def Qdh(a:Nat)(b:Arr):Prop:=(SM a/\(SM (KT b)/\(SM (Ys b)/\(∀(i:Nat),i<Ys b->SM (H3 b i))/\True)/\(SM (V5 b)/\(∀(i:Nat),i<V5 b->SM (H4 b i))/\True)/\(SM (KA b)/\(∀(i:Nat),i<KA b->SM (Qdg b i))/\True)/\True)/\True)/\True
def Qdi(a:Nat)(b:Arr):Bool:=decide ((↑a:Int)<(NI (KA b)))
def H5(a:Nat)(b:Arr)(c:Int):Bool:=bif bif Qdi a b then KT b==3 else false then decide (c<=262144) else false
def Qdj(a:Nat)(b:Arr)(c:Int):Prop:=false=H5 a b c/\True
def Yu(a:Arr)(b:Nat):Arr:=List.getD (JA a) (Int.toNat (↑b:Int)) Yt
def Qdk(a:Arr)(b:Nat):List Int:=Arr.sh (Yu a b)
def Qdl(a:Arr)(b:Nat):Nat:=LN (Qdk a b)
def Qdm(a:Arr)(b:Nat):List Int:=Arr.nu (Yu a b)
def Qdn(a:Arr)(b:Nat):Nat:=LN (Qdm a b)
def Qdo(a:Arr)(b:Nat):List Arr:=Arr.it (Yu a b)
def Qdp(a:Arr)(b:Nat):Nat:=LN (Qdo a b)
def QoB(a:Arr):D:=D.agg [ZI (KT a),D.sl N1 (Ys a) (fun i=>H3 a i) Mode.any,D.sl N1 (V5 a) (fun i=>H4 a i) Mode.any,D.sl N4 (KA a) (fun i=>Qdg a i) Mode.any]
theorem Bb5(a : Arr)(ha : a.nu.length<=maxLen /\ a.it.length<=maxLen /\ a.sh.length<=maxLen)(ih : ∀b∈a.it, ACalls Tryz.prog 155 ((sRc Arr.row2 (fun _=>True) (fun b=>.int .i64 (wtA b))).args b) ⟨[], []⟩ (SpecR (sRc Arr.row2 (fun _=>True) (fun b=>.int .i64 (wtA b))) b)) :
  ACalls Tryz.prog 155 ((sRc Arr.row2 (fun _=>True) (fun b=>.int .i64 (wtA b))).args a) ⟨[],[]⟩ (SpecR (sRc Arr.row2 (fun _=>True) (fun b=>.int .i64 (wtA b))) a):=by
 refine Bh (A:=sRc Arr.row2 (fun _=>True) (fun b=>.int .i64 (wtA b))) (x:=a) (E:=Ewt a) (eOk (RV ih) rfl) Tryz.func155 rfl (by kernel_rfl) rfl (by simp[sRc,Ewt,EC,E0]) ?_
 refine Bl (T :=
  ∀(x:Nat),True->SM x/\True/\∀(y:Unit),True->(∃(x_1:Nat×Int),H2 x_1.1 a x_1.2/\(Qde a=x_1.2/\Z0=(NI x_1.1)/\True)/\Qdh x a)/\∀(x_1:Nat×Int),H2 x_1.1 a x_1.2->(SM x/\ifB (Qdi x_1.1 a) (SM x/\ifB (KT a==3) (decide (x_1.2<=262144)=H5 x_1.1 a x_1.2/\True) (Qdj x_1.1 a x_1.2)) (Qdj x_1.1 a x_1.2))/\ifB (H5 x_1.1 a x_1.2) (SM x/\Bf (Z0<=(NI x_1.1)/\(NI x_1.1)<(NI (KA a))) (∃(x_2:Arr),((Arr.k (Yu a x_1.1)=KT x_2/\(Qdl a x_1.1=Ys x_2/\(∀(i:Nat),i<Qdl a x_1.1->[ZI (GI (Qdk a x_1.1) i)]=H3 x_2 i)/\True)/\(Qdn a x_1.1=V5 x_2/\(∀(i:Nat),i<Qdn a x_1.1->[ZI (GI (Qdm a x_1.1) i)]=H4 x_2 i)/\True)/\(Qdp a x_1.1=KA x_2/\(∀(i:Nat),i<Qdp a x_1.1->Arr.row (List.getD (Qdo a x_1.1) i Yt)=Arr.row (V6 x_2 i))/\True)/\True)/\True)/\(True/\True)/\x_2∈JA a/\∀(y:Unit),True->(SM (QoB a)/\SM (D.ref N0 x N0)/\SM (ZI Z0)/\True)/\∃(y:Nat×Int),H2 y.1 a y.2/\KA a-y.1<KA a-x_1.1/\(IntKind.wrap IntKind.i64 (x_1.2+wtA x_2)=y.2/\IntKind.wrap IntKind.i64 ((NI x_1.1)+Z1)=(NI y.1)/\True)/\Qdh x a)) (RT ((if (262145:Int)<x_1.2 then (262145:Int) else x_1.2)=wtA a))) (by kernel_rfl) ?_
 delta DA GI LN N0 N1 N4 NI SI SM Z0 Z1 ZI H2 Ys H3 H4 Yt V6 Qoz QoA Qdf Qdg Qdh Qdi H5 Qdj Yu Qdk Qdl Qdm Qdn Qdo Qdp QoB JA KA KT V5 Qde RT
 have da:(default:Arr)=Arr.mk 0 [] [] []:=rfl
 simp only[<- da,Int.toNat_natCast,Bg,Be,decide_eq_true_eq,decide_eq_false_iff_not,true_and,and_true,beq_iff_eq,Bool.cond_false_right,Bool.and_eq_true,Bool.and_eq_false_iff,beq_eq_false_iff_ne,ne_eq,exists_const,forall_const]
 obtain ⟨l1,l2,l3⟩:=ha
 simp only[maxLen] at l1 l2 l3
 have tt:(∀i:Nat,i<a.sh.length->True)/\(∀i:Nat,i<a.nu.length->True)/\∀i:Nat,i<a.it.length->True:=⟨fun _ _=>trivial,fun _ _=>trivial,fun _ _=>trivial⟩
 have hsz:0<=B9 a.k a.nu.length a.it.length/\B9 a.k a.nu.length a.it.length<=9223372036854775807:=by
  unfold B9;split<;>(try split)<;>omega
 refine⟨⟨(0,B9 a.k a.nu.length a.it.length),⟨Nat.zero_le _,hsz.1,hsz.2,rfl⟩,⟨rfl,rfl⟩,tt⟩,?_⟩
 rintro ⟨j,n⟩ ⟨b1,b2,b3,hch⟩
 simp only at b1 b2 b3 hch ⊢
 refine⟨⟨fun h1=>⟨fun h2=>by simp[h1,h2],fun h2=>by simp[h2]⟩,fun h1=>by simp[h1]⟩,fun ⟨⟨h1,h2⟩,h3⟩=>⟨by omega,?_⟩,fun hc=>?_⟩
 ·have hlt':j<a.it.length:=by omega
  have hbd:=In (a.it.getD j default)
  rw[BN hlt',wtL,if_pos ⟨h2,h3⟩] at hch
  refine⟨a.it.getD j default,⟨rfl,⟨rfl,fun _ _=>rfl⟩,⟨rfl,fun _ _=>rfl⟩,rfl,fun _ _=>rfl⟩,EM hlt',(j+1,n+wtA (a.it.getD j default)),⟨by simp only;omega,by simp only;omega,by simp only;omega,hch⟩,by simp only;omega,⟨Bb (by omega) (by omega),Bb (by omega) (by omega)⟩,tt⟩
 ·have he:wtL a.k (a.it.drop j) n=n:=by
   by_cases hj:j<a.it.length
   ·rw[BN hj,wtL,if_neg (by rintro ⟨h2,h3⟩;rcases hc with (h | h) | h<;>omega)]
   ·rw[List.drop_eq_nil_of_le (by omega),wtL]
  rw[he] at hch
  rw[Ro,<- hch]
  split<;>omega
theorem Bak:∀(a:Arr),a.ok->ACalls Tryz.prog 155 ((sRc Arr.row2 (fun _=>True) (fun b=>.int .i64 (wtA b))).args a) ⟨[],[]⟩ (SpecR (sRc Arr.row2 (fun _=>True) (fun b=>.int .i64 (wtA b))) a)
 |.mk k s n is,h=>by
  have h':=h
  simp only[Arr.ok] at h'
  obtain ⟨_,_,_,h1,h2,h3,h4⟩:=h'
  refine Bb5 (.mk k s n is) ⟨h2,h3,h1⟩ fun b hb=>?_
  have hb':b∈is:=hb
  exact Bak b ((Ev _).1 h4 b hb')
termination_by a=>SizeOf.sizeOf a
decreasing_by
 have:=List.sizeOf_lt_of_mem hb'
 simp;omega
theorem Og:∀(l:List Arr) (d d' w':Int),CP l d 262145=some (d',w')->w'=262145
 | [],d,d',w',h=>by rw[CP] at h;injection h with h;injection h with e1 e2;omega
 |x::r,d,d',w',h=>by
  rw[CP] at h
  have:=C3 x
  split at h
  ·cases h
  ·have e:(if (262145:Int)<262145+(BB x).2.2 then 262145 else 262145+(BB x).2.2)=262145:=by split<;>omega
   rw[e] at h;exact Og r _ d' w' h
theorem Ub(k:Int):∀(l:List Arr) (d w d' w':Int),CP l d w=some (d',w')->(k=3\/l=[])->(∀x∈l,(BB x).1=0->wtA x=(BB x).2.2)->∀n,min n 262145=w->min (wtL k l n) 262145=w'
 | [],d,w,d',w',h,_,_,n,hn=>by
  rw[CP] at h;injection h with h;injection h with e1 e2;rw[wtL];omega
 |x::r,d,w,d',w',h,hk,h3,n,hn=>by
  have hk:k=3:=hk.resolve_right (by simp)
  rw[CP] at h
  have hb:=C3 x
  split at h
  ·cases h
  ·rename_i hx
   have hx:(BB x).1=0:=by simpa using hx
   have hwx:=h3 x (by simp) hx
   rw[wtL]
   by_cases hn2:n<=262144
   ·rw[if_pos ⟨hk,hn2⟩]
    refine Ub k r _ _ d' w' h (.inl hk) (fun y hy=>h3 y (by simp[hy])) _ ?_
    split<;>omega
   ·rw[if_neg (fun e=>hn2 e.2)]
    have hw:w=262145:=by omega
    rw[hw] at h
    have:(if (262145:Int)<262145+(BB x).2.2 then 262145 else 262145+(BB x).2.2)=262145:=by split<;>omega
    rw[this] at h
    have:=Og r _ _ _ h
    omega
theorem Us{k:Int}{s:List Int}{nn ni:Nat}(h:Cg k s nn ni=0):(k=3/\nn=0)\/((k=1\/k=2)/\ni=0):=by
 unfold Cg at h
 by_cases hk:k=1\/k=2\/k=3
 ·rw[if_pos hk] at h
  by_cases hd:Eb s≠0
  ·rw[if_pos hd] at h;exact (hd h).elim
  ·rw[if_neg hd] at h
   by_cases hc:((if k=3 then (ni:Int) else nn)≠Ec s)\/((if k=3 then (nn:Int) else ni)≠0)
   ·rw[if_pos hc] at h;omega
   ·simp only[not_or,ne_eq,Decidable.not_not] at hc
    obtain ⟨c1,c2⟩:=hc
    by_cases k3:k=3
    ·simp only[k3,if_true] at c2;left;omega
    ·simp only[k3,if_false] at c2;right;omega
 ·rw[if_neg hk] at h;omega
theorem BcZ{a:Arr}{r:Int×Int}(h0:Cg a.k a.sh a.nu.length a.it.length=0)(hr:CP a.it 0 ((a.nu.length:Int)+a.it.length)=some r)(h3:∀x∈a.it,(BB x).1=0->wtA x=(BB x).2.2):wtA a=r.2:=by
 have hz:=Us h0
 have hs:=ES h0
 rw[Ro]
 refine Ub a.k a.it 0 _ r.1 r.2 hr ?_ h3 _ ?_
 ·rcases hz with ⟨h1,_⟩ | ⟨_,h2⟩
  ·exact .inl h1
  ·exact .inr (List.length_eq_zero_iff.1 h2)
 ·unfold B9
  rcases hz with ⟨h1,h2⟩ | ⟨h1,h2⟩
  ·rw[if_neg (by omega),if_pos h1];omega
  ·rw[if_pos h1];omega
theorem RH:∀(a:Arr),(BB a).1=0->wtA a=(BB a).2.2
 |.mk k s n is,h=>by
  have ih:∀x∈(Arr.mk k s n is).it,(BB x).1=0->wtA x=(BB x).2.2:=fun x hx=>by
   have hx':x∈is:=hx
   exact RH x
  have hA:=Tx (Arr.mk k s n is)
  generalize Arr.mk k s n is=a at *
  by_cases h0:Cg a.k a.sh a.nu.length a.it.length=0
  ·rw[if_neg (fun e=>e h0)] at hA
   by_cases h1:a.nu.any (Ek a.k)=true
   ·rw[if_pos h1] at hA;rw[hA] at h;cases h
   ·rw[if_neg h1] at hA
    cases hr:CP a.it 0 ((a.nu.length:Int)+a.it.length) with
    |none=>rw[hr] at hA;simp only at hA;rw[hA] at h;cases h
    |some r =>
     rw[hr] at hA
     simp only at hA
     split at hA
     ·rw[hA] at h;cases h
     ·rw[hA];exact BcZ h0 hr ih
  ·rw[if_pos h0] at hA;rw[hA] at h;exact (h0 h).elim
termination_by a=>SizeOf.sizeOf a
decreasing_by
 have:=List.sizeOf_lt_of_mem hx'
 simp;omega
def GH(b:Arr):D:=.tup [.int .i64 (BB b).1,.int .i64 (BB b).2.1]
def RZ(a:Arr):Con:=fun k ds S=>match k with
 |143=>some (sRc Arr.row1 (fun b=>b∈a.it) (fun b=>.tup [.int .i64 (BB b).1,.int .i64 (BB b).2.1]))
 |155=>some (sRc Arr.row2 (fun b=>b=a) (fun b=>.int .i64 (wtA b)))
 |k=>Tr k ds S
theorem WO{a:Arr}(ha:a.ok)(ih:∀b∈a.it,ACalls Tryz.prog 143 ((sRc Arr.row2 (fun _=>True) GH).args b) ⟨[],[]⟩ (SpecR (sRc Arr.row2 (fun _=>True) GH) b)):ConOk Tryz.prog (RZ a):=by
 intro k ds S A h
 unfold RZ at h
 split at h
 ·injection h with h;subst h
  exact ConOk.plain (fun b hb=>Tw (r:=GH) (ih b hb)) rfl rfl
 ·injection h with h;subst h
  refine ConOk.plain (fun b hb=>?_) rfl rfl
  have hb:b=a:=hb
  rw[hb]
  exact (Bak a ha).mono fun _ _ ⟨y,h1,h2,h3⟩=>⟨y,h1,h2,h3⟩
 ·exact Oc _ _ _ _ h
def Bmn(a:Arr)(d:D)(S:St):Option LoopAnn :=
 match d with
 |.int _ i=>some { slots:=[76],keep:=[],α:=Unit,st:=fun _=>([.bool (Ek a.k (a.nu.getD i.toNat 0))],S),inv:=fun _=>True,mu:=fun _=>0 }
 |_=>none
noncomputable def Eck(a:Arr):Senv:={ EC (RZ a) 107 11 [18,23,30,43,48,76,81,94,105] (fun id=>match id with | 9=>([0,2,3,1,4,5,6,7,8,9],[1,4]) | _=>([],[])) with
 cut:=fun id env S=>match id with
  |14=>Bmn a (Ab.look env 6) S
  |_=>none
 ann:=fun b _ S=>match b with
  |0=>some { slots:=[6],keep:=[0,1,2,3],α:=Nat,st:=fun i=>([.int .i64 i],S),inv:=fun i=>i<=a.nu.length/\∀z∈a.nu.take i,Ek a.k z=false,mu:=fun i=>a.nu.length-i }
  |2=>some { slots:=[8,7],keep:=[0,1,2,3],α:=Nat×Int×Int,st:=fun y=>([.int .i64 y.1,.int .i64 y.2.1],S),inv:=fun y=>y.1<=a.it.length/\0<=y.2.1/\y.2.1<=17/\0<=y.2.2/\y.2.2<=262145/\CP (a.it.drop y.1) y.2.1 y.2.2=CP a.it 0 ((a.nu.length:Int)+a.it.length),mu:=fun y=>a.it.length-y.1 }
  |_=>none }
def Qu(a:Arr):Int:=Arr.k a
def H6(a:Arr):Bool:=bif decide (Qu a<Z1) then true else decide ((3:Int)<Qu a)
def K9(a:Arr):Int:=Prod.fst (BB a)
def H7(a:Arr):Int:=Prod.fst (Prod.snd (BB a))
def V7(a:Arr):Prop:=Z0=H7 a/\True
def KG(a:Arr):Nat:=LN (Arr.sh a)
def Ja(a:Arr)(b:Nat):List D:=[ZI (GI (Arr.sh a) b)]
def Qdq(a:Arr):Prop:=IntsP (KG a) fun i=>Ja a i
def Qdr(a:Arr):List Int:=Bu (KG a) fun i=>Ja a i
def H8(a:Arr):Int:=Eb (Qdr a)
def Qds(a:Arr):D:=D.sl N1 (KG a) (fun i=>Ja a i) Mode.any
def Qdt(a:Nat)(b:Arr):Prop:=SM a/\SM (Qds b)
def Qdu(a:Arr):Prop:=Qdq a/\H8 a=Z0
def Yv(a:Arr):List Int:=Arr.nu a
def QJ(a:Arr):Nat:=LN (Yv a)
def JB(a:Arr):List Arr:=Arr.it a
def QK(a:Arr):Nat:=LN (JB a)
def Qdv(a:Arr):Bool:=B9 (Qu a) (QJ a) (QK a) != Ec (Qdr a)
def Yw(a:Arr):Prop:=True/\∃(_y:Unit),True/\((16:Int)=K9 a/\V7 a)/\True/\True
def V8(a:Arr):Int:=(NI (QJ a))
def H9(a:Nat)(b:Arr):Prop:=a<=QJ b/\∀(z:Int),z∈List.take a (Yv b)->Ek (Qu b) z=false
def V9(a:Arr)(b:Nat):List D:=[ZI (GI (Yv a) b)]
def Yx:Arr:=DA
def Xa(a:Arr)(b:Nat):Arr:=List.getD (JB a) b Yx
def QoC(a:Arr)(b:Nat):List Int:=Arr.sh (Xa a b)
def QoD(a:Arr)(b:Nat):List Int:=Arr.nu (Xa a b)
def Qdw(a:Arr)(b:Nat):List Arr:=Arr.it (Xa a b)
def Yy(a:Arr)(b:Nat):List D:=[ZI (Arr.k (Xa a b)),SI (QoC a b),SI (QoD a b),D.sl N4 (LN (Qdw a b)) (fun i=>Arr.row (List.getD (Qdw a b) i Yx)) Mode.any]
def Jb(a:Nat)(b:Arr):Prop:=(SM a/\(SM (Qu b)/\(SM (KG b)/\(∀(i:Nat),i<KG b->SM (Ja b i))/\True)/\(SM (QJ b)/\(∀(i:Nat),i<QJ b->SM (V9 b i))/\True)/\(SM (QK b)/\(∀(i:Nat),i<QK b->SM (Yy b i))/\True)/\True)/\True)/\True
def Qaa(a:Arr)(b:Nat):Int:=GI (Yv a) (Int.toNat (↑b:Int))
def Yz(a:Arr)(b:Nat):Bool:=Ek (Qu a) (Qaa a b)
def Qdx(a:Nat)(b:Arr)(c:Nat):Prop:=SM a/\ifB (Qu b==2) (SM a/\Bf (Z0<=(↑c:Int)/\(↑c:Int)<V8 b) (True/\∀(_y:Unit),True->∃(_x:Unit),True/\((!Ug (Qaa b c))=Yz b c/\True)/\Jb a b)) (∃(_x:Unit),True/\(false=Yz b c/\True)/\Jb a b)
def Qdy(a:Arr):Prop:=True/\∃(_y:Unit),True/\((17:Int)=K9 a/\V7 a)/\True/\True
def QoE(a:Arr):D:=D.agg [ZI (Qu a),Qds a,D.sl N1 (QJ a) (fun i=>V9 a i) Mode.any,D.sl N4 (QK a) (fun i=>Yy a i) Mode.any]
def Qdz(a:Arr)(b:Nat):Prop:=SM (QoE a)/\SM (D.ref N0 b N0)/\SM (ZI Z0)/\SM (ZI Z0)/\True
def YA(a:Arr):Int:=(NI (QK a))
def Qab(a:Nat)(b:Arr)(c d:Int):Prop:=a<=QK b/\Z0<=c/\c<=17/\Z0<=d/\d<=262145/\CP (List.drop a (JB b)) c d=CP (JB b) Z0 (V8 b+YA b)
def YB(a:Arr)(b:Nat):Arr:=List.getD (JB a) (Int.toNat (↑b:Int)) Yx
def QdA(a:Arr)(b:Nat):List Int:=Arr.sh (YB a b)
def QdB(a:Arr)(b:Nat):Nat:=LN (QdA a b)
def QdC(a:Arr)(b:Nat):List Int:=Arr.nu (YB a b)
def QdD(a:Arr)(b:Nat):Nat:=LN (QdC a b)
def QdE(a:Arr)(b:Nat):List Arr:=Arr.it (YB a b)
def QdF(a:Arr)(b:Nat):Nat:=LN (QdE a b)
def QdG(a:Arr):Int:=IntKind.wrap IntKind.i64 (H7 a+Z1)
def QdH(a:Arr):Prop:=True/\∃(_y:Unit),True/\((21:Int)=K9 a/\V7 a)/\True/\True
def QdI(a:Arr)(b:Nat):Prop:=(∃(x:Nat),H9 x a/\(Z0=(↑x:Int)/\True)/\Jb b a)/\∀(x:Nat),H9 x a->SM b/\ifB (decide ((↑x:Int)<V8 a)) ((SM b/\ifB (Qu a==Z1) (SM b/\Bf (Z0<=(↑x:Int)/\(↑x:Int)<V8 a) (True/\∀(_y:Unit),True->ifB (!Uf (Qaa a x)) (∃(_x_1:Unit),True/\(true=Yz a x/\True)/\Jb b a) (Qdx b a x))) (Qdx b a x))/\∀(_x_1:Unit),True->ifB (Yz a x) (Qdy a) (Qdz a b/\∃(y:Nat),H9 y a/\QJ a-y<QJ a-x/\(IntKind.wrap IntKind.i64 ((↑x:Int)+Z1)=(↑y:Int)/\True)/\Jb b a)) ((∃(x:Nat×Int×Int),Qab x.1 a x.2.1 x.2.2/\(Z0=(NI x.1)/\Z0=x.2.1/\True)/\Jb b a)/\∀(x:Nat×Int×Int),Qab x.1 a x.2.1 x.2.2->SM b/\ifB (decide ((NI x.1)<YA a)) (SM b/\Bf (Z0<=(NI x.1)/\(NI x.1)<YA a) (∃(x_1:Arr),((Arr.k (YB a x.1)=Qu x_1/\(QdB a x.1=KG x_1/\(∀(i:Nat),i<QdB a x.1->[ZI (GI (QdA a x.1) i)]=Ja x_1 i)/\True)/\(QdD a x.1=QJ x_1/\(∀(i:Nat),i<QdD a x.1->[ZI (GI (QdC a x.1) i)]=V9 x_1 i)/\True)/\(QdF a x.1=QK x_1/\(∀(i:Nat),i<QdF a x.1->Arr.row (List.getD (QdE a x.1) i Yx)=Arr.row (Xa x_1 i))/\True)/\True)/\True)/\(True/\True)/\x_1∈JB a/\∀(_y:Unit),True->ifB (K9 x_1 != Z0) (Qdy a) (Qdz a b/\∃(y:Nat×Int×Int),Qab y.1 a y.2.1 y.2.2/\QK a-y.1<QK a-x.1/\(IntKind.wrap IntKind.i64 ((NI x.1)+Z1)=(NI y.1)/\(if x.2.1<QdG x_1 then QdG x_1 else x.2.1)=y.2.1/\True)/\Jb b a))) (ifB (decide ((16:Int)<x.2.1)) (QdH a) (SM b/\∃(x_1:Arr),((Qu a=Qu x_1/\(KG a=KG x_1/\(∀(i:Nat),i<KG a->Ja a i=Ja x_1 i)/\True)/\(QJ a=QJ x_1/\(∀(i:Nat),i<QJ a->V9 a i=V9 x_1 i)/\True)/\(QK a=QK x_1/\(∀(i:Nat),i<QK a->Yy a i=Yy x_1 i)/\True)/\True)/\True)/\(True/\True)/\x_1=a/\∀(_y:Unit),True->ifB (decide ((262144:Int)<wtA x_1)) (QdH a) (True/\∃(_y:Unit),True/\(Z0=K9 a/\x.2.1=H7 a/\True)/\True/\True))))
theorem Bb2(a : Arr)(hok : a.ok)(ha : a.nu.length<=maxLen /\ a.it.length<=maxLen /\ a.sh.length<=maxLen)(ih : ∀b∈a.it, ACalls Tryz.prog 143 ((sRc Arr.row2 (fun _=>True) GH).args b) ⟨[], []⟩ (SpecR (sRc Arr.row2 (fun _=>True) GH) b)) :
  ACalls Tryz.prog 143 ((sRc Arr.row2 (fun _=>True) GH).args a) ⟨[],[]⟩ (SpecR (sRc Arr.row2 (fun _=>True) GH) a):=by
 refine Bh (A:=sRc Arr.row2 (fun _=>True) GH) (x:=a) (E:=Eck a) (eOk (WO hok ih) rfl) Tryz.func143 rfl (by kernel_rfl) rfl (by simp[sRc,Eck,EC,E0]) ?_
 simp only[sRc,GH]
 refine Bl (T :=
  ∀(x:Nat),True->(SM x/\ifB (decide (Qu a<Z1)) (true=H6 a/\True) (SM x/\decide ((3:Int)<Qu a)=H6 a/\True))/\ifB (H6 a) (True/\∃(y:Unit),True/\((14:Int)=K9 a/\V7 a)/\True/\True) (SM x/\Qdq a/\∀(y:Unit),True->ifB (H8 a != Z0) (True/\∃(y:Unit),True/\(H8 a=K9 a/\V7 a)/\True/\True) (SM x/\SM x/\ifB (Qu a==3) (SM x/\SM x/\SM x/\True/\∀(y:Unit),True->Qdt x a/\Qdu a/\∀(y:Unit),True->ifB (Qdv a) (Yw a) (ifB (decide (Z0<V8 a)) (Yw a) (QdI a x))) (SM x/\SM x/\True/\∀(y:Unit),True->Qdt x a/\Qdu a/\∀(y:Unit),True->ifB (Qdv a) (Yw a) (ifB (decide (Z0<YA a)) (Yw a) (QdI a x)))))) (by kernel_rfl) ?_
 delta DA GI LN N0 N1 N4 NI SI SM Z0 Z1 ZI Qu H6 Qds Qdt Qdu Yv QJ JB QK Qdv Yw V8 K9 H9 V9 Yx Xa QoC QoD Qdw Yy Jb Qaa H7 Yz Qdx Qdy QoE Qdz YA Qab YB QdA QdB V7 QdC QdD QdE QdF QdG QdH QdI KG Ja Qdq Qdr H8
 have da:(default:Arr)=Arr.mk 0 [] [] []:=rfl
 simp only[<- da,CL,Int.toNat_natCast,Bg,Be,decide_eq_true_eq,decide_eq_false_iff_not,true_and,and_true,beq_iff_eq,bne_iff_ne,Bool.cond_true_left,beq_eq_false_iff_ne,ne_eq,exists_const,forall_const]
 have hA:=Tx a
 obtain ⟨l1,l2,l3⟩:=ha
 simp only[maxLen] at l1 l2 l3
 have tt:(∀i:Nat,i<a.sh.length->True)/\(∀i:Nat,i<a.nu.length->True)/\∀i:Nat,i<a.it.length->True:=⟨fun _ _=>trivial,fun _ _=>trivial,fun _ _=>trivial⟩
 have bad:∀e,Cg a.k a.sh a.nu.length a.it.length=e->e≠0->e=(BB a).1/\0=(BB a).2.1:=fun e h1 h2=>by
  rw[if_pos (by rw[h1];exact h2),h1] at hA
  rw[hA];exact⟨rfl,rfl⟩
 refine⟨⟨fun h=>by simp[h],fun h=>by simp[h]⟩,fun h=>bad 14 ?_ (by decide),fun h=>⟨BU _,fun hd=>bad _ ?_ hd,fun hd=>?_⟩⟩
 ·rw[Bool.or_eq_true,decide_eq_true_eq,decide_eq_true_eq] at h
  unfold Cg;rw[if_neg (by omega)]
 ·rw[Bool.or_eq_false_iff,decide_eq_false_iff_not,decide_eq_false_iff_not] at h
  unfold Cg;rw[if_pos (by omega),if_pos hd]
 rw[Bool.or_eq_false_iff,decide_eq_false_iff_not,decide_eq_false_iff_not] at h
 have hd0:Eb a.sh=0:=by simpa using hd
 have hk:a.k=1\/a.k=2\/a.k=3:=by omega
 have hf:Cg a.k a.sh a.nu.length a.it.length=if ((if a.k=3 then (a.it.length:Int) else a.nu.length)≠Ec a.sh)\/((if a.k=3 then (a.nu.length:Int) else a.it.length)≠0) then 16 else 0:=by
  unfold Cg;rw[if_pos hk,if_neg (fun e=>e hd0)]
 have hsz:B9 a.k a.nu.length a.it.length=if a.k=3 then (a.it.length:Int) else a.nu.length:=by
  unfold B9
  by_cases k3:a.k=3
  ·rw[if_neg (by omega),if_pos k3,if_pos k3]
  ·rw[if_pos (by omega),if_neg k3]
 rw[<- hsz] at hf
 refine⟨fun k3=>⟨⟨BU _,hd0⟩,fun hs=>bad 16 (by rw[hf,if_pos (.inl hs)]) (by decide),fun hs=>⟨fun ho=>bad 16 (by rw[hf,if_pos (.inr (by rw[if_pos k3];omega))]) (by decide),fun ho=>?_⟩⟩,
  fun k3=>⟨⟨BU _,hd0⟩,fun hs=>bad 16 (by rw[hf,if_pos (.inl hs)]) (by decide),fun hs=>⟨fun ho=>bad 16 (by rw[hf,if_pos (.inr (by rw[if_neg k3];omega))]) (by decide),fun ho=>?_⟩⟩⟩
 all_goals
  have hs':B9 a.k a.nu.length a.it.length=Ec a.sh:=by simpa using hs
  have h0:Cg a.k a.sh a.nu.length a.it.length=0:=by
   rw[hf,if_neg]
   rintro (h1 | h1)
   ·exact h1 hs'
   ·simp only[k3,if_true,if_false] at h1;omega
  clear hf hs hsz
  have hsm:=ES h0
  refine⟨⟨0,⟨Nat.zero_le _,by simp⟩,rfl,tt⟩,fun i hi=>⟨fun hlt=>?_,fun hge=>?_⟩⟩
  ·have hlt':i<a.nu.length:=by omega
   have hmem:a.nu.getD i 0∈a.nu:=by rw[List.getD_eq_getElem?_getD,List.getElem?_eq_getElem hlt'];exact List.getElem_mem hlt'
   have htk:a.nu.take (i+1)=a.nu.take i++[a.nu.getD i 0]:=by
    rw[List.take_add_one];simp[List.getD_eq_getElem?_getD,hlt']
   generalize a.nu.getD i 0=z at *
   refine⟨⟨fun k1=>⟨⟨by omega,hlt⟩,fun hn=>⟨by simp at hn;simp[Ek,k1,hn],tt⟩,fun hn=>⟨fun k2=>by omega,fun k2=>⟨by simp at hn;simp[Ek,k1,hn],tt⟩⟩⟩,fun k1=>⟨fun k2=>⟨⟨by omega,hlt⟩,by simp[Ek,k2],tt⟩,fun k2=>⟨by simp[Ek,k1,k2],tt⟩⟩⟩,fun hb=>?_,fun hb=>⟨i+1,⟨by omega,fun y hy=>?_⟩,by omega,Bb (by omega) (by omega),tt⟩⟩
   ·have:a.nu.any (Ek a.k)=true:=List.any_eq_true.2 ⟨z,hmem,hb⟩
    rw[if_neg (fun e=>e h0),if_pos this] at hA
    rw[hA]
    exact⟨rfl,rfl⟩
   ·rw[htk,List.mem_append] at hy
    rcases hy with hy | hy
    ·exact hi.2 y hy
    ·simp at hy;rw[hy];exact hb
  ·have hii:i=a.nu.length:=by omega
   rw[hii,List.take_length] at hi
   have hany:¬a.nu.any (Ek a.k)=true:=by
    rw[List.any_eq_true]
    rintro ⟨z,hz,hb⟩
    rw[hi.2 z hz] at hb
    cases hb
   rw[if_neg (fun e=>e h0),if_neg hany] at hA
   refine⟨⟨(0,0,(a.nu.length:Int)+a.it.length),⟨Nat.zero_le _,Int.le_refl _,by simp,by simp only;omega,by simp only;omega,by simp⟩,⟨rfl,rfl⟩,tt⟩,?_⟩
   rintro ⟨j,d,w⟩ ⟨b1,b2,b3,b4,b5,hch⟩
   simp only at b1 b2 b3 b4 b5 hch ⊢
   refine⟨fun hlt=>⟨⟨by omega,hlt⟩,?_⟩,fun hge=>?_⟩
   ·have hlt':j<a.it.length:=by omega
    have hbd:=C3 (a.it.getD j default)
    rw[BN hlt',CP] at hch
    refine⟨a.it.getD j default,⟨rfl,⟨rfl,fun _ _=>rfl⟩,⟨rfl,fun _ _=>rfl⟩,rfl,fun _ _=>rfl⟩,EM hlt',fun herr=>?_,fun hok=>?_⟩
    ·rw[if_pos herr] at hch
     rw[<- hch] at hA
     rw[hA]
     exact⟨rfl,rfl⟩
    ·have hok:(BB (a.it.getD j default)).1=0:=by simpa using hok
     rw[if_neg (fun hne=>hne hok)] at hch
     have w1:IntKind.i64.wrap ((BB (a.it.getD j default)).2.1+1)=(BB (a.it.getD j default)).2.1+1:=Bb (by omega) (by omega)
     rw[w1]
     refine⟨(j+1,(if d<(BB (a.it.getD j default)).2.1+1 then (BB (a.it.getD j default)).2.1+1 else d),(if 262145<w+(BB (a.it.getD j default)).2.2 then 262145 else w+(BB (a.it.getD j default)).2.2)),⟨by simp only;omega,?_,?_,?_,?_,hch⟩,by simp only;omega,⟨Bb (by omega) (by omega),rfl⟩,tt⟩
     ·simp only;split<;>omega
     ·simp only;split<;>omega
     ·simp only;split<;>omega
     ·simp only;split<;>omega
   ·have hj:j=a.it.length:=by omega
    rw[hj,List.drop_length,CP] at hch
    have hw:=BcZ h0 hch.symm fun x _ hx=>RH x hx
    rw[<- hch] at hA
    simp only at hA hw
    refine⟨fun hc=>?_,fun hc=>⟨a,⟨rfl,⟨rfl,fun _ _=>rfl⟩,⟨rfl,fun _ _=>rfl⟩,rfl,fun _ _=>rfl⟩,rfl,fun hq=>?_,fun hq=>?_⟩⟩
    ·rw[if_pos (.inl hc)] at hA
     rw[hA];exact⟨rfl,rfl⟩
    ·rw[if_pos (.inr (by omega))] at hA
     rw[hA];exact⟨rfl,rfl⟩
    ·rw[if_neg (by omega)] at hA
     rw[hA];exact⟨rfl,rfl⟩
theorem WQ:∀(a:Arr),a.ok->ACalls Tryz.prog 143 ((sRc Arr.row2 (fun _=>True) GH).args a) ⟨[],[]⟩ (SpecR (sRc Arr.row2 (fun _=>True) GH) a)
 |.mk k s n is,h=>by
  have h':=h
  simp only[Arr.ok] at h'
  obtain ⟨_,_,_,h1,h2,h3,h4⟩:=h'
  refine Bb2 (.mk k s n is) h ⟨h2,h3,h1⟩ fun b hb=>?_
  have hb':b∈is:=hb
  exact WQ b ((Ev _).1 h4 b hb')
termination_by a=>SizeOf.sizeOf a
decreasing_by
 have:=List.sizeOf_lt_of_mem hb'
 simp;omega
theorem BjP{k:Nat}{row:Arr->List D}{q q':Arr->Prop}{r:Arr->D}{b:Arr}(h:ACalls Tryz.prog k ((sRc row q r).args b) ⟨[],[]⟩ (SpecR (sRc row q r) b)):ACalls Tryz.prog k ((sRc row q' r).args b) ⟨[],[]⟩ (SpecR (sRc row q' r) b) :=
 h.mono fun _ _ ⟨y,h1,h2,h3⟩=>⟨y,h1,h2,h3⟩
def BbE(a:Arr):D:=.int .i64 (BB a).1
def R7(a:Arr):Con:=fun k _ _=>match k with
 |143=>some (sRc Arr.row2 (fun b=>b=a) (fun b=>.tup [.int .i64 (BB b).1,.int .i64 (BB b).2.1]))
 |124=>some (sRc Arr.row1 (fun b=>b=a) (fun b=>.int .i64 (BB b).1))
 |_=>none
theorem RD{a:Arr}(ha:a.ok):ConOk Tryz.prog (R7 a):=by
 intro k ds S A h
 unfold R7 at h
 split at h
 ·injection h with h;subst h
  refine ConOk.plain (fun b hb=>?_) rfl rfl
  have hb:b=a:=hb
  rw[hb]
  exact BjP (r:=GH) (WQ a ha)
 ·injection h with h;subst h
  refine ConOk.plain (fun b hb=>?_) rfl rfl
  have hb:b=a:=hb
  rw[hb]
  exact (Bjh a ha).mono fun _ _ ⟨y,h1,h2,h3⟩=>⟨(),trivial,h2,h3⟩
 ·cases h
noncomputable def Err(a:Arr):Senv:=EC (R7 a) 11 5 [] (fun _=>([],[]))
def Qac(a:Arr):Nat:=LN (Arr.sh a)
def Qad(a:Arr):Nat:=LN (Arr.nu a)
def Qae(a:Arr):Nat:=LN (Arr.it a)
def QdJ:Arr:=DA
def YC(a:Arr)(b:Nat):Arr:=List.getD (Arr.it a) b QdJ
def QoF(a:Arr)(b:Nat):List Int:=Arr.sh (YC a b)
def QoG(a:Arr)(b:Nat):List Int:=Arr.nu (YC a b)
def QdK(a:Arr)(b:Nat):List Arr:=Arr.it (YC a b)
def QdL(a:Arr)(b:Nat):List D:=[ZI (Arr.k (YC a b)),SI (QoF a b),SI (QoG a b),D.sl N4 (LN (QdK a b)) (fun i=>Arr.row (List.getD (QdK a b) i QdJ)) Mode.any]
theorem BeG(a:Arr)(ha:a.ok):ACalls Tryz.prog 129 ((sRc Arr.row2 (fun _=>True) BbE).args a) ⟨[],[]⟩ (SpecR (sRc Arr.row2 (fun _=>True) BbE) a):=by
 refine Bh (A:=sRc Arr.row2 (fun _=>True) BbE) (x:=a) (E:=Err a) (eOk (RD ha) rfl) Tryz.func129 rfl (by kernel_rfl) rfl (by simp[sRc,Err,EC,E0]) ?_
 simp only[sRc,BbE]
 refine Bl (T :=
  ∀(x:Nat),True->SM x/\∃(x:Arr),((Arr.k a=Arr.k x/\(Qac a=Qac x/\(∀(i:Nat),i<Qac a->[ZI (GI (Arr.sh a) i)]=[ZI (GI (Arr.sh x) i)])/\True)/\(Qad a=Qad x/\(∀(i:Nat),i<Qad a->[ZI (GI (Arr.nu a) i)]=[ZI (GI (Arr.nu x) i)])/\True)/\(Qae a=Qae x/\(∀(i:Nat),i<Qae a->QdL a i=QdL x i)/\True)/\True)/\True)/\(True/\True)/\x=a/\∀(y:Unit),True->RT (Prod.fst (BB x)=Prod.fst (BB a))) (by kernel_rfl) ?_
 delta DA GI LN N1 N4 SI SM Z0 ZI Qac Qad Qae QdJ YC QoF QoG QdK QdL RT
 simp only[and_true,exists_const]
 intro x _
 exact⟨trivial,a,⟨rfl,⟨rfl,fun _ _=>rfl⟩,⟨rfl,fun _ _=>rfl⟩,rfl,fun _ _=>rfl⟩,trivial,rfl,fun _ _=>⟨trivial,trivial,rfl⟩⟩
noncomputable def Eshp(l m:List Int):Senv:={ EC CK 26 2 [4,5,10,14,25] (fun id=>match id with | 6=>([0,1,2,3,4,5,6,7,8],[]) | _=>([],[])) with
 ann:=fun b _ S=>match b with
  |0=>some { slots:=[5],keep:=[0,1],α:=Nat,st:=fun i=>([.int .i64 i],S),inv:=fun i=>i<=l.length/\∀j,j<i->l.getD j 0=m.getD j 0,mu:=fun i=>l.length-i }
  |_=>none }
def QdM(a b:List Int):Prop:=RT (false=decide (a=b))
def Qaf(a:Nat)(b c:List Int):Prop:=a<=LN b/\∀(j:Nat),j<a->GI b j=GI c j
def QoH(a:List Int):D:=SI a
def QdN(a:List Int):Prop:=SM (QoH a)
theorem UB(l m:List Int)(hl:l.length<=maxLen)(hm:m.length<=maxLen):ACalls Tryz.prog 114 [isl l .any,isl m .any] ⟨[],[]⟩ (SpecR (sC [isl l .any,isl m .any] (.bool (decide (l=m)))) ()):=by
 refine Bh (A:=sC _ _) (x:=()) (E:=Eshp l m) (eOk BE rfl) Tryz.func114 rfl (by kernel_rfl) rfl (by simp[sC,Eshp,EC,E0]) ?_
 refine Bl (T :=
  ifB ((LI l) != (LI m)) (QdM l m) ((∃(x:Nat),Qaf x l m/\(Z0=(↑x:Int)/\True)/\True/\True)/\∀(x:Nat),Qaf x l m->ifB (decide ((↑x:Int)<(LI l))) (Bf (Z0<=(↑x:Int)/\(↑x:Int)<(LI l)) (Bf (Z0<=(↑x:Int)/\(↑x:Int)<(LI m)) (ifB (GI l (Int.toNat (↑x:Int)) != GI m (Int.toNat (↑x:Int))) (QdM l m) ((QdN l/\QdN m/\True)/\∃(y:Nat),Qaf y l m/\LN l-y<LN l-x/\(IntKind.wrap IntKind.i64 ((↑x:Int)+Z1)=(↑y:Int)/\True)/\True/\True)))) (RT (true=decide (l=m))))) (by kernel_rfl) ?_
 delta GI LI LN N1 SI SM Z0 Z1 ZI QdM Qaf QoH QdN RT
 simp only[Bg,Be,decide_eq_true_eq,decide_eq_false_iff_not,true_and,and_true,beq_iff_eq,bne_iff_ne,ne_eq,exists_const,forall_const,implies_true,Int.toNat_natCast]
 simp only[maxLen] at hl hm
 refine⟨fun h=>?_,fun h=>⟨⟨0,⟨Nat.zero_le _,fun j hj=>absurd hj (by omega)⟩,rfl⟩,fun i hi=>⟨fun hlt=>?_,fun hge=>?_⟩⟩⟩
 ·exact (decide_eq_false fun e=>by rw[e] at h;exact h rfl).symm
 ·have h:l.length=m.length:=by
   have h:(l.length:Int)=m.length:=by simpa using h
   omega
  refine⟨⟨by omega,by omega⟩,⟨by omega,by omega⟩,fun hn=>?_,fun he=>⟨i+1,⟨by omega,fun j hj=>?_⟩,by omega,Bb (by omega) (by omega)⟩⟩
  ·exact (decide_eq_false fun e=>hn (by rw[e])).symm
  ·by_cases e:j=i
   ·subst e;simpa using he
   ·exact hi.2 j (by omega)
 ·have h:l.length=m.length:=by
   have h:(l.length:Int)=m.length:=by simpa using h
   omega
  exact (decide_eq_true (CJ 0 h fun j hj=>hi.2 j (by omega))).symm
noncomputable def Cz(a b:Arr):Bool:=@decide (a=b) (Classical.propDecidable _)
theorem B8{a b:Arr}:Cz a b=true↔a=b:=by unfold Cz;exact @decide_eq_true_iff _ (Classical.propDecidable _)
theorem Em{a b:Arr}(h:a≠b):false=Cz a b:=by
 cases hs:Cz a b with
 |false=>rfl
 |true=>exact (h (B8.1 hs)).elim
noncomputable def sSm(row:Arr->List D)(q:Arr×Arr->Prop):FnSpec where
 β:=Arr×Arr
 α:=Unit
 args:=fun x=>[.agg (row x.1),.agg (row x.2)]
 st:=fun _=>⟨[],[]⟩
 pre:=q
 post:=fun _ _=>True
 res:=fun x _=>.ret (.bool (Cz x.1 x.2))
 out:=fun _ _=>⟨[],[]⟩
noncomputable def Ru(l m:List Arr):Con:=fun k ds _=>match k with
 |81=>some (sSm Arr.row1 (fun x=>x.1∈l/\x.2∈m))
 |114=>match ds with
  | [.sl 1 n f _,.sl 1 p g _]=>some (pC ds (.bool (decide (Bu n f=Bu p g))) ((IntsP n f/\n<=maxLen)/\IntsP p g/\p<=maxLen))
  |_=>none
 |_=>none
noncomputable def Esm(a b:Arr):Senv:={ EC (Ru a.it b.it) 55 6 [35,40,54] (fun id=>match id with | 6=>([0,1,2,3,4,5,6,7,8,9,10,11],[10]) | _=>([],[])) with
 ann:=fun q _ S=>match q with
  |0=>some { slots:=[5],keep:=[2,3],α:=Nat,st:=fun i=>([.int .i64 i],S),inv:=fun i=>i<=a.it.length/\∀j,j<i->a.it.getD j default=b.it.getD j default,mu:=fun i=>a.it.length-i }
  |_=>none }
def YD(a:Arr):Int:=Arr.k a
def Xb(a b:Arr):Prop:=RT (false=Cz a b)
def JC(a:Arr):Nat:=LN (Arr.sh a)
def YE(a:Arr)(b:Nat):List D:=[ZI (GI (Arr.sh a) b)]
def QdO(a:Arr):Prop:=(IntsP (JC a) fun i=>YE a i)/\JC a<=9223372036854775807
def QdP(a:Arr):List Int:=Bu (JC a) fun i=>YE a i
def JD(a:Arr):Nat:=LN (Arr.nu a)
def YF(a:Arr)(b:Nat):List D:=[ZI (GI (Arr.nu a) b)]
def QdQ(a:Arr):Prop:=(IntsP (JD a) fun i=>YF a i)/\JD a<=9223372036854775807
def QdR(a:Arr):List Int:=Bu (JD a) fun i=>YF a i
def Xc(a:Arr):List Arr:=Arr.it a
def Jc(a:Arr):Nat:=LN (Xc a)
def Xd(a:Arr):Int:=(NI (Jc a))
def YG:Arr:=DA
def Jd(a:Arr)(b:Nat):Arr:=List.getD (Xc a) b YG
def Qag(a:Nat)(b c:Arr):Prop:=a<=Jc b/\∀(j:Nat),j<a->Jd b j=Jd c j
def QoI(a:Arr)(b:Nat):List Int:=Arr.sh (Jd a b)
def QoJ(a:Arr)(b:Nat):List Int:=Arr.nu (Jd a b)
def QdS(a:Arr)(b:Nat):List Arr:=Arr.it (Jd a b)
def QoK(a:Arr)(b:Nat):List D:=[ZI (Arr.k (Jd a b)),SI (QoI a b),SI (QoJ a b),D.sl N4 (LN (QdS a b)) (fun i=>Arr.row (List.getD (QdS a b) i YG)) Mode.any]
def QdT(a:Arr):Prop:=SM (YD a)/\(SM (JC a)/\(∀(i:Nat),i<JC a->SM (YE a i))/\True)/\(SM (JD a)/\(∀(i:Nat),i<JD a->SM (YF a i))/\True)/\(SM (Jc a)/\(∀(i:Nat),i<Jc a->SM (QoK a i))/\True)/\True
def QdU(a:Nat)(b:Arr)(c:Nat)(d:Arr):Prop:=(SM a/\QdT b/\SM c/\QdT d/\True)/\True
def YH(a:Arr)(b:Nat):Arr:=List.getD (Xc a) (Int.toNat (↑b:Int)) YG
def QdV(a:Arr)(b:Nat):List Int:=Arr.sh (YH a b)
def QdW(a:Arr)(b:Nat):Nat:=LN (QdV a b)
def QdX(a:Arr)(b:Nat):List Int:=Arr.nu (YH a b)
def QdY(a:Arr)(b:Nat):Nat:=LN (QdX a b)
def QdZ(a:Arr)(b:Nat):List Arr:=Arr.it (YH a b)
def Qd0(a:Arr)(b:Nat):Nat:=LN (QdZ a b)
def Qd1(a:Arr)(b:Nat)(c:Arr):Prop:=Arr.k (YH a b)=YD c/\(QdW a b=JC c/\(∀(i:Nat),i<QdW a b->[ZI (GI (QdV a b) i)]=YE c i)/\True)/\(QdY a b=JD c/\(∀(i:Nat),i<QdY a b->[ZI (GI (QdX a b) i)]=YF c i)/\True)/\(Qd0 a b=Jc c/\(∀(i:Nat),i<Qd0 a b->Arr.row (List.getD (QdZ a b) i YG)=Arr.row (Jd c i))/\True)/\True
theorem Ue(a b : Arr)(ha : a.sh.length<=maxLen /\ a.nu.length<=maxLen /\ a.it.length<=maxLen)(hb : b.sh.length<=maxLen /\ b.nu.length<=maxLen /\ b.it.length<=maxLen)(hc : ConOk Tryz.prog (Ru a.it b.it)) :
  ACalls Tryz.prog 81 ((sSm Arr.row2 (fun _=>True)).args (a,b)) ⟨[],[]⟩ (SpecR (sSm Arr.row2 (fun _=>True)) (a,b)):=by
 refine Bh (A:=sSm Arr.row2 (fun _=>True)) (x:=(a,b)) (E:=Esm a b) (eOk hc rfl) Tryz.func81 rfl (by kernel_rfl) rfl (by simp[sSm,Esm,EC,E0]) ?_
 refine Bl (T :=
  ∀(x:Nat),True->∀(x_1:Nat),x≠x_1/\True->SM x/\SM x_1/\ifB (YD a != YD b) (Xb a b) (SM x/\SM x_1/\(QdO a/\QdO b)/\∀(y:Unit),True->ifB (!decide (QdP a=QdP b)) (Xb a b) (SM x/\SM x_1/\(QdQ a/\QdQ b)/\∀(y:Unit),True->ifB (!decide (QdR a=QdR b)) (Xb a b) (SM x/\SM x_1/\ifB (Xd a != Xd b) (Xb a b) ((∃(x_2:Nat),Qag x_2 a b/\(Z0=(↑x_2:Int)/\True)/\QdU x_1 b x a)/\∀(x_2:Nat),Qag x_2 a b->SM x/\ifB (decide ((↑x_2:Int)<Xd a)) (SM x/\Bf (Z0<=(↑x_2:Int)/\(↑x_2:Int)<Xd a) (SM x_1/\Bf (Z0<=(↑x_2:Int)/\(↑x_2:Int)<Xd b) (∃(x_3:Arr×Arr),(Qd1 a x_2 x_3.1/\Qd1 b x_2 x_3.2/\True)/\(True/\True)/\(x_3.1∈Xc a/\x_3.2∈Xc b)/\∀(y:Unit),True->ifB (!Cz x_3.1 x_3.2) (Xb a b) ((SM (D.ref N0 x N0)/\SM (D.ref (max (N0+N1) N0) x_1 N0)/\True)/\∃(y:Nat),Qag y a b/\Jc a-y<Jc a-x_2/\(IntKind.wrap IntKind.i64 ((↑x_2:Int)+Z1)=(↑y:Int)/\True)/\QdU x_1 b x a)))) (RT (true=Cz a b))))))) (by kernel_rfl) ?_
 delta DA GI LN N0 N1 N4 NI SI SM Z0 Z1 ZI JD YF QdQ QdR Xc Jc Xd YG Jd Qag QoI QoJ QdS QoK QdT QdU YH QdV QdW QdX QdY QdZ Qd0 Qd1 YD Xb JC YE QdO QdP RT
 have da:(default:Arr)=Arr.mk 0 [] [] []:=rfl
 simp only[<- da,Bg,Be,decide_eq_true_eq,decide_eq_false_iff_not,true_and,and_true,beq_iff_eq,bne_iff_ne,Bool.cond_false_right,Bool.cond_true_left,Bool.and_eq_true,Bool.and_eq_false_iff,Bool.or_eq_true,Bool.or_eq_false_iff,beq_eq_false_iff_ne,ne_eq,exists_const,forall_const,implies_true,Int.toNat_natCast,Prod.exists,CL]
 simp only[maxLen] at ha hb
 obtain ⟨a1,a2,a3⟩:=ha
 obtain ⟨b1,b2,b3⟩:=hb
 refine fun x x1 _=>⟨fun h=>Em fun e=>h (by rw[e]),fun hk=>⟨⟨⟨BU _,a1⟩,BU _,b1⟩,fun h=>Em fun e=>?_,fun hs=>⟨⟨⟨BU _,a2⟩,BU _,b2⟩,fun h=>Em fun e=>?_,fun hn=>⟨fun h=>Em fun e=>h (by rw[e]),fun hl=>⟨⟨0,⟨Nat.zero_le _,fun j hj=>absurd hj (by omega)⟩,rfl⟩,fun i hi=>⟨fun hlt=>?_,fun hge=>?_⟩⟩⟩⟩⟩⟩
 ·rw[e] at h;simp at h
 ·rw[e] at h;simp at h
 ·have hl:a.it.length=b.it.length:=by
   have hl:(a.it.length:Int)=b.it.length:=by simpa using hl
   omega
  have h1:i<a.it.length:=by omega
  have h2:i<b.it.length:=by omega
  refine⟨⟨by omega,by omega⟩,⟨by omega,by omega⟩,a.it.getD i default,b.it.getD i default,⟨⟨rfl,⟨rfl,fun _ _=>rfl⟩,⟨rfl,fun _ _=>rfl⟩,rfl,fun _ _=>rfl⟩,rfl,⟨rfl,fun _ _=>rfl⟩,⟨rfl,fun _ _=>rfl⟩,rfl,fun _ _=>rfl⟩,⟨EM h1,EM h2⟩,fun h=>Em fun e=>?_,fun h=>⟨i+1,⟨by omega,fun j hj=>?_⟩,by omega,Bb (by omega) (by omega)⟩⟩
  ·rw[e,B8.2 rfl] at h;cases h
  ·by_cases e:j=i
   ·subst e
    exact B8.1 (by simpa using h)
   ·exact hi.2 j (by omega)
 ·have hl:a.it.length=b.it.length:=by
   have hl:(a.it.length:Int)=b.it.length:=by simpa using hl
   omega
  exact (B8.2 (BcB (by simpa using hk) (by simpa using hs) (by simpa using hn) (CJ default hl fun j hj=>hi.2 j (by omega)))).symm
theorem GP{k:Nat}{q q':Arr×Arr->Prop}{x:Arr×Arr}(h:ACalls Tryz.prog k ((sSm Arr.row2 q).args x) ⟨[],[]⟩ (SpecR (sSm Arr.row2 q) x)):ACalls Tryz.prog k ((sSm Arr.row1 q').args x) ⟨[],[]⟩ (SpecR (sSm Arr.row1 q') x) :=
 (h.wkArgs (by simp only[sSm,wkL,wkD];exact⟨Eh _,Eh _,trivial⟩)).mono fun _ _ ⟨y,q1,q2,q3⟩=>⟨y,q1,q2,q3⟩
theorem E7:∀(a b:Arr),a.ok->b.ok->ACalls Tryz.prog 81 ((sSm Arr.row2 (fun _=>True)).args (a,b)) ⟨[],[]⟩ (SpecR (sSm Arr.row2 (fun _=>True)) (a,b))
 |.mk k s n is,.mk k' s' n' is',ha,hb=>by
  simp only[Arr.ok] at ha hb
  obtain ⟨_,_,_,a1,a2,a3,a4⟩:=ha
  obtain ⟨_,_,_,b1,b2,b3,b4⟩:=hb
  refine Ue _ _ ⟨a1,a2,a3⟩ ⟨b1,b2,b3⟩ ?_
  intro f ds S A h
  unfold Ru at h
  split at h
  ·injection h with h;subst h
   refine ConOk.plain (fun (x:Arr×Arr) hx=>?_) rfl rfl
   obtain ⟨x,y⟩:=x
   have hx1:x∈is:=hx.1
   have hx2:y∈is':=hx.2
   exact GP (E7 x y ((Ev _).1 a4 x hx1) ((Ev _).1 b4 y hx2))
  ·split at h
   ·injection h with h;subst h
    exact C4 fun ⟨⟨h1,h2⟩,h3,h4⟩=>⟨Bo _,CU (us:=[isl (Bu _ _) .any,isl (Bu _ _) .any]) ⟨(CN h1).1,(CN h3).1,trivial⟩ (UB _ _ (by rw[Ck];exact h2) (by rw[Ck];exact h4))⟩
   ·cases h
  ·cases h
termination_by a=>SizeOf.sizeOf a
decreasing_by
 have:=List.sizeOf_lt_of_mem hx1
 simp;omega
noncomputable def Ercl(n:Nd)(m:List Int):Senv:={ EC CK 29 3 [4,5,11,15,28] (fun id=>match id with | 6=>([0,1,2,3,4,5,6,7,8,9,10],[]) | _=>([],[])) with
 ann:=fun q _ S=>match q with
  |0=>some { slots:=[5],keep:=[0,1,2],α:=Nat,st:=fun i=>([.int .i64 i],S),inv:=fun i=>i<=m.length/\∀j,j<i->(n.ki.getD j default).cl=m.getD j 0,mu:=fun i=>m.length-i }
  |_=>none }
def Xe(a:Nd):Nat:=LN (Nd.ki a)
def Qd2(a:Nd)(b:List Int):Prop:=RT (false=Bj a b)
def Xf:Arr:=DA
def Je:Nd:=Nd.mk Z0 Z0 Z0 [] Z0 Z0 Xf [] [] Z0 Z0 Z0
def QL(a:Nd)(b:Nat):Nd:=List.getD (Nd.ki a) b Je
def Qd3(a:Nd)(b:Nat):Int:=Nd.cl (QL a b)
def Qah(a:Nat)(b:List Int)(c:Nd):Prop:=a<=LN b/\∀(j:Nat),j<a->Qd3 c j=GI b j
def Qd4(a:Nd):Int:=Nd.at_ a
def YI(a:Nd):Arr:=Nd.va a
def Qd5(a:Nd):Int:=Arr.k (YI a)
def Qd6(a:Nd):List Int:=Arr.sh (YI a)
def Qai(a:Nd):Nat:=LN (Qd6 a)
def Qd7(a:Nd)(b:Nat):List D:=[ZI (GI (Qd6 a) b)]
def Qd8(a:Nd):List Int:=Arr.nu (YI a)
def Qaj(a:Nd):Nat:=LN (Qd8 a)
def Qd9(a:Nd)(b:Nat):List D:=[ZI (GI (Qd8 a) b)]
def Qea(a:Nd):List Arr:=Arr.it (YI a)
def Qak(a:Nd):Nat:=LN (Qea a)
def Qeb(a:Nd)(b:Nat):List D:=Arr.row (List.getD (Qea a) b Xf)
def YJ(a:Nd)(b:Nat):Arr:=Nd.va (QL a b)
def QoL(a:Nd)(b:Nat):List Int:=Arr.sh (YJ a b)
def QoM(a:Nd)(b:Nat):List Int:=Arr.nu (YJ a b)
def Qec(a:Nd)(b:Nat):List Arr:=Arr.it (YJ a b)
def Qed(a:Nd)(b:Nat):List Nd:=Nd.ki (QL a b)
def Qee(a:Nd)(b:Nat):List Sm:=Nd.bo (QL a b)
def YK:Sm:=Sm.mk Z0 Z0 [] Z0 Je Je
def Qef(a:Nd)(b:Nat):List D:=[ZI (Nd.kd (QL a b)),ZI (Nd.at_ (QL a b)),ZI (Qd3 a b),D.str (Nd.tx (QL a b)),ZI (Nd.pr (QL a b)),ZI (Nd.op (QL a b)),ZI (Arr.k (YJ a b)),SI (QoL a b),SI (QoM a b),D.sl N4 (LN (Qec a b)) (fun i=>Arr.row (List.getD (Qec a b) i Xf)) Mode.any,D.sl 15 (LN (Qed a b)) (fun i=>Nd.row (List.getD (Qed a b) i Je)) Mode.any,D.sl 34 (LN (Qee a b)) (fun i=>Sm.row (List.getD (Qee a b) i YK)) Mode.any,ZI (Nd.de (QL a b)),ZI (Nd.sl (QL a b)),ZI (Nd.ss (QL a b))]
def Qal(a:Nd):Nat:=LN (Nd.bo a)
def JE(a:Nd)(b:Nat):Sm:=List.getD (Nd.bo a) b YK
def QM(a:Nd)(b:Nat):Nd:=Sm.te (JE a b)
def YL(a:Nd)(b:Nat):Arr:=Nd.va (QM a b)
def QoN(a:Nd)(b:Nat):List Int:=Arr.sh (YL a b)
def QoO(a:Nd)(b:Nat):List Int:=Arr.nu (YL a b)
def Qeg(a:Nd)(b:Nat):List Arr:=Arr.it (YL a b)
def Qeh(a:Nd)(b:Nat):List Nd:=Nd.ki (QM a b)
def Qei(a:Nd)(b:Nat):List Sm:=Nd.bo (QM a b)
def QN(a:Nd)(b:Nat):Nd:=Sm.nd (JE a b)
def YM(a:Nd)(b:Nat):Arr:=Nd.va (QN a b)
def QoP(a:Nd)(b:Nat):List Int:=Arr.sh (YM a b)
def QoQ(a:Nd)(b:Nat):List Int:=Arr.nu (YM a b)
def Qej(a:Nd)(b:Nat):List Arr:=Arr.it (YM a b)
def Qek(a:Nd)(b:Nat):List Nd:=Nd.ki (QN a b)
def Qel(a:Nd)(b:Nat):List Sm:=Nd.bo (QN a b)
def Qem(a:Nd)(b:Nat):List D:=[ZI (Sm.kd (JE a b)),ZI (Sm.at_ (JE a b)),D.str (Sm.nm (JE a b)),ZI (Sm.sl (JE a b)),ZI (Nd.kd (QM a b)),ZI (Nd.at_ (QM a b)),ZI (Nd.cl (QM a b)),D.str (Nd.tx (QM a b)),ZI (Nd.pr (QM a b)),ZI (Nd.op (QM a b)),ZI (Arr.k (YL a b)),SI (QoN a b),SI (QoO a b),D.sl N4 (LN (Qeg a b)) (fun i=>Arr.row (List.getD (Qeg a b) i Xf)) Mode.any,D.sl 15 (LN (Qeh a b)) (fun i=>Nd.row (List.getD (Qeh a b) i Je)) Mode.any,D.sl 34 (LN (Qei a b)) (fun i=>Sm.row (List.getD (Qei a b) i YK)) Mode.any,ZI (Nd.de (QM a b)),ZI (Nd.sl (QM a b)),ZI (Nd.ss (QM a b)),ZI (Nd.kd (QN a b)),ZI (Nd.at_ (QN a b)),ZI (Nd.cl (QN a b)),D.str (Nd.tx (QN a b)),ZI (Nd.pr (QN a b)),ZI (Nd.op (QN a b)),ZI (Arr.k (YM a b)),SI (QoP a b),SI (QoQ a b),D.sl N4 (LN (Qej a b)) (fun i=>Arr.row (List.getD (Qej a b) i Xf)) Mode.any,D.sl 15 (LN (Qek a b)) (fun i=>Nd.row (List.getD (Qek a b) i Je)) Mode.any,D.sl 34 (LN (Qel a b)) (fun i=>Sm.row (List.getD (Qel a b) i YK)) Mode.any,ZI (Nd.de (QN a b)),ZI (Nd.sl (QN a b)),ZI (Nd.ss (QN a b))]
def Qen(a:Nat)(b:Nd):Prop:=(SM a/\(SM (Nd.kd b)/\SM (Qd4 b)/\SM (Nd.cl b)/\SM (Nd.tx b)/\SM (Nd.pr b)/\SM (Nd.op b)/\SM (Qd5 b)/\(SM (Qai b)/\(∀(i:Nat),i<Qai b->SM (Qd7 b i))/\True)/\(SM (Qaj b)/\(∀(i:Nat),i<Qaj b->SM (Qd9 b i))/\True)/\(SM (Qak b)/\(∀(i:Nat),i<Qak b->SM (Qeb b i))/\True)/\(SM (Xe b)/\(∀(i:Nat),i<Xe b->SM (Qef b i))/\True)/\(SM (Qal b)/\(∀(i:Nat),i<Qal b->SM (Qem b i))/\True)/\SM (Nd.de b)/\SM (Nd.sl b)/\SM (Nd.ss b)/\True)/\True)/\True
def QoR(a:Nd):D:=D.agg [ZI (Nd.kd a),ZI (Qd4 a),ZI (Nd.cl a),D.str (Nd.tx a),ZI (Nd.pr a),ZI (Nd.op a),ZI (Qd5 a),D.sl N1 (Qai a) (fun i=>Qd7 a i) Mode.any,D.sl N1 (Qaj a) (fun i=>Qd9 a i) Mode.any,D.sl N4 (Qak a) (fun i=>Qeb a i) Mode.any,D.sl 15 (Xe a) (fun i=>Qef a i) Mode.any,D.sl 34 (Qal a) (fun i=>Qem a i) Mode.any,ZI (Nd.de a),ZI (Nd.sl a),ZI (Nd.ss a)]
def QoS(a:List Int):D:=SI a
theorem Beq(n:Nd)(m:List Int)(hl:n.ki.length<=maxLen)(hm:m.length<=maxLen):CD 131 [.agg n.row2,isl m .any] (.bool (Bj n m)):=by
 refine Bh (A:=sC _ _) (x:=()) (E:=Ercl n m) (eOk BE rfl) Tryz.func131 rfl (by kernel_rfl) rfl (by simp[sC,Ercl,EC,E0]) ?_
 refine Bl (T :=
  ∀(x:Nat),True->SM x/\ifB ((NI (Xe n)) != (LI m)) (Qd2 n m) ((∃(x_1:Nat),Qah x_1 m n/\(Z0=(↑x_1:Int)/\True)/\Qen x n)/\∀(x_1:Nat),Qah x_1 m n->ifB (decide ((↑x_1:Int)<(LI m))) (SM x/\Bf (Z0<=(↑x_1:Int)/\(↑x_1:Int)<(NI (Xe n))) (Bf (Z0<=(↑x_1:Int)/\(↑x_1:Int)<(LI m)) (ifB (Nd.cl (List.getD (Nd.ki n) (Int.toNat (↑x_1:Int)) Je) != GI m (Int.toNat (↑x_1:Int))) (Qd2 n m) ((SM (QoR n)/\SM (QoS m)/\SM (D.ref N0 x N0)/\True)/\∃(y:Nat),Qah y m n/\LN m-y<LN m-x_1/\(IntKind.wrap IntKind.i64 ((↑x_1:Int)+Z1)=(↑y:Int)/\True)/\Qen x n)))) (RT (true=Bj n m)))) (by kernel_rfl) ?_
 delta DA GI LI LN N0 N1 N4 NI SI SM Z0 Z1 ZI Xe Qd2 Xf Je QL Qd3 Qah Qd4 YI Qd5 Qd6 Qai Qd7 Qd8 Qaj Qd9 Qea Qak Qeb YJ QoL QoM Qec Qed Qee YK Qef Qal JE QM YL QoN QoO Qeg Qeh Qei QN YM QoP QoQ Qej Qek Qel Qem Qen QoR QoS RT
 simp only[eq_self,ne_eq,implies_true,Bo,Int.toNat_natCast,Bg,Be,decide_eq_true_eq,decide_eq_false_iff_not,true_and,and_true,beq_iff_eq,bne_iff_ne,bne_eq_false_iff_eq,beq_eq_false_iff_ne,Bool.not_eq_true',Bool.not_eq_false',exists_const,forall_const]
 simp only[<- dn]
 simp only[maxLen] at hl hm
 refine⟨fun h=>Uh fun ⟨e,_⟩=>h (by omega),fun he=>⟨⟨0,⟨Nat.zero_le _,fun j hj=>by omega⟩,rfl⟩,fun x ⟨x1,hx⟩=>⟨fun hlt=>⟨⟨by omega,by omega⟩,⟨by omega,by omega⟩,fun h=>Uh fun ⟨_,e⟩=>h (e x (by omega)),fun h=>⟨x+1,⟨by omega,fun j hj=>by
   by_cases e:j=x
   ·rw[e];exact h
   ·exact hx j (by omega)⟩,by omega,Bb (by omega) (by omega)⟩⟩,fun hge=>(OI.2 ⟨by omega,fun j hj=>hx j (by omega)⟩).symm⟩⟩⟩
theorem RP{n:Nd}(h:BC n=true):1<=n.cl/\n.cl<=4:=by
 rw[Io,Bool.and_eq_true] at h
 have h:=h.2
 by_cases hk:n.kd=10
 ·rw[if_pos hk,Bool.and_eq_true] at h
  have h:=h.1
  unfold Mz at h
  rw[Bool.and_eq_true] at h
  have h:=h.2
  by_cases c2:n.cl=2
  ·omega
  ·rw[if_neg c2] at h
   by_cases c3:n.cl=3
   ·omega
   ·rw[if_neg c3] at h
    by_cases c4:n.cl=4
    ·omega
    ·rw[if_neg c4] at h;cases h
 ·rw[if_neg hk,Bool.or_eq_true,Bool.and_eq_true] at h
  rcases h with h | ⟨h,_⟩
  ·unfold EN at h
   rw[Bool.and_eq_true] at h
   have h:=h.2
   repeat' (split at h)
   all_goals (try simp only[Bool.and_eq_true,beq_iff_eq,decide_eq_true_eq] at h)
   all_goals first
    |(have:=h.1.1;omega)
    |(have:=h.1;omega)
    |omega
    |cases h
  ·unfold Ej at h
   repeat' (split at h)
   all_goals (try simp only[Bool.and_eq_true,beq_iff_eq,decide_eq_true_eq] at h)
   all_goals first
    |(have:=h.1.1.1;omega)
    |(have:=h.1;omega)
    |omega
    |cases h
def Ra(names : List (List UInt8))(s : Sm) : Bool := decide (0 <= s.at_) && BC s.nd &&
    (if s.kd = 1 then s.nd.cl == 1 && s.nm.isEmpty && s.sl == 0 && B4 s.te
     else if s.kd = 2 then !(names.contains s.nm) && Cb s.nm && decide (0 <= s.sl) && B4 s.te && !(decide (3 <= s.nd.cl) && s.nd.kd != 10)
     else if s.kd = 3 then s.nd.cl == 1 && BC s.te && s.te.cl == 1 && s.nm.isEmpty && s.sl == 0
     else false)
theorem Tn(names:List (List UInt8))(s:Sm):Ra names s=Id true names s:=by
 rw[Et]
 unfold Ra
 cases hv:BC s.nd with
 |false=>simp
 |true =>
  have hc:=RP hv
  have hb:(s.nd.cl==1||s.nd.cl==2||s.nd.kd==10)=!(decide (3<=s.nd.cl)&&s.nd.kd != 10):=by
   rw[Bool.eq_iff_iff]
   simp only[Bool.or_eq_true,beq_iff_eq,Bool.not_eq_true',Bool.and_eq_false_iff,decide_eq_false_iff_not,bne_eq_false_iff_eq]
   omega
  rw[hb]
  by_cases h1:s.kd=1
  ·simp only[h1,if_true]
  ·by_cases h2:s.kd=2
   ·simp[h2]
    congr 1
    ac_rfl
   ·by_cases h3:s.kd=3
    ·simp[h3]
     congr 1
     ac_rfl
    ·simp only[h1,h2,h3,if_false]
theorem E6:∀(l:List Sm) (names:List (List UInt8)),BR false names l=(BR true names l&&l.all fun s=>s.kd != 3)
 | [],names=>by simp only[BR,List.all_nil,Bool.and_self]
 |s::l,names=>by
  simp only[BR,List.all_cons,E6 l]
  have e:Id false names s=(Id true names s&&(s.kd != 3)):=by
   rw[Et,Et]
   by_cases h3:s.kd=3
   ·simp[h3]
   ·have:(s.kd != 3)=true:=by simpa using h3
    rw[this]
    simp only[h3,if_false,Bool.and_true]
  rw[e]
  ac_rfl
theorem Mw(l:List Sm):BF false l=(BF true l&&l.all fun s=>s.kd != 3):=by
 unfold BF
 rw[E6,Bool.and_assoc]
def Is(l:List Sm):Bool:=(l.all fun s=>s.kd != 3)&&(!Ca l 12&&(!Ca l 13&&(!Ca l 6&&(!Ca l 7&&!Ca l 11))))
theorem Tb(l:List Sm):(BF true l&&Is l)=(BF false l&&!TE l):=by
 rw[Mw]
 unfold Is
 cases hb:BF true l with
 |false=>rfl
 |true =>
  rw[Cm hb (by decide),Cm hb (by decide),Cm hb (by decide),Cm hb (by decide),Cm hb (by decide)]
  unfold TE
  simp only[List.any_cons,List.any_nil,Bool.or_false,Bool.true_and,Bool.not_or]
  cases (l.all fun s=>s.kd != 3)<;>simp
  ac_rfl
def Ti:List D:=[.int .i64 0,.int .i64 0,.int .i64 0,.str [],.int .i64 0,.int .i64 0,.int .i64 0,.sl 1 0 (fun _=>[]) .nil,.sl 1 0 (fun _=>[]) .nil,.sl 1 0 (fun _=>[]) .nil,.sl 1 0 (fun _=>[]) .nil,.sl 1 0 (fun _=>[]) .nil,.int .i64 0,.int .i64 0,.int .i64 0]
def RRS(a b:Nd):Prop:=CD 111 [.agg a.row2,.agg b.row2] (.bool (Bk (stN a) (stN b)))
noncomputable def R1:Con:=fun k ds S=>match k with
 |111=>some (pE (β:=Nd×Nd) ds S (fun x=>.bool (Bk (stN x.1) (stN x.2))) (fun x=>wkL ds [.agg x.1.row1,.agg x.2.row1]/\RRS x.1 x.2))
 |_=>none
theorem Bah:ConOk Tryz.prog R1:=by
 intro k ds S A hh
 unfold R1 at hh
 split at hh
 ·injection hh with hh;subst hh
  exact B7 fun x ⟨e,h1⟩=>CD.at_ (CD.wk (CD.wk h1 GD) e) _
 ·cases hh
noncomputable def Erb(l m:List Sm):Senv:={ EC R1 64 2 [4,5,9,63] (fun id=>match id with | 4=>([0,1,2,3,4,5,6,7,8,9,10,11,12,13,14,15,16,17,18,19,20,21,22,23,24,25,26,27,28,29,30,31,32,33,34,35,36,37,38,39,40,41,42,43,44,45,46,47,48,49,50,51],[35,49]) | _=>([],[])) with
 mg:=fun _=>2
 ann:=fun q _ S=>match q with
  |0=>some { slots:=[5],keep:=[0,1,2,3],α:=Nat,st:=fun i=>([.int .i64 i],S),inv:=fun i=>i<=l.length/\∀j,j<i->stM (l.getD j default)=stM (m.getD j default),mu:=fun i=>l.length-i }
  |_=>none }
def Xg:Arr:=DA
def JF:Nd:=Nd.mk Z0 Z0 Z0 [] Z0 Z0 Xg [] [] Z0 Z0 Z0
def JG:Sm:=Sm.mk Z0 Z0 [] Z0 JF JF
def Jf(a:List Sm)(b:Nat):Sm:=List.getD a b JG
def Qeo(a:List Sm)(b:Nat):Sm:=stM (Jf a b)
def Qam(a:Nat)(b c:List Sm):Prop:=a<=LN b/\∀(j:Nat),j<a->Qeo b j=Qeo c j
def YN(a:List Sm)(b:Nat):Sm:=List.getD a (Int.toNat (↑b:Int)) JG
def Qep(a:List Sm)(b:Nat):Int:=Sm.kd (YN a b)
def YO(a b:List Sm):Prop:=True/\∃(_y:Unit),True/\false=Bk (List.map stM a) (List.map stM b)/\True/\True
def Qeq(a:List Sm)(b:Nat):List UInt8:=Sm.nm (YN a b)
def QO(a:List Sm)(b:Nat):Nd:=Sm.te (YN a b)
def YP(a:List Sm)(b:Nat):Arr:=Nd.va (QO a b)
def QoT(a:List Sm)(b:Nat):List Int:=Arr.sh (YP a b)
def QoU(a:List Sm)(b:Nat):List Int:=Arr.nu (YP a b)
def Qer(a:List Sm)(b:Nat):List Arr:=Arr.it (YP a b)
def Qes(a:List Sm)(b:Nat):List Nd:=Nd.ki (QO a b)
def Qet(a:List Sm)(b:Nat):List Sm:=Nd.bo (QO a b)
def Qeu(a:List Sm)(b:Nat):D:=D.agg [ZI (Nd.kd (QO a b)),ZI (Nd.at_ (QO a b)),ZI (Nd.cl (QO a b)),D.str (Nd.tx (QO a b)),ZI (Nd.pr (QO a b)),ZI (Nd.op (QO a b)),ZI (Arr.k (YP a b)),SI (QoT a b),SI (QoU a b),D.sl N4 (LN (Qer a b)) (fun i=>Arr.row (List.getD (Qer a b) i Xg)) Mode.any,D.sl 15 (LN (Qes a b)) (fun i=>Nd.row (List.getD (Qes a b) i JF)) Mode.any,D.sl 34 (LN (Qet a b)) (fun i=>Sm.row (List.getD (Qet a b) i JG)) Mode.any,ZI (Nd.de (QO a b)),ZI (Nd.sl (QO a b)),ZI (Nd.ss (QO a b))]
def Qev(a b:Nd):List D:=[D.agg (Nd.row1 a),D.agg (Nd.row1 b)]
def Qew(a b:Nd):Bool:=!Bk (stN a) (stN b)
def QP(a:List Sm)(b:Nat):Nd:=Sm.nd (YN a b)
def YQ(a:List Sm)(b:Nat):Arr:=Nd.va (QP a b)
def QoV(a:List Sm)(b:Nat):List Int:=Arr.sh (YQ a b)
def QoW(a:List Sm)(b:Nat):List Int:=Arr.nu (YQ a b)
def Qex(a:List Sm)(b:Nat):List Arr:=Arr.it (YQ a b)
def Qey(a:List Sm)(b:Nat):List Nd:=Nd.ki (QP a b)
def Qez(a:List Sm)(b:Nat):List Sm:=Nd.bo (QP a b)
def QeA(a:List Sm)(b:Nat):D:=D.agg [ZI (Nd.kd (QP a b)),ZI (Nd.at_ (QP a b)),ZI (Nd.cl (QP a b)),D.str (Nd.tx (QP a b)),ZI (Nd.pr (QP a b)),ZI (Nd.op (QP a b)),ZI (Arr.k (YQ a b)),SI (QoV a b),SI (QoW a b),D.sl N4 (LN (Qex a b)) (fun i=>Arr.row (List.getD (Qex a b) i Xg)) Mode.any,D.sl 15 (LN (Qey a b)) (fun i=>Nd.row (List.getD (Qey a b) i JF)) Mode.any,D.sl 34 (LN (Qez a b)) (fun i=>Sm.row (List.getD (Qez a b) i JG)) Mode.any,ZI (Nd.de (QP a b)),ZI (Nd.sl (QP a b)),ZI (Nd.ss (QP a b))]
def QQ(a:List Sm)(b:Nat):Nd:=Sm.te (Jf a b)
def YR(a:List Sm)(b:Nat):Arr:=Nd.va (QQ a b)
def QoX(a:List Sm)(b:Nat):List Int:=Arr.sh (YR a b)
def QoY(a:List Sm)(b:Nat):List Int:=Arr.nu (YR a b)
def QeB(a:List Sm)(b:Nat):List Arr:=Arr.it (YR a b)
def QeC(a:List Sm)(b:Nat):List Nd:=Nd.ki (QQ a b)
def QeD(a:List Sm)(b:Nat):List Sm:=Nd.bo (QQ a b)
def QR(a:List Sm)(b:Nat):Nd:=Sm.nd (Jf a b)
def YS(a:List Sm)(b:Nat):Arr:=Nd.va (QR a b)
def QoZ(a:List Sm)(b:Nat):List Int:=Arr.sh (YS a b)
def Qo0(a:List Sm)(b:Nat):List Int:=Arr.nu (YS a b)
def QeE(a:List Sm)(b:Nat):List Arr:=Arr.it (YS a b)
def QeF(a:List Sm)(b:Nat):List Nd:=Nd.ki (QR a b)
def QeG(a:List Sm)(b:Nat):List Sm:=Nd.bo (QR a b)
def Qo1(a:List Sm):D:=D.sl 34 (LN a) (fun i=>[ZI (Sm.kd (Jf a i)),ZI (Sm.at_ (Jf a i)),D.str (Sm.nm (Jf a i)),ZI (Sm.sl (Jf a i)),ZI (Nd.kd (QQ a i)),ZI (Nd.at_ (QQ a i)),ZI (Nd.cl (QQ a i)),D.str (Nd.tx (QQ a i)),ZI (Nd.pr (QQ a i)),ZI (Nd.op (QQ a i)),ZI (Arr.k (YR a i)),SI (QoX a i),SI (QoY a i),D.sl N4 (LN (QeB a i)) (fun i_1=>Arr.row (List.getD (QeB a i) i_1 Xg)) Mode.any,D.sl 15 (LN (QeC a i)) (fun i_1=>Nd.row (List.getD (QeC a i) i_1 JF)) Mode.any,D.sl 34 (LN (QeD a i)) (fun i_1=>Sm.row (List.getD (QeD a i) i_1 JG)) Mode.any,ZI (Nd.de (QQ a i)),ZI (Nd.sl (QQ a i)),ZI (Nd.ss (QQ a i)),ZI (Nd.kd (QR a i)),ZI (Nd.at_ (QR a i)),ZI (Nd.cl (QR a i)),D.str (Nd.tx (QR a i)),ZI (Nd.pr (QR a i)),ZI (Nd.op (QR a i)),ZI (Arr.k (YS a i)),SI (QoZ a i),SI (Qo0 a i),D.sl N4 (LN (QeE a i)) (fun i_1=>Arr.row (List.getD (QeE a i) i_1 Xg)) Mode.any,D.sl 15 (LN (QeF a i)) (fun i_1=>Nd.row (List.getD (QeF a i) i_1 JF)) Mode.any,D.sl 34 (LN (QeG a i)) (fun i_1=>Sm.row (List.getD (QeG a i) i_1 JG)) Mode.any,ZI (Nd.de (QR a i)),ZI (Nd.sl (QR a i)),ZI (Nd.ss (QR a i))]) Mode.any
def QeH(a:List Sm):Prop:=SM (Qo1 a)
theorem Rj(l m:List Sm)(he:l.length=m.length)(hl:l.length<=maxLen)(h:∀x∈l,∀y∈m,RRS x.te y.te/\RRS x.nd y.nd):CD 133 [gsl 34 Sm.row1 l,gsl 34 Sm.row1 m] (.bool (Bk (l.map stM) (m.map stM))):=by
 refine Bh (A:=sC _ _) (x:=()) (E:=Erb l m) (eOk Bah rfl) Tryz.func133 rfl (by kernel_rfl) rfl (by simp[sC,Erb,EC,E0]) ?_
 refine Bl (T :=
  (∃(x:Nat),Qam x l m/\(Z0=(↑x:Int)/\True)/\True/\True)/\∀(x:Nat),Qam x l m->ifB (decide ((↑x:Int)<(LI l))) (Bf (Z0<=(↑x:Int)/\(↑x:Int)<(LI l)) (Bf (Z0<=(↑x:Int)/\(↑x:Int)<(LI m)) (ifB (Qep l x != Qep m x) (YO l m) (Bf (Z0<=(↑x:Int)/\(↑x:Int)<(LI l)) (Bf (Z0<=(↑x:Int)/\(↑x:Int)<(LI m)) (ifB (Qeq l x != Qeq m x) (YO l m) (Bf (Z0<=(↑x:Int)/\(↑x:Int)<(LI l)) (Bf (Z0<=(↑x:Int)/\(↑x:Int)<(LI m)) (∃(x_1:Nd×Nd),(wkL [Qeu l x,Qeu m x] (Qev x_1.1 x_1.2)/\RRS x_1.1 x_1.2)/\∀(y:Unit),True->ifB (Qew x_1.1 x_1.2) (YO l m) (Bf (Z0<=(↑x:Int)/\(↑x:Int)<(LI l)) (Bf (Z0<=(↑x:Int)/\(↑x:Int)<(LI m)) (∃(x_2:Nd×Nd),(wkL [QeA l x,QeA m x] (Qev x_2.1 x_2.2)/\RRS x_2.1 x_2.2)/\∀(y:Unit),True->ifB (Qew x_2.1 x_2.2) (YO l m) ((QeH l/\QeH m/\SM D.unk/\SM D.unk/\True)/\∃(y:Nat),Qam y l m/\LN l-y<LN l-x/\(IntKind.wrap IntKind.i64 ((↑x:Int)+Z1)=(↑y:Int)/\True)/\True/\True))))))))))))) (RT (true=Bk (List.map stM l) (List.map stM m)))) (by kernel_rfl) ?_
 delta DA GI LI LN N1 N4 SI SM Z0 Z1 ZI Xg JF QO YP QoT QoU Qer Qes Qet Qeu Qev Qew JG QP YQ QoV QoW Qex Qey Qez QeA QQ YR Jf QoX QoY QeB QeC QeD QR YS QoZ Qo0 QeE Qeo QeF QeG Qo1 QeH Qam YN Qep YO Qeq RT
 try simp only[<- dm]
 try simp only[<- dn]
 simp only[ne_eq,Int.toNat_natCast,Bg,Be,decide_eq_true_eq,decide_eq_false_iff_not,true_and,and_true,bne_iff_ne,bne_eq_false_iff_eq,Bool.not_eq_true',Bool.not_eq_false',exists_const,forall_const,Prod.exists]
 have gm:∀ {i:Nat},i<l.length->i<m.length->l.getD i default∈l/\m.getD i default∈m:=fun h1 h2=>⟨by rw[List.getD_eq_getElem?_getD,List.getElem?_eq_getElem h1];exact List.getElem_mem h1,by rw[List.getD_eq_getElem?_getD,List.getElem?_eq_getElem h2];exact List.getElem_mem h2⟩
 have no:∀ {α:Type} {x y:α},Bk x y=false->x≠y:=fun h e=>by rw[Bq.2 e] at h;cases h
 have gmap:∀ {l:List Sm} {i:Nat},i<l.length->(l.map stM).getD i (stM default)=stM (l.getD i default):=fun h=>by simp[List.getD_eq_getElem?_getD,h]
 have neq:∀ {i:Nat},i<l.length->stM (l.getD i default)≠stM (m.getD i default)->false=Bk (l.map stM) (m.map stM):=fun hi hn=>Bi fun e=>hn (by rw[<- gmap hi,<- gmap (by omega),e])
 simp only[maxLen] at hl
 refine⟨⟨0,⟨Nat.zero_le _,fun j hj=>absurd hj (by omega)⟩,rfl⟩,fun i ⟨i1,hi⟩=>⟨fun hlt=>?_,fun hge=>Ee ?_⟩⟩
 ·have hi1:i<l.length:=by omega
  have hi2:i<m.length:=by omega
  obtain ⟨q1,q2⟩:=h _ (gm hi1 hi2).1 _ (gm hi1 hi2).2
  have iff:=Wz (l.getD i default) (m.getD i default)
  refine⟨⟨by omega,by omega⟩,⟨by omega,by omega⟩,fun a1=>neq hi1 fun e=>a1 (iff.1 e).1,fun a1=>⟨⟨by omega,by omega⟩,⟨by omega,by omega⟩,fun a2=>neq hi1 fun e=>a2 (iff.1 e).2.1,fun a2=>⟨⟨by omega,by omega⟩,⟨by omega,by omega⟩,(l.getD i default).te,(m.getD i default).te,⟨Bc _,q1⟩,fun a3=>neq hi1 fun e=>no a3 (iff.1 e).2.2.1,fun a3=>⟨⟨by omega,by omega⟩,⟨by omega,by omega⟩,(l.getD i default).nd,(m.getD i default).nd,⟨Bc _,q2⟩,?_⟩⟩⟩⟩
  have fin:Bk (stN (l.getD i default).nd) (stN (m.getD i default).nd)=true->∃y,(y<=l.length/\∀(j:Nat),j<y->stM (l.getD j default)=stM (m.getD j default))/\l.length-y<l.length-i/\IntKind.i64.wrap ((i:Int)+1)=(y:Int):=fun a4 =>
   ⟨i+1,⟨hi1,fun j hj=>by
    by_cases q:j=i
    ·rw[q];exact iff.2 ⟨a1,a2,Bq.1 a3,Bq.1 a4⟩
    ·exact hi j (by omega)⟩,by omega,Bb (by omega) (by omega)⟩
  exact⟨fun a4=>neq hi1 fun e=>no a4 (iff.1 e).2.2.2,fin⟩
 ·refine CJ (stM default) (by simpa using he) fun j hj=>?_
  have hj:j<l.length:=by simpa using hj
  rw[gmap hj,gmap (by omega)]
  exact hi j (by omega)
noncomputable def R2(a b:Nd):Con:=fun k ds S=>match k with
 |111=>some (pE (β:=Nd×Nd) ds S (fun x=>.bool (Bk (stN x.1) (stN x.2))) (fun x=>wkL ds [.agg x.1.row1,.agg x.2.row1]/\RRS x.1 x.2))
 |81=>some (pA ds S (.bool (Cz a.va b.va)) (wkL ds [.agg a.va.row1,.agg b.va.row1]))
 |133=>some (pA ds S (.bool (Bk (a.bo.map stM) (b.bo.map stM))) (a.bo.length=b.bo.length/\wkL ds [gsl 34 Sm.row1 a.bo,gsl 34 Sm.row1 b.bo]))
 |_=>none
noncomputable def Ersm(a b:Nd):Senv:={ EC (R2 a b) 89 6 [64,69,83] (fun id=>match id with | 6=>([0,1,2,3,4,5,6,7,8,9,10,11],[10]) | _=>([],[])) with
 mg:=fun _=>2
 ann:=fun q _ S=>match q with
  |0=>some { slots:=[5],keep:=[0,1,2,3],α:=Nat,st:=fun i=>([.int .i64 i],S),inv:=fun i=>i<=a.ki.length/\∀j,j<i->stN (a.ki.getD j default)=stN (b.ki.getD j default),mu:=fun i=>a.ki.length-i }
  |_=>none }
def YT(a:Nd):Int:=Nd.kd a
def Qan(a b:Nd):Bool:=Bk (stN a) (stN b)
def KH(a b:Nd):Prop:=True/\∃(_y:Unit),True/\false=Qan a b/\True/\True
def YU(a:Nd):Int:=Nd.cl a
def YV(a:Nd):List UInt8:=Nd.tx a
def YW(a:Nd):Int:=Nd.pr a
def YX(a:Nd):Int:=Nd.op a
def JH(a:Nd):Arr:=Nd.va a
def QeI(a:Nd):Int:=Arr.k (JH a)
def QeJ(a:Nd):D:=ZI (QeI a)
def QeK(a:Nd):List Int:=Arr.sh (JH a)
def Qao(a:Nd):Nat:=LN (QeK a)
def QeL(a:Nd)(b:Nat):List D:=[ZI (GI (QeK a) b)]
def QeM(a:Nd):D:=D.sl N1 (Qao a) (fun i=>QeL a i) Mode.any
def QeN(a:Nd):List Int:=Arr.nu (JH a)
def Qap(a:Nd):Nat:=LN (QeN a)
def QeO(a:Nd)(b:Nat):List D:=[ZI (GI (QeN a) b)]
def QeP(a:Nd):D:=D.sl N1 (Qap a) (fun i=>QeO a i) Mode.any
def QeQ(a:Nd):List Arr:=Arr.it (JH a)
def Qaq(a:Nd):Nat:=LN (QeQ a)
def Qar:Arr:=DA
def QeR(a:Nd)(b:Nat):List D:=Arr.row (List.getD (QeQ a) b Qar)
def QeS(a:Nd):D:=D.sl N4 (Qaq a) (fun i=>QeR a i) Mode.any
def QeT(a:Nd):D:=D.agg [QeJ a,QeM a,QeP a,QeS a]
def QeU(a b:Nd):List D:=[QeT a,QeT b]
def Jg(a:Nd):Nat:=LN (Nd.ki a)
def Xh(a:Nd):Int:=(NI (Jg a))
def Jh(a:Nd):Nat:=LN (Nd.bo a)
def Xi:Nd:=Nd.mk Z0 Z0 Z0 [] Z0 Z0 Qar [] [] Z0 Z0 Z0
def QeV(a:Nd)(b:Nat):Nd:=List.getD (Nd.ki a) b Xi
def QeW(a:Nd)(b:Nat):Nd:=stN (QeV a b)
def Qas(a:Nat)(b c:Nd):Prop:=a<=Jg b/\∀(j:Nat),j<a->QeW b j=QeW c j
def QeX(a:Nd):Int:=Nd.at_ a
def QeY(a:Nd)(b:Nat):List D:=Nd.row1 (QeV a b)
def QeZ:Sm:=Sm.mk Z0 Z0 [] Z0 Xi Xi
def Qe0(a:Nd)(b:Nat):List D:=Sm.row1 (List.getD (Nd.bo a) b QeZ)
def Qe1(a:Nd):Prop:=SM (YT a)/\SM (QeX a)/\SM (YU a)/\SM (YV a)/\SM (YW a)/\SM (YX a)/\SM (QeI a)/\(SM (Qao a)/\(∀(i:Nat),i<Qao a->SM (QeL a i))/\True)/\(SM (Qap a)/\(∀(i:Nat),i<Qap a->SM (QeO a i))/\True)/\(SM (Qaq a)/\(∀(i:Nat),i<Qaq a->SM (QeR a i))/\True)/\(SM (Jg a)/\(∀(i:Nat),i<Jg a->SM (QeY a i))/\True)/\(SM (Jh a)/\(∀(i:Nat),i<Jh a->SM (Qe0 a i))/\True)/\SM (Nd.de a)/\SM (Nd.sl a)/\SM (Nd.ss a)/\True
def Qe2(a:Nat)(b:Nd)(c:Nat)(d:Nd):Prop:=(SM a/\Qe1 b/\SM c/\Qe1 d/\True)/\True
def QS(a:Nd)(b:Nat):Nd:=List.getD (Nd.ki a) (Int.toNat (↑b:Int)) Xi
def YY(a:Nd)(b:Nat):Arr:=Nd.va (QS a b)
def Qo2(a:Nd)(b:Nat):List Int:=Arr.sh (YY a b)
def Qo3(a:Nd)(b:Nat):List Int:=Arr.nu (YY a b)
def Qe3(a:Nd)(b:Nat):List Arr:=Arr.it (YY a b)
def Qe4(a:Nd)(b:Nat):List Nd:=Nd.ki (QS a b)
def Qe5(a:Nd)(b:Nat):List Sm:=Nd.bo (QS a b)
def Qe6(a:Nd)(b:Nat):D:=D.agg [ZI (Nd.kd (QS a b)),ZI (Nd.at_ (QS a b)),ZI (Nd.cl (QS a b)),D.str (Nd.tx (QS a b)),ZI (Nd.pr (QS a b)),ZI (Nd.op (QS a b)),ZI (Arr.k (YY a b)),SI (Qo2 a b),SI (Qo3 a b),D.sl N4 (LN (Qe3 a b)) (fun i=>Arr.row (List.getD (Qe3 a b) i Qar)) Mode.any,D.sl 15 (LN (Qe4 a b)) (fun i=>Nd.row (List.getD (Qe4 a b) i Xi)) Mode.any,D.sl 34 (LN (Qe5 a b)) (fun i=>Sm.row (List.getD (Qe5 a b) i QeZ)) Mode.any,ZI (Nd.de (QS a b)),ZI (Nd.sl (QS a b)),ZI (Nd.ss (QS a b))]
def Qat(a:Nd):D:=D.sl 34 (Jh a) (fun i=>Qe0 a i) Mode.any
def Qo4(a:Nd):D:=D.agg [ZI (YT a),ZI (QeX a),ZI (YU a),D.str (YV a),ZI (YW a),ZI (YX a),QeJ a,QeM a,QeP a,QeS a,D.sl 15 (Jg a) (fun i=>QeY a i) Mode.any,Qat a,ZI (Nd.de a),ZI (Nd.sl a),ZI (Nd.ss a)]
def Qe7(a:Nd):Prop:=SM (Qo4 a)
def Qe8(a b:Nd):List D:=[Qat a,Qat b]
theorem Baq(a b:Nd)(ha:a.sm/\a.va.ok)(hb:b.sm/\b.va.ok)(h1:∀x∈a.ki,∀y∈b.ki,RRS x y)(h2:∀x∈a.bo,∀y∈b.bo,RRS x.te y.te/\RRS x.nd y.nd):RRS a b:=by
 refine Bh (A:=sC _ _) (x:=()) (E:=Ersm a b) (eOk ?_ rfl) Tryz.func111 rfl (by kernel_rfl) rfl (by simp[sC,Ersm,EC,E0]) ?_
 ·intro k ds S A hh
  unfold R2 at hh
  have a1:=BZ ha.1
  split at hh
  ·injection hh with hh;subst hh
   exact B7 fun x ⟨e,h1⟩=>CD.at_ (CD.wk (CD.wk h1 GD) e) _
  ·injection hh with hh;subst hh
   refine Bm fun e=>CD.at_ (CD.wk (us:=[.agg a.va.row1,.agg b.va.row1]) ?_ e) _
   exact (GP (q':=fun _=>True) (E7 a.va b.va ha.2 hb.2)).mono fun _ _ ⟨y,q1,q2,q3⟩=>⟨(),trivial,q2,q3⟩
  ·injection hh with hh;subst hh
   exact Bm fun ⟨hl,e⟩=>CD.at_ (CD.wk (Rj a.bo b.bo hl (BD a1.2.2) h2) e) _
  ·cases hh
 refine Bl (T :=
  ∀(x:Nat),True->∀(x_1:Nat),x≠x_1/\True->SM x/\SM x_1/\ifB (YT a != YT b) (KH a b) (SM x/\SM x_1/\ifB (YU a != YU b) (KH a b) (SM x/\SM x_1/\ifB (YV a != YV b) (KH a b) (SM x/\SM x_1/\ifB (YW a != YW b) (KH a b) (SM x/\SM x_1/\ifB (YX a != YX b) (KH a b) (SM x/\SM x_1/\∃(x_2:Unit),wkL (QeU a b) (QeU a b)/\∀(y:Unit),True->ifB (!Cz (JH a) (JH b)) (KH a b) (SM x/\SM x_1/\ifB (Xh a != Xh b) (KH a b) (SM x/\SM x_1/\ifB ((NI (Jh a)) != (NI (Jh b))) (KH a b) ((∃(x_3:Nat),Qas x_3 a b/\(Z0=(↑x_3:Int)/\True)/\Qe2 x_1 b x a)/\∀(x_3:Nat),Qas x_3 a b->SM x/\ifB (decide ((↑x_3:Int)<Xh a)) (SM x/\Bf (Z0<=(↑x_3:Int)/\(↑x_3:Int)<Xh a) (SM x_1/\Bf (Z0<=(↑x_3:Int)/\(↑x_3:Int)<Xh b) (∃(x_4:Nd×Nd),(wkL [Qe6 a x_3,Qe6 b x_3] [D.agg (Nd.row1 x_4.1),D.agg (Nd.row1 x_4.2)]/\RRS x_4.1 x_4.2)/\∀(y:Unit),True->ifB (!Qan x_4.1 x_4.2) (KH a b) ((Qe7 a/\Qe7 b/\SM (D.ref N0 x N0)/\SM (D.ref (max (N0+N1) N0) x_1 N0)/\True)/\∃(y:Nat),Qas y a b/\Jg a-y<Jg a-x_3/\(IntKind.wrap IntKind.i64 ((↑x_3:Int)+Z1)=(↑y:Int)/\True)/\Qe2 x_1 b x a)))) (SM x/\SM x_1/\∃(x:Unit),(Jh a=Jh b/\wkL (Qe8 a b) (Qe8 a b))/\∀(y:Unit),True->RT (Bk (List.map stM (Nd.bo a)) (List.map stM (Nd.bo b))=Qan a b))))))))))) (by kernel_rfl) ?_
 delta DA GI LN N0 N1 N4 NI SI SM Z0 Z1 ZI YT Qan KH YU YV YW YX JH QeI QeJ QeK Qao QeL QeM QeN Qap QeO QeP QeQ Qaq Qar QeR QeS QeT QeU Jg Xh Jh Xi QeV QeW Qas QeX QeY QeZ Qe0 Qe1 Qe2 QS YY Qo2 Qo3 Qe3 Qe4 Qe5 Qe6 Qat Qo4 Qe7 Qe8 RT
 try simp only[<- dm]
 try simp only[<- dn]
 simp only[ne_eq,implies_true,Int.toNat_natCast,Bg,Be,decide_eq_true_eq,decide_eq_false_iff_not,true_and,and_true,bne_iff_ne,bne_eq_false_iff_eq,Bool.not_eq_true',Bool.not_eq_false',exists_const,forall_const,Prod.exists]
 have iff:=IN a b
 have no:∀ {α:Type} {x y:α},Bk x y=false->x≠y:=fun h e=>by rw[Bq.2 e] at h;cases h
 have na:Cz a.va b.va=false->a.va≠b.va:=fun h e=>by rw[B8.2 e] at h;cases h
 have hl:=BD (BZ ha.1).2.1
 unfold maxLen at hl
 have gmap:∀ {l:List Nd} {i:Nat},i<l.length->(l.map stN).getD i (stN default)=stN (l.getD i default):=fun h=>by simp[List.getD_eq_getElem?_getD,h]
 refine fun u v _=>⟨fun c=>Bi fun e=>c (iff.1 e).1,fun a1=>⟨fun c=>Bi fun e=>c (iff.1 e).2.1,fun a2=>⟨fun c=>Bi fun e=>c (iff.1 e).2.2.1,fun a3=>⟨fun c=>Bi fun e=>c (iff.1 e).2.2.2.1,fun a4=>⟨fun c=>Bi fun e=>c (iff.1 e).2.2.2.2.1,fun a5=>⟨Bc _,fun c=>Bi fun e=>na c (iff.1 e).2.2.2.2.2.1,fun a6=>⟨fun c=>Bi fun e=>?_,fun hk=>⟨fun c=>Bi fun e=>?_,fun hb2=>⟨⟨0,⟨Nat.zero_le _,fun j hj=>absurd hj (by omega)⟩,rfl⟩,fun i ⟨i1,hi⟩=>⟨fun hlt=>?_,fun hge=>?_⟩⟩⟩⟩⟩⟩⟩⟩⟩⟩
 ·have:=congrArg List.length (iff.1 e).2.2.2.2.2.2.1
  simp only[List.length_map] at this
  omega
 ·have:=congrArg List.length (iff.1 e).2.2.2.2.2.2.2
  simp only[List.length_map] at this
  omega
 ·have hi1:i<a.ki.length:=by omega
  have hi2:i<b.ki.length:=by omega
  refine⟨⟨by omega,by omega⟩,⟨by omega,by omega⟩,a.ki.getD i default,b.ki.getD i default,⟨Bc _,h1 _ (Ci hi1) _ (Ci hi2)⟩,fun c=>Bi fun e=>no c ?_,fun c=>⟨i+1,⟨hi1,fun j hj=>?_⟩,by omega,Bb (by omega) (by omega)⟩⟩
  ·rw[<- gmap hi1,<- gmap hi2,(iff.1 e).2.2.2.2.2.2.1]
  ·by_cases q:j=i
   ·rw[q];exact Bq.1 c
   ·exact hi j (by omega)
 ·have hki:a.ki.map stN=b.ki.map stN:=by
   refine CJ (stN default) (by simp only[List.length_map];omega) fun j hj=>?_
   have hj:j<a.ki.length:=by simpa using hj
   rw[gmap hj,gmap (by omega)]
   exact hi j (by omega)
  refine⟨⟨by omega,Bc _⟩,?_⟩
  exact Cw ⟨fun e=>iff.2 ⟨a1,a2,a3,a4,a5,B8.1 a6,hki,e⟩,fun e=>(iff.1 e).2.2.2.2.2.2.2⟩
theorem Mc(a b:Nd)(ha:a.ok/\a.sm)(hb:b.ok/\b.sm):RRS a b :=
  Baq a b ⟨ha.2,Ih ha.1⟩ ⟨hb.2,Ih hb.1⟩ (fun x hx y hy => Mc x y ⟨Ip ha.1 x hx,Cv ha.2 (BQ hx)⟩ ⟨Ip hb.1 y hy,Cv hb.2 (BQ hy)⟩) fun x hx y hy =>
    ⟨Mc x.te y.te ⟨(BM (Co ha.1 x hx)).1,(By (Cu ha.2 x hx)).1⟩ ⟨(BM (Co hb.1 y hy)).1,(By (Cu hb.2 y hy)).1⟩,
     Mc x.nd y.nd ⟨(BM (Co ha.1 x hx)).2,(By (Cu ha.2 x hx)).2⟩ ⟨(BM (Co hb.1 y hy)).2,(By (Cu hb.2 y hy)).2⟩⟩
termination_by SizeOf.sizeOf a
decreasing_by
  · exact Nd.size_kid hx
  · have := Nd.size_stmt hx
    have := Sm.size_te x
    omega
  · have := Nd.size_stmt hx
    have := Sm.size_nd x
    omega
def zA:Arr:=.mk 0 [] [] []
theorem Bjp:zA.ok:=by simp[zA,Arr.ok,okL,Cs,maxLen]
theorem Uo(a:Arr):Cz a zA=Gn a:=by
 cases a with
 |mk k s n i =>
  rw[Bool.eq_iff_iff,B8]
  unfold Gn
  simp[zA,Arr.k,Arr.sh,Arr.nu,Arr.it,and_assoc]
def BfP:List D:=[.int .i64 0,.sl 1 0 (fun _=>[]) .nil,.sl 1 0 (fun _=>[]) .nil,.sl 1 0 (fun _=>[]) .nil]
theorem Bcy:wkL BfP zA.row1:=by
 simp[BfP,zA,Arr.row1,Arr.k,Arr.sh,Arr.nu,Arr.it,isl,gsl,wkL,wkD,Br,Ba,BG,EI,kEq]
theorem BfI(n:Nd):wkL [.agg n.va.row1,.agg BfP] [.agg n.va.row1,.agg zA.row1]:=by
 simp only[wkL,wkD]
 exact⟨Bc _,Bcy,trivial⟩
def R6(n:Nd):Con:=fun k ds S=>match k with
 |81=>some (pA ds S (.bool (Gn n.va)) (wkL ds [.agg n.va.row1,.agg zA.row1]))
 |_=>none
theorem RR{n:Nd}(h:n.va.ok):ConOk Tryz.prog (R6 n):=by
 intro k ds S A hh
 unfold R6 at hh
 split at hh
 ·injection hh with hh;subst hh
  refine Bm fun e=>CD.at_ (CD.wk (us:=[.agg n.va.row1,.agg zA.row1]) ?_ e) _
  rw[<- Uo]
  exact (GP (q':=fun _=>True) (E7 n.va zA h Bjp)).mono fun _ _ ⟨y,q1,q2,q3⟩=>⟨(),trivial,q2,q3⟩
 ·cases hh
noncomputable def Eep(n:Nd):Senv:=EC (R6 n) 64 8 [14] (fun _=>([],[]))
def Qe9(a:Bool)(b:Nd)(c d e f g:Bool)(h:Nat):Prop:=ifB a (True/\∃(_y:Unit),True/\true=Cl b c d e f g a/\True/\True) (SM h/\True/\∃(_y:Unit),True/\((LI (Nd.bo b))==Z0)=Cl b c d e f g a/\True/\True)
def Xj(a:Nd)(b c d e f g:Bool):Prop:=True/\∃(_y:Unit),True/\false=Cl a b c d e f g/\True/\True
def Qfa(a b:Bool)(c:Nd)(d e f g:Bool)(h:Nat):Prop:=ifB a (Qe9 b c d e f g a h) (SM h/\ifB ((LI (Nd.ki c))==Z0) (Qe9 b c d e f g a h) (Xj c d e f g a b))
def Xk(a:Nd):Arr:=Nd.va a
def Qo5(a:Nd):List Int:=Arr.sh (Xk a)
def Qo6(a:Nd):List Int:=Arr.nu (Xk a)
def Qfb(a:Nd):List Arr:=Arr.it (Xk a)
def JI:Arr:=DA
def Qfc(a:Nd):D:=D.agg [ZI (Arr.k (Xk a)),SI (Qo5 a),SI (Qo6 a),D.sl N4 (LN (Qfb a)) (fun i=>Arr.row (List.getD (Qfb a) i JI)) Mode.any]
def Qau:D:=D.sl N1 N0 (fun _x=>[]) Mode.nil
def Qo7:List Int:=Arr.sh JI
def Qo8:List Int:=Arr.nu JI
def Qfd(a b c:Bool)(d:Nd)(e f g:Bool)(h:Nat):Prop:=ifB a (Qfa b c d e f g a h) (SM h/\∃(_x:Unit),wkL [Qfc d,D.agg [ZI Z0,Qau,Qau,Qau]] [Qfc d,D.agg [ZI (Arr.k JI),SI Qo7,SI Qo8,D.sl N4 (LN (Arr.it JI)) (fun _i=>Arr.row JI) Mode.any]]/\∀(_y:Unit),True->ifB (Gn (Xk d)) (Qfa b c d e f g a h) (Xj d e f g a b c))
def Qfe(a b c d:Bool)(e:Nd)(f g:Bool)(h:Nat):Prop:=ifB a (Qfd b c d e f g a h) (SM h/\ifB (Nd.op e==Z0) (Qfd b c d e f g a h) (Xj e f g a b c d))
def Qff(a b c d e:Bool)(f:Nd)(g:Bool)(h:Nat):Prop:=ifB a (Qfe b c d e f g a h) (SM h/\ifB (Nd.pr f==Z0) (Qfe b c d e f g a h) (Xj f g a b c d e))
theorem Rq(n:Nd)(h:n.va.ok)(tx pr op va ki bo:Bool):CD 128 [.agg n.row2,.bool tx,.bool pr,.bool op,.bool va,.bool ki,.bool bo] (.bool (Cl n tx pr op va ki bo)):=by
 refine Bh (A:=sC _ _) (x:=()) (E:=Eep n) (eOk (RR h) rfl) Tryz.func128 rfl (by kernel_rfl) rfl (by simp[sC,Eep,EC,E0]) ?_
 refine Bl (T :=
  ∀(x:Nat),True->ifB tx (Qff pr op va ki bo n tx x) (SM x/\ifB (Nd.tx n==[]) (Qff pr op va ki bo n tx x) (Xj n tx pr op va ki bo))) (by kernel_rfl) ?_
 delta DA GI LI LN N0 N1 N4 SI SM Z0 ZI Qe9 Xj Qo7 Qo8 Qfd Qfe Qff Qfa Xk Qo5 Qo6 Qfb JI Qfc Qau
 try simp only[]
 try simp only[<- dn]
 simp only[ne_eq,Bg,true_and,and_true,beq_iff_eq,beq_eq_false_iff_ne,exists_const,forall_const]
 have z:∀ {α:Type} (l:List α),((l.length:Int)==0)=l.isEmpty:=fun l=>by cases l<;>simp<;>omega
 have e:(n.tx==[])=n.tx.isEmpty:=by cases n.tx<;>rfl
 have hz:=BfI n
 unfold Cl
 repeat' (first | exact hz | exact Bc _ | refine And.intro ?_ ?_ | intro _)
 all_goals clear hz
 all_goals (try simp only[z,e] at *)
 all_goals first
  |(simp_all;done)
  |(simp_all;omega)
noncomputable def Eoc2:Senv:=EC CK 11 1 [2,8,10] (fun _=>([],[]))
def Qav(a:Int):Bool:=bif decide (a<Z1) then true else decide ((11:Int)<a)
def Qaw(a:Int):Int:=Cc a
theorem Bfu(op:Int):CD 130 [.int .i64 op] (.int .i64 (Cc op)):=by
 refine Bh (A:=sC _ _) (x:=()) (E:=Eoc2) (eOk BE rfl) Tryz.func130 rfl (by kernel_rfl) rfl (by simp[sC,Eoc2,EC,E0]) ?_
 refine Bl (T :=
  ifB (decide (op<Z1)) (true=Qav op/\True) (decide ((11:Int)<op)=Qav op/\True)/\ifB (Qav op) (RT (Z0=Qaw op)) (ifB (decide (op<=5)) (RT ((3:Int)=Qaw op)) (RT ((4:Int)=Qaw op)))) (by kernel_rfl) ?_
 delta Z0 Z1 Qav Qaw RT
 simp only[Bg,decide_eq_true_eq,decide_eq_false_iff_not,true_and,and_true,exists_const]
 unfold Cc
 repeat' (first | refine And.intro ?_ ?_ | intro _)
 all_goals by_cases c1:op<1<;>by_cases c2:11<op<;>by_cases c3:op<=5<;>first
  |omega
  |(simp_all;done)
  |(simp_all;omega)
def C7(b:Nd):Bool:=b.kd==17&&(b.op==7||b.op==8||b.op==9)
theorem Md(n:Nd):EG n=if C7 (n.ki.getD 0 default)=true then 1 else 2:=by
 unfold EG C7
 simp[or_assoc]
noncomputable def Eta:Senv:=EC CK 21 3 [] (fun _=>([],[]))
def YZ(a:Nd):Bool:=bif Nd.kd a==17 then bif bif Nd.op a==7 then true else Nd.op a==8 then true else Nd.op a==9 else false
def Qfg(a:Nd):Prop:=true=YZ a/\True
theorem Bh1(n:Nd):CD 132 [.agg n.row2] (.bool (C7 n)):=by
 refine Bh (A:=sC _ _) (x:=()) (E:=Eta) (eOk BE rfl) Tryz.func132 rfl (by kernel_rfl) rfl (by simp[sC,Eta,EC,E0]) ?_
 refine Bl (T :=
  ∀(x:Nat),True->(SM x/\ifB (Nd.kd n==17) (SM x/\ifB (Nd.op n==7) (Qfg n) (SM x/\ifB (Nd.op n==8) (Qfg n) (SM x/\(Nd.op n==9)=YZ n/\True))) (false=YZ n/\True))/\RT (YZ n=C7 n)) (by kernel_rfl) ?_
 delta SM YZ Qfg RT
 try simp only[]
 try simp only[<- dn]
 simp only[ne_eq,Bg,true_and,and_true,beq_iff_eq,beq_eq_false_iff_ne,exists_const,forall_const]
 unfold C7
 repeat' (first | refine And.intro ?_ ?_ | intro _)
 all_goals first
  |(simp_all;done)
  |(simp_all;omega)
def OX(n:Nd):Con:=fun k ds S=>match k with
 |128=>match ds with
  | [_,.bool a,.bool b,.bool c,.bool d,.bool e,.bool f]=>some (pA ds S (.bool (Cl n a b c d e f)) (isN2 n ds [.bool a,.bool b,.bool c,.bool d,.bool e,.bool f]))
  |_=>none
 |129=>some (pA ds S (.int .i64 (BB n.va).1) (wkL ds [.agg n.va.row1]))
 |79=>some (pA ds S (.bool (Cb n.tx)) (wkL ds [.str n.tx]))
 |130=>some (pA ds S (.int .i64 (Cc n.op)) (wkL ds [.int .i64 n.op]))
 |_=>none
theorem Uv{n:Nd}(h:n.va.ok):ConOk Tryz.prog (OX n):=by
 intro k ds S A hh
 unfold OX at hh
 split at hh
 ·split at hh
  ·injection hh with hh;subst hh
   exact Bm fun e=>CD.at_ (CD.wk (Rq n h _ _ _ _ _ _) e) _
  ·cases hh
 ·injection hh with hh;subst hh
  refine Bm fun e=>CD.at_ (CD.wk (CD.wk (us:=[.agg n.va.row2]) ?_ (by simp only[wkL,wkD];exact⟨Eh _,trivial⟩)) e) _
  exact (BeG n.va h).mono fun _ _ ⟨y,q1,q2,q3⟩=>⟨(),trivial,q2,q3⟩
 ·injection hh with hh;subst hh
  exact Bm fun e=>CD.at_ (CD.wk (Bd1 n.tx) e) _
 ·injection hh with hh;subst hh
  exact Bm fun e=>CD.at_ (CD.wk (Bfu n.op) e) _
 ·cases hh
noncomputable def Erlf(n:Nd):Senv:=EC (OX n) 122 4 [5,6,44,63,74,93,104] (fun id=>match id with | 19=>([0,1,2,3,4,5,6,7,8,9,10,11,12,13,14,15,16],[1,5,13]) | _=>([],[]))
def Qv(a:Nd):Int:=Nd.kd a
def KU(a:Nd):Int:=Nd.cl a
def Qfh(a:Nd):D:=ZI (KU a)
def Xl(a:Nd):Arr:=Nd.va a
def Qax(a:Nd):Int:=Arr.k (Xl a)
def Qfi(a:Nd):D:=ZI (Qax a)
def Qfj(a:Nd):List Int:=Arr.sh (Xl a)
def Qfk(a:Nd):Nat:=LN (Qfj a)
def Qfl(a:Nd):D:=D.sl N1 (Qfk a) (fun i=>[ZI (GI (Qfj a) i)]) Mode.any
def Qo9(a:Nd):List Int:=Arr.nu (Xl a)
def Qfm(a:Nd):D:=SI (Qo9 a)
def Qfn(a:Nd):List Arr:=Arr.it (Xl a)
def Qfo:Arr:=DA
def Qfp(a:Nd):D:=D.sl N4 (LN (Qfn a)) (fun i=>Arr.row (List.getD (Qfn a) i Qfo)) Mode.any
def Qay:Nd:=Nd.mk Z0 Z0 Z0 [] Z0 Z0 Qfo [] [] Z0 Z0 Z0
def Xm(a:Nd):D:=D.agg [ZI (Qv a),ZI (Nd.at_ a),Qfh a,D.str (Nd.tx a),ZI (Nd.pr a),ZI (Nd.op a),Qfi a,Qfl a,Qfm a,Qfp a,D.sl 15 (LN (Nd.ki a)) (fun i=>Nd.row1 (List.getD (Nd.ki a) i Qay)) Mode.any,D.sl 34 (LN (Nd.bo a)) (fun i=>Sm.row1 (List.getD (Nd.bo a) i (Sm.mk Z0 Z0 [] Z0 Qay Qay))) Mode.any,ZI (Nd.de a),ZI (Nd.sl a),ZI (Nd.ss a)]
def Qfq:List D:=[D.bool false,D.bool false,D.bool false,D.bool true,D.bool false,D.bool false]
def Qfr(a:Nd):List D:=[D.agg [Qfi a,Qfl a,Qfm a,Qfp a]]
def Qfs(a:Nd):Int:=(NI (Qfk a))
def KV(a:Nd):Bool:=Gg a
def Qw(a:Nd):Prop:=True/\∃(_y:Unit),True/\false=KV a/\True/\True
def Qft(a:Nat)(b:Nd):Prop:=SM a/\ifB (Qfs b==Z1) (SM a/\True/\∃(_y:Unit),True/\(Qax b==2)=KV b/\True/\True) (Qw b)
def Qfu:List D:=[D.bool false,D.bool false,D.bool false]
def Qfv:List D:=D.bool false::Qfu
def Qfw:List D:=D.bool false::Qfv
def Qfx:List D:=D.bool true::Qfw
def Qfy:List D:=D.bool false::Qfw
def Qfz(a:Nd):Prop:=isN2 a (Xm a::Qfy) Qfy
def QfA(a:Nd):Bool:=Cl a false false false false false false
def Qaz(a:Nat)(b:Nd):Prop:=SM a/\∃(_x:Unit),Qfz b/\∀(_y:Unit),True->ifB (QfA b) (SM a/\True/\∃(_y:Unit),True/\(KU b==Z1)=KV b/\True/\True) (Qw b)
def QfB:List D:=D.bool false::D.bool true::Qfv
def QaA(a:Nat)(b:Nd):Prop:=SM a/\∃(_x:Unit),Qfz b/\∀(_y:Unit),True->ifB (QfA b) (SM a/\True/\∃(_y:Unit),True/\(KU b==2)=KV b/\True/\True) (Qw b)
def QfC:List D:=D.bool false::D.bool false::D.bool true::Qfu
def QfD(a:Nd):Prop:=wkL [ZI (Nd.op a)] [ZI (Nd.op a)]
def QfE(a:Nd):Int:=Cc (Nd.op a)
def QaB(a:Nd)(b:Nat):Prop:=ifB (Qv a==17) (SM b/\∃(_x:Unit),isN2 a (Xm a::QfC) QfC/\∀(_y:Unit),True->ifB (Cl a false false true false false false) (SM b/\∃(_x:Unit),QfD a/\∀(_y:Unit),True->ifB (QfE a != Z0) (SM b/\SM b/\∃(_x:Unit),QfD a/\∀(_y:Unit),True->(SM b/\SM (Qfh a))/\True/\∃(_y:Unit),True/\(KU a==QfE a)=KV a/\True/\True) (Qw a)) (Qw a)) (Qw a)
def QaC(a:Nd)(b:Nat):Prop:=ifB (Qv a==9) (SM b/\∃(_x:Unit),isN2 a (Xm a::QfB) QfB/\∀(_y:Unit),True->ifB (Cl a false true false false false false) (SM b/\ifB (KU a==2) (SM b/\ifB (decide (Z1<=Nd.pr a)) (SM b/\True/\∃(_y:Unit),True/\decide (Nd.pr a<=55)=KV a/\True/\True) (Qw a)) (Qw a)) (Qw a)) (ifB (Qv a==11) (ifB (Qv a==11) (QaA b a) (QaB a b)) (ifB (Qv a==12) (ifB (Qv a==12) (QaA b a) (QaB a b)) (ifB (Qv a==13) (QaA b a) (QaB a b))))
theorem BfB(n:Nd)(h:n.va.ok):CD 109 [.agg n.row2] (.bool (Gg n)):=by
 refine Bh (A:=sC _ _) (x:=()) (E:=Erlf n) (eOk (Uv h) rfl) Tryz.func109 rfl (by kernel_rfl) rfl (by simp[sC,Erlf,EC,E0]) ?_
 refine Bl (T :=
  ∀(x:Nat),True->SM x/\ifB (Qv n==Z1) (SM x/\∀(x_1:Nat),x≠x_1/\True->SM x_1/\SM x/\∃(x_2:Unit),isN2 n (Xm n::Qfq) Qfq/\∀(y:Unit),True->ifB (Cl n false false false true false false) (SM x/\ifB (KU n==Z1) (SM x_1/\∃(x:Unit),wkL (Qfr n) (Qfr n)/\∀(y:Unit),True->ifB (Prod.fst (BB (Xl n))==Z0) (SM x_1/\ifB (Qfs n==Z0) (SM x_1/\ifB (Qax n != (3:Int)) (RT (true=KV n)) (Qft x_1 n)) (Qft x_1 n)) (Qw n)) (Qw n)) (Qw n)) (ifB (Qv n==2) (SM x/\∃(x_1:Unit),isN2 n (Xm n::Qfx) Qfx/\∀(y:Unit),True->ifB (Cl n true false false false false false) (SM x/\∃(x_2:Unit),wkL [D.str (Nd.tx n)] [D.str (Nd.tx n)]/\∀(y:Unit),True->ifB (Cb (Nd.tx n)) (SM x/\ifB (decide (Z1<=KU n)) (SM x/\RT (decide (KU n<=4)=KV n)) (Qw n)) (Qw n)) (Qw n)) (ifB (Qv n==6) (ifB (Qv n==6) (Qaz x n) (QaC n x)) (ifB (Qv n==7) (ifB (Qv n==7) (Qaz x n) (QaC n x)) (ifB (Qv n==8) (Qaz x n) (QaC n x)))))) (by kernel_rfl) ?_
 delta DA GI LN N1 N4 NI SI SM Z0 Z1 ZI Qv KU Qfh Xl Qax Qfi Qfj Qfk Qfl Qo9 Qfm Qfn Qfo Qfp Qay Xm Qfq Qfr Qfs KV Qw Qft Qfu Qfv Qfw Qfx Qfy Qfz QfA Qaz QfB QaA QfC QfD QfE QaB QaC RT
 try simp only[<- dm]
 try simp only[<- dn]
 simp only[ne_eq,Bg,decide_eq_true_eq,decide_eq_false_iff_not,true_and,and_true,beq_iff_eq,bne_iff_ne,bne_eq_false_iff_eq,beq_eq_false_iff_ne,exists_const,forall_const]
 have e2:n.va.sh.isEmpty=(n.va.sh.length==0):=by cases n.va.sh<;>rfl
 have e40:((n.va.sh.length:Int)==0)=(n.va.sh.length==0):=by rw[Bool.eq_iff_iff,beq_iff_eq,beq_iff_eq];omega
 have e41:((n.va.sh.length:Int)==1)=(n.va.sh.length==1):=by rw[Bool.eq_iff_iff,beq_iff_eq,beq_iff_eq];omega
 have self:∀a b c d e f:Bool,isN2 n [.agg n.row2,.bool a,.bool b,.bool c,.bool d,.bool e,.bool f] [.bool a,.bool b,.bool c,.bool d,.bool e,.bool f]:=fun _ _ _ _ _ _=>Cq n _
 try simp only[e40,e41]
 repeat' (first | exact self _ _ _ _ _ _ | exact Bc _ | refine And.intro ?_ ?_ | intro _)
 all_goals clear self
 all_goals first
  |exact Bc _
  |(exfalso;omega)
  |(simp_all[Gg];done)
  |(simp_all[Gg];omega)
def O9(n:Nd):Con:=fun k ds S=>match k with
 |128=>match ds with
  | [_,.bool a,.bool b,.bool c,.bool d,.bool e,.bool f]=>some (pA ds S (.bool (Cl n a b c d e f)) (isN2 n ds [.bool a,.bool b,.bool c,.bool d,.bool e,.bool f]))
  |_=>none
 |131=>match ds with
  | [_,.sl 1 m f _]=>some (pA ds S (.bool (Bj n (Bu m f))) (wkL ds [.agg n.row2,isl (Bu m f) .any]/\m<=maxLen))
  |_=>none
 |132=>some (pA ds S (.bool (C7 (n.ki.getD 0 default))) (isN (n.ki.getD 0 default) ds []))
 |_=>none
theorem UP{n:Nd}(h:n.va.ok)(hl:n.ki.length<=maxLen):ConOk Tryz.prog (O9 n):=by
 intro k ds S A hh
 unfold O9 at hh
 split at hh
 ·split at hh
  ·injection hh with hh;subst hh
   exact Bm fun e=>CD.at_ (CD.wk (Rq n h _ _ _ _ _ _) e) _
  ·cases hh
 ·split at hh
  ·injection hh with hh;subst hh
   exact Bm fun ⟨e,hm⟩=>CD.at_ (CD.wk (Beq n _ hl (by rw[Ck];exact hm)) e) _
  ·cases hh
 ·injection hh with hh;subst hh
  exact Bm fun e=>CD.at_ (CD.isN (Bh1 _) e) _
 ·cases hh
def IY(n:Nd):Bool:=Bj n (List.replicate n.ki.length 1)
theorem Oh(n:Nd):IY n=true↔∀j,j<n.ki.length->(n.ki.getD j default).cl=1:=by
 unfold IY Bj
 rw[OI]
 constructor
 ·intro ⟨_,h⟩ j hj
  rw[h j hj]
  simp[List.getD_eq_getElem?_getD,hj]
 ·intro h
  refine⟨by simp,fun j hj=>?_⟩
  rw[h j hj]
  simp[List.getD_eq_getElem?_getD,hj]
theorem Rp{n:Nd}(h:Cl n false false false false true false=false):false=Cn n:=by
 unfold Cn
 rw[h];rfl
theorem BeN{n:Nd}(h:Cl n false false false false true false=true)(k:n.kd=3):Cn n=(IY n&&n.cl==1&&decide (2<=n.ki.length)&&decide (n.ki.length<=1000)):=by
 unfold Cn IY
 rw[h,if_pos k];rfl
noncomputable def Erin(n:Nd):Senv:={ EC (O9 n) 119 4 [6,8,9,15,24,40,50,60,70,82,99] (fun _=>([],[])) with
 mg:=fun _=>2
 ann:=fun q _ S=>match q with
  |1=>some { slots:=[3],keep:=[0,1],α:=Nat,st:=fun i=>([.int .i64 i],S),inv:=fun i=>i<=n.ki.length/\∀j,j<i->(n.ki.getD j default).cl=1,mu:=fun i=>n.ki.length-i }
  |_=>none }
def KW(a:Nd):Int:=Nd.kd a
def QfF(a:Nd):Int:=Nd.at_ a
def Y0(a:Nd):Int:=Nd.cl a
def Y1(a:Nd):Arr:=Nd.va a
def QfG(a:Nd):Int:=Arr.k (Y1 a)
def QfH(a:Nd):List Int:=Arr.sh (Y1 a)
def QaD(a:Nd):Nat:=LN (QfH a)
def QfI(a:Nd)(b:Nat):List D:=[ZI (GI (QfH a) b)]
def QfJ(a:Nd):List Int:=Arr.nu (Y1 a)
def QaE(a:Nd):Nat:=LN (QfJ a)
def QfK(a:Nd)(b:Nat):List D:=[ZI (GI (QfJ a) b)]
def QfL(a:Nd):List Arr:=Arr.it (Y1 a)
def QaF(a:Nd):Nat:=LN (QfL a)
def QaG:Arr:=DA
def QfM(a:Nd)(b:Nat):List D:=Arr.row (List.getD (QfL a) b QaG)
def Y2(a:Nd):List Nd:=Nd.ki a
def Ji(a:Nd):Nat:=LN (Y2 a)
def JJ:Nd:=Nd.mk Z0 Z0 Z0 [] Z0 Z0 QaG [] [] Z0 Z0 Z0
def QfN(a:Nd)(b:Nat):Nd:=List.getD (Y2 a) b JJ
def QfO(a:Nd)(b:Nat):List D:=Nd.row1 (QfN a b)
def QaH(a:Nd):Nat:=LN (Nd.bo a)
def QfP:Sm:=Sm.mk Z0 Z0 [] Z0 JJ JJ
def QfQ(a:Nd)(b:Nat):List D:=Sm.row1 (List.getD (Nd.bo a) b QfP)
def Qn(a:Nd):D:=D.agg [ZI (KW a),ZI (QfF a),ZI (Y0 a),D.str (Nd.tx a),ZI (Nd.pr a),ZI (Nd.op a),ZI (QfG a),D.sl N1 (QaD a) (fun i=>QfI a i) Mode.any,D.sl N1 (QaE a) (fun i=>QfK a i) Mode.any,D.sl N4 (QaF a) (fun i=>QfM a i) Mode.any,D.sl 15 (Ji a) (fun i=>QfO a i) Mode.any,D.sl 34 (QaH a) (fun i=>QfQ a i) Mode.any,ZI (Nd.de a),ZI (Nd.sl a),ZI (Nd.ss a)]
def QfR:List D:=[D.bool false,D.bool false,D.bool false,D.bool false,D.bool true,D.bool false]
def KK(a:Nd):Bool:=Cn a
def Ky(a:Nd):Prop:=True/\∃(_y:Unit),True/\false=KK a/\True/\True
def QaI(a:Nat)(b:Nd):Prop:=a<=Ji b/\∀(j:Nat),j<a->Nd.cl (QfN b j)=Z1
def QfS(a:Nat)(b:Nd):Prop:=(SM a/\(SM (KW b)/\SM (QfF b)/\SM (Y0 b)/\SM (Nd.tx b)/\SM (Nd.pr b)/\SM (Nd.op b)/\SM (QfG b)/\(SM (QaD b)/\(∀(i:Nat),i<QaD b->SM (QfI b i))/\True)/\(SM (QaE b)/\(∀(i:Nat),i<QaE b->SM (QfK b i))/\True)/\(SM (QaF b)/\(∀(i:Nat),i<QaF b->SM (QfM b i))/\True)/\(SM (Ji b)/\(∀(i:Nat),i<Ji b->SM (QfO b i))/\True)/\(SM (QaH b)/\(∀(i:Nat),i<QaH b->SM (QfQ b i))/\True)/\SM (Nd.de b)/\SM (Nd.sl b)/\SM (Nd.ss b)/\True)/\True)/\True
def JK(a:Nd):Int:=(NI (Ji a))
def QaJ(a:Nd):Bool:=Y0 a==Z1
def JL:List D:=[ZI 2]
def QfT:List (List D):=[JL,[ZI Z1]]
def QfU(a:Nat):List D:=List.getD QfT a []
def QfV:List Int:=Bu N2 fun i=>QfU i
def QfW(a:Nat):List D:=List.getD [JL,[ZI Z1],[ZI Z1]] a []
def QfX:List Int:=Bu (3:Nat) fun i=>QfW i
def Y3(a:Nd):Bool:=Y0 a==2
def QfY(a:Nat):List D:=List.getD [[ZI 3],JL] a []
def QfZ:List Int:=Bu N2 fun i=>QfY i
def QA(a:Nd):Nd:=List.getD (Y2 a) N0 JJ
def Y4(a:Nd):Arr:=Nd.va (QA a)
def Qpa(a:Nd):List Int:=Arr.sh (Y4 a)
def Qpb(a:Nd):List Int:=Arr.nu (Y4 a)
def Qf0(a:Nd):List Arr:=Arr.it (Y4 a)
def Qf1(a:Nd):List Nd:=Nd.ki (QA a)
def Qf2(a:Nd):List Sm:=Nd.bo (QA a)
def Qf3(a:Nat):List D:=List.getD ([ZI 4]::QfT) a []
def Qf4:List Int:=Bu (3:Nat) fun i=>Qf3 i
def Y5:List (List D):=[JL,JL]
def Qf5(a:Nat):List D:=List.getD ([ZI 4]::Y5) a []
def Qf6:List Int:=Bu (3:Nat) fun i=>Qf5 i
def Qf7(a:Nat)(b:Nd):Prop:=SM a/\ifB (Y3 b) (SM a/\∃(_x:Unit),(wkL [Qn b,D.sl N1 (3:Nat) (fun i=>Qf5 i) Mode.full] [Qn b,SI Qf6]/\(3:Nat)<=9223372036854775807)/\∀(_y:Unit),True->True/\∃(_y:Unit),True/\Bj b Qf6=KK b/\True/\True) (Ky b)
def Qf8(a:Nat):List D:=List.getD Y5 a []
def Qf9:List Int:=Bu N2 fun i=>Qf8 i
def Qga(a:Nd):Prop:=True/\∃(_y:Unit),True/\true=KK a/\True/\True
def Qgb(a:Nat):List D:=List.getD (JL::Y5) a []
def Qgc:List Int:=Bu (3:Nat) fun i=>Qgb i
def Qgd(a:Nat):List D:=List.getD ([ZI Z1]::Y5) a []
def Qge:List Int:=Bu (3:Nat) fun i=>Qgd i
theorem Bfn(n:Nd)(h:n.va.ok)(hl:n.ki.length <= maxLen):CD 110 [.agg n.row2] (.bool (Cn n)) := by
  refine Bh (A := sC _ _) (x := ()) (E := Erin n) (eOk (UP h hl) rfl) Tryz.func110 rfl (by kernel_rfl) rfl (by simp [sC,Erin,EC,E0]) ?_
  refine Bl (T :=
    ∀ (x:Nat),True->SM x/\∃ (x_1:Unit),isN2 n (Qn n :: QfR) QfR/\∀ (y:Unit),True->ifB (!Cl n false false false false true false) (Ky n) (SM x/\ifB (KW n == (3:Int)) ((∃ (x_2:Nat),QaI x_2 n/\(Z0 = (↑x_2:Int)/\True)/\QfS x n)/\∀ (x_2:Nat),QaI x_2 n->SM x/\ifB (decide ((↑x_2:Int) < JK n)) (SM x/\Bf (Z0 <= (↑x_2:Int)/\(↑x_2:Int) < JK n) (ifB (Nd.cl (List.getD (Y2 n) (Int.toNat (↑x_2:Int)) JJ) != Z1) (Ky n) ((SM (Qn n)/\SM (D.ref N0 x N0)/\True)/\∃ (y:Nat),QaI y n/\Ji n - y < Ji n - x_2/\(IntKind.wrap IntKind.i64 ((↑x_2:Int) + Z1) = (↑y:Int)/\True)/\QfS x n))) (SM x/\ifB (QaJ n) (SM x/\ifB (decide ((2:Int) <= JK n)) (SM x/\True/\∃ (y:Unit),True/\decide (JK n <= (1000:Int)) = KK n/\True/\True) (Ky n)) (Ky n))) (ifB (KW n == (4:Int)) (SM x/\ifB (QaJ n) (SM x/\∃ (x:Unit),(wkL [Qn n,D.sl N1 N2 (fun (i:Nat) => QfU i) Mode.full] [Qn n,SI QfV]/\N2 <= (9223372036854775807:Nat))/\∀ (y:Unit),True->True/\∃ (y:Unit),True/\Bj n QfV = KK n/\True/\True) (Ky n)) (ifB (KW n == (5:Int)) (SM x/\ifB (QaJ n) (SM x/\∃ (x:Unit),(wkL [Qn n,D.sl N1 (3:Nat) (fun (i:Nat) => QfW i) Mode.full] [Qn n,SI QfX]/\(3:Nat) <= (9223372036854775807:Nat))/\∀ (y:Unit),True->True/\∃ (y:Unit),True/\Bj n QfX = KK n/\True/\True) (Ky n)) (ifB (KW n == (14:Int)) (SM x/\ifB (Y3 n) (SM x/\∃ (x:Unit),(wkL [Qn n,D.sl N1 N2 (fun (i:Nat) => QfY i) Mode.full] [Qn n,SI QfZ]/\N2 <= (9223372036854775807:Nat))/\∀ (y:Unit),True->True/\∃ (y:Unit),True/\Bj n QfZ = KK n/\True/\True) (Ky n)) (ifB (KW n == (15:Int)) (SM x/\ifB (decide (Z0 < JK n)) (SM x/\Bf (Z0 <= Z0/\Z0 < JK n) (∃ (x_2:Unit),isN (QA n) [D.agg [ZI (Nd.kd (QA n)),ZI (Nd.at_ (QA n)),ZI (Nd.cl (QA n)),D.str (Nd.tx (QA n)),ZI (Nd.pr (QA n)),ZI (Nd.op (QA n)),ZI (Arr.k (Y4 n)),SI (Qpa n),SI (Qpb n),D.sl N4 (LN (Qf0 n)) (fun (i:Nat) => Arr.row (List.getD (Qf0 n) i QaG)) Mode.any,D.sl 15 (LN (Qf1 n)) (fun (i:Nat) => Nd.row (List.getD (Qf1 n) i JJ)) Mode.any,D.sl 34 (LN (Qf2 n)) (fun (i:Nat) => Sm.row (List.getD (Qf2 n) i QfP)) Mode.any,ZI (Nd.de (QA n)),ZI (Nd.sl (QA n)),ZI (Nd.ss (QA n))]] []/\∀ (y:Unit),True->ifB (C7 (QA n)) (SM x/\ifB (Y3 n) (SM x/\∃ (x:Unit),(wkL [Qn n,D.sl N1 (3:Nat) (fun (i:Nat) => Qf3 i) Mode.full] [Qn n,SI Qf4]/\(3:Nat) <= (9223372036854775807:Nat))/\∀ (y:Unit),True->True/\∃ (y:Unit),True/\Bj n Qf4 = KK n/\True/\True) (Ky n)) (Qf7 x n))) (Qf7 x n)) (ifB (KW n == (16:Int)) (SM x/\ifB (Y3 n) (SM x/\∃ (x_2:Unit),(wkL [Qn n,D.sl N1 N2 (fun (i:Nat) => Qf8 i) Mode.full] [Qn n,SI Qf9]/\N2 <= (9223372036854775807:Nat))/\∀ (y:Unit),True->ifB (Bj n Qf9) (Qga n) (SM x/\∃ (x_3:Unit),(wkL [Qn n,D.sl N1 (3:Nat) (fun (i:Nat) => Qgb i) Mode.full] [Qn n,SI Qgc]/\(3:Nat) <= (9223372036854775807:Nat))/\∀ (y:Unit),True->ifB (Bj n Qgc) (Qga n) (SM x/\∃ (x:Unit),(wkL [Qn n,D.sl N1 (3:Nat) (fun (i:Nat) => Qgd i) Mode.full] [Qn n,SI Qge]/\(3:Nat) <= (9223372036854775807:Nat))/\∀ (y:Unit),True->True/\∃ (y:Unit),True/\Bj n Qge = KK n/\True/\True))) (Ky n)) (Ky n)))))))) (by kernel_rfl) ?_
  delta DA GI LN N0 N1 N2 N4 NI SI SM Z0 Z1 ZI KW QfF QfK QfL QaF QaG QfM Y2 Ji JJ QfN QfO Y0 QaH QfP QfQ Qn QfR KK Ky QaI QfS JK Y1 QaJ JL QfT QfU QfV QfW QfX Y3 QfY QfZ QfG QA Y4 Qpa Qpb Qf0 Qf1 Qf2 Qf3 Qf4 Y5 QfH Qf5 Qf6 Qf7 Qf8 Qf9 Qga Qgb Qgc Qgd Qge QaD QfI QfJ QaE
  try simp only [<- dm]
  try simp only [<- dn]
  simp only [ne_eq,implies_true,Int.toNat_natCast,Bg,Be,decide_eq_true_eq,decide_eq_false_iff_not,true_and,and_true,beq_iff_eq,bne_iff_ne,bne_eq_false_iff_eq,beq_eq_false_iff_ne,Bool.not_eq_true',Bool.not_eq_false',exists_const,forall_const]
  have i2:∀ a b:Int,Bu 2 (fun i => [[D.int IntKind.i64 a],[D.int IntKind.i64 b]].getD i []) = [a,b] := fun _ _ => rfl
  have i3:∀ a b c:Int,Bu 3 (fun i => [[D.int IntKind.i64 a],[D.int IntKind.i64 b],[D.int IntKind.i64 c]].getD i []) = [a,b,c] := fun _ _ _ => rfl
  have p2:∀ a b:Int,IntsP 2 (fun i => [[D.int IntKind.i64 a],[D.int IntKind.i64 b]].getD i []) := fun _ _ i hi => by
    match i,hi with
    | 0,_ => rfl
    | 1,_ => rfl
  have p3:∀ a b c:Int,IntsP 3 (fun i => [[D.int IntKind.i64 a],[D.int IntKind.i64 b],[D.int IntKind.i64 c]].getD i []) := fun _ _ _ i hi => by
    match i,hi with
    | 0,_ => rfl
    | 1,_ => rfl
    | 2,_ => rfl
  unfold maxLen at hl
  refine ⟨Cq n _,fun h0 => Rp h0,fun h0 => ⟨fun k3 => ?_,fun n3 => ?_⟩⟩
  · rw [BeN h0 k3]
    refine ⟨⟨0,⟨Nat.zero_le _,fun j hj => absurd hj (by omega)⟩,rfl⟩,fun i ⟨i1,hi⟩ => ⟨fun hlt => ⟨⟨by omega,hlt⟩,fun c => ?_,fun c => ⟨i + 1,⟨by omega,fun j hj => ?_⟩,by omega,Bb (by omega) (by omega)⟩⟩,fun hge => ?_⟩⟩
    · cases e:IY n with
      | false => rfl
      | true => exact (c ((Oh n).1 e i (by omega))).elim
    · by_cases e':j = i
      · rw [e']; exact c
      · exact hi j (by omega)
    · have e:IY n = true := (Oh n).2 fun j hj => hi j (by omega)
      rw [e]
      refine ⟨fun c => ⟨fun d => ?_,fun d => ?_⟩,fun c => ?_⟩
      · have d2:decide (2 <= n.ki.length) = true := decide_eq_true (by omega)
        rw [c,d2]
        simp only [Bool.true_and,beq_self_eq_true]
        exact decide_eq_decide.2 (by omega)
      · have d2:decide (2 <= n.ki.length) = false := decide_eq_false (by omega)
        rw [d2]; simp
      · have d2:(n.cl == 1) = false := by simpa using c
        rw [d2]; rfl
  · have z:¬ (0:Int) < n.ki.length->C7 (n.ki.getD 0 default) = false := fun h => by
      have:n.ki = [] := List.length_eq_zero_iff.1 (by omega)
      rw [this]; rfl
    have hr : Cn n = (if n.kd = 4 then n.cl == 1 && Bj n [2, 1]
       else if n.kd = 5 then n.cl == 1 && Bj n [2,1,1]
       else if n.kd = 14 then n.cl == 2 && Bj n [3,2]
       else if n.kd = 15 then n.cl == 2 && Bj n [4,2,if C7 (n.ki.getD 0 default) = true then 1 else 2]
       else if n.kd = 16 then n.cl == 2 && (Bj n [2,2] || Bj n [2,2,2] || Bj n [1,2,2])
       else false) := by
      unfold Cn
      rw [h0,Md,if_neg n3,Bool.true_and]
    rw [hr]
    clear hr
    repeat' (first | exact BH _ _ | exact Cq n _ | exact Bc _ | exact Ma (p2 _ _) | exact Ma (p3 _ _ _) | refine And.intro ?_ ?_ | intro _)
    all_goals try simp only [i2,i3] at *
    clear i2 i3 p2 p3
    all_goals first
      | omega
      | (simp_all; done)
      | (simp_all; omega)
def RMent(q:Int)(n:Nd):Prop:=CD 113 [.agg n.row2,.int .i64 q] (.bool (BL q n))
def Mm(q:Int)(p:Nd->Prop):Con:=fun k ds S=>match k with
 |113=>some (pE (β:=Nd) ds S (fun b=>.bool (BL q b)) (fun b=>isN b ds [.int .i64 q]/\p b))
 |_=>none
theorem I4{q:Int}{p:Nd->Prop}(h:∀b,p b->RMent q b):ConOk Tryz.prog (Mm q p):=by
 intro k ds S A hh
 unfold Mm at hh
 split at hh
 ·injection hh with hh;subst hh
  exact B7 fun b ⟨e,hb⟩=>CD.at_ (CD.isN (h b hb) e) _
 ·cases hh
noncomputable def Erme(q:Int)(n:Nd):Senv:={ EC (Mm q (·∈n.ki)) 24 3 [4,5,9,14,23] (fun _=>([],[])) with
 mg:=fun _=>2
 ann:=fun b _ S=>match b with
  |0=>some { slots:=[5],keep:=[0,1,2],α:=Nat,st:=fun i=>([.int .i64 i],S),inv:=fun i=>i<=n.ki.length/\∀j,j<i->BL q (n.ki.getD j default)=false,mu:=fun i=>n.ki.length-i }
  |_=>none }
theorem Tf{α:Type}[Inhabited α]{p:α->Bool}{l:List α}(h:∀j,j<l.length->p (l.getD j default)=false):l.any p=false:=by
 rw[List.any_eq_false]
 intro x hx
 obtain ⟨i,hi,rfl⟩:=List.getElem_of_mem hx
 have:=h i hi
 rw[List.getD_eq_getElem?_getD,List.getElem?_eq_getElem hi] at this
 simpa using this
theorem I9{α:Type}[Inhabited α]{p:α->Bool}{l:List α}{j:Nat}(hj:j<l.length)(h:p (l.getD j default)=true):l.any p=true:=by
 rw[List.any_eq_true]
 refine⟨l.getD j default,?_,h⟩
 rw[List.getD_eq_getElem?_getD,List.getElem?_eq_getElem hj]
 exact List.getElem_mem hj
def QaK(a:Nd):Int:=Nd.kd a
def Qgf(a:Int)(b:Nd):Prop:=True/\∃(_y:Unit),True/\true=BL a b/\True/\True
def Y6(a:Nd):List Nd:=Nd.ki a
def KX(a:Nd):Nat:=LN (Y6 a)
def QaL:Arr:=DA
def Xn:Nd:=Nd.mk Z0 Z0 Z0 [] Z0 Z0 QaL [] [] Z0 Z0 Z0
def Qgg(a:Nd)(b:Nat):Nd:=List.getD (Y6 a) b Xn
def QaM(a:Nat)(b:Nd)(c:Int):Prop:=a<=KX b/\∀(j:Nat),j<a->BL c (Qgg b j)=false
def Qgh(a:Nd):Int:=Nd.at_ a
def Y7(a:Nd):Arr:=Nd.va a
def Qgi(a:Nd):Int:=Arr.k (Y7 a)
def Qgj(a:Nd):List Int:=Arr.sh (Y7 a)
def QaN(a:Nd):Nat:=LN (Qgj a)
def Qgk(a:Nd)(b:Nat):List D:=[ZI (GI (Qgj a) b)]
def Qgl(a:Nd):List Int:=Arr.nu (Y7 a)
def QaO(a:Nd):Nat:=LN (Qgl a)
def Qgm(a:Nd)(b:Nat):List D:=[ZI (GI (Qgl a) b)]
def Qgn(a:Nd):List Arr:=Arr.it (Y7 a)
def QaP(a:Nd):Nat:=LN (Qgn a)
def Qgo(a:Nd)(b:Nat):List D:=Arr.row (List.getD (Qgn a) b QaL)
def Qgp(a:Nd)(b:Nat):List D:=Nd.row1 (Qgg a b)
def QaQ(a:Nd):Nat:=LN (Nd.bo a)
def Qgq:Sm:=Sm.mk Z0 Z0 [] Z0 Xn Xn
def Qgr(a:Nd)(b:Nat):List D:=Sm.row1 (List.getD (Nd.bo a) b Qgq)
def Qgs(a:Nat)(b:Nd):Prop:=(SM a/\(SM (QaK b)/\SM (Qgh b)/\SM (Nd.cl b)/\SM (Nd.tx b)/\SM (Nd.pr b)/\SM (Nd.op b)/\SM (Qgi b)/\(SM (QaN b)/\(∀(i:Nat),i<QaN b->SM (Qgk b i))/\True)/\(SM (QaO b)/\(∀(i:Nat),i<QaO b->SM (Qgm b i))/\True)/\(SM (QaP b)/\(∀(i:Nat),i<QaP b->SM (Qgo b i))/\True)/\(SM (KX b)/\(∀(i:Nat),i<KX b->SM (Qgp b i))/\True)/\(SM (QaQ b)/\(∀(i:Nat),i<QaQ b->SM (Qgr b i))/\True)/\SM (Nd.de b)/\SM (Nd.sl b)/\SM (Nd.ss b)/\True)/\True)/\True
def QT(a:Nd)(b:Nat):Nd:=List.getD (Y6 a) (Int.toNat (↑b:Int)) Xn
def Y8(a:Nd)(b:Nat):Arr:=Nd.va (QT a b)
def Qpc(a:Nd)(b:Nat):List Int:=Arr.sh (Y8 a b)
def Qpd(a:Nd)(b:Nat):List Int:=Arr.nu (Y8 a b)
def Qgt(a:Nd)(b:Nat):List Arr:=Arr.it (Y8 a b)
def Qgu(a:Nd)(b:Nat):List Nd:=Nd.ki (QT a b)
def Qgv(a:Nd)(b:Nat):List Sm:=Nd.bo (QT a b)
def Qpe(a:Nd):D:=D.agg [ZI (QaK a),ZI (Qgh a),ZI (Nd.cl a),D.str (Nd.tx a),ZI (Nd.pr a),ZI (Nd.op a),ZI (Qgi a),D.sl N1 (QaN a) (fun i=>Qgk a i) Mode.any,D.sl N1 (QaO a) (fun i=>Qgm a i) Mode.any,D.sl N4 (QaP a) (fun i=>Qgo a i) Mode.any,D.sl 15 (KX a) (fun i=>Qgp a i) Mode.any,D.sl 34 (QaQ a) (fun i=>Qgr a i) Mode.any,ZI (Nd.de a),ZI (Nd.sl a),ZI (Nd.ss a)]
theorem RE(q:Int)(n:Nd)(hl:n.ki.length<=maxLen)(h:∀b∈n.ki,RMent q b):RMent q n:=by
 refine Bh (A:=sC _ _) (x:=()) (E:=Erme q n) (eOk (I4 h) rfl) Tryz.func113 rfl (by kernel_rfl) rfl (by simp[sC,Erme,EC,E0]) ?_
 refine Bl (T :=
  ∀(x:Nat),True->SM x/\ifB (QaK n==q) (Qgf q n) ((∃(x_1:Nat),QaM x_1 n q/\(Z0=(↑x_1:Int)/\True)/\Qgs x n)/\∀(x_1:Nat),QaM x_1 n q->SM x/\ifB (decide ((↑x_1:Int)<(NI (KX n)))) (SM x/\Bf (Z0<=(↑x_1:Int)/\(↑x_1:Int)<(NI (KX n))) (∃(x_2:Nd),(isN x_2 [D.agg [ZI (Nd.kd (QT n x_1)),ZI (Nd.at_ (QT n x_1)),ZI (Nd.cl (QT n x_1)),D.str (Nd.tx (QT n x_1)),ZI (Nd.pr (QT n x_1)),ZI (Nd.op (QT n x_1)),ZI (Arr.k (Y8 n x_1)),SI (Qpc n x_1),SI (Qpd n x_1),D.sl N4 (LN (Qgt n x_1)) (fun i=>Arr.row (List.getD (Qgt n x_1) i QaL)) Mode.any,D.sl 15 (LN (Qgu n x_1)) (fun i=>Nd.row (List.getD (Qgu n x_1) i Xn)) Mode.any,D.sl 34 (LN (Qgv n x_1)) (fun i=>Sm.row (List.getD (Qgv n x_1) i Qgq)) Mode.any,ZI (Nd.de (QT n x_1)),ZI (Nd.sl (QT n x_1)),ZI (Nd.ss (QT n x_1))],ZI q] [ZI q]/\x_2∈Y6 n)/\∀(y:Unit),True->ifB (BL q x_2) (Qgf q n) ((SM (Qpe n)/\SM (ZI q)/\SM (D.ref N0 x N0)/\True)/\∃(y:Nat),QaM y n q/\KX n-y<KX n-x_1/\(IntKind.wrap IntKind.i64 ((↑x_1:Int)+Z1)=(↑y:Int)/\True)/\Qgs x n))) (RT (false=BL q n)))) (by kernel_rfl) ?_
 delta DA GI LN N0 N1 N4 NI SI SM Z0 Z1 ZI QaK Qgf Qgi Qgj QaN Qgk Qgl QaO Qgm Qgn QaP Qgo Y6 Qgp QaQ Qgq Qgr Qgs QT Y8 Qpc Qpd Qgt KX Qgu Qgv Qpe QaL Xn Qgg QaM Qgh Y7 RT
 try simp only[<- dm]
 try simp only[<- dn]
 simp only[ne_eq,implies_true,Int.toNat_natCast,Bg,Be,decide_eq_true_eq,decide_eq_false_iff_not,true_and,and_true,beq_iff_eq,beq_eq_false_iff_ne,exists_const,forall_const]
 unfold maxLen at hl
 have e:=Iu q n
 refine⟨fun hk=>by rw[e,hk];simp,fun hk=>⟨⟨0,⟨Nat.zero_le _,fun j hj=>absurd hj (by omega)⟩,rfl⟩,fun i ⟨i1,hi⟩=>⟨fun hlt=>?_,fun hge=>?_⟩⟩⟩
 ·have hi1:i<n.ki.length:=by omega
  refine⟨⟨by omega,by omega⟩,n.ki.getD i default,⟨BH _ _,Ci hi1⟩,fun c=>?_,fun c=>⟨i+1,⟨hi1,fun j hj=>?_⟩,by omega,Bb (by omega) (by omega)⟩⟩
  ·rw[e,I9 hi1 c];simp
  ·by_cases e':j=i
   ·rw[e'];exact c
   ·exact hi j (by omega)
 ·have a:n.ki.any (BL q)=false:=Tf fun j hj=>hi j (by omega)
  have hk':(n.kd==q)=false:=by simpa using hk
  rw[e,a,hk'];rfl
theorem WE(q:Int)(n:Nd)(hn:n.sm):RMent q n :=
 RE q n (BD (BZ hn).2.1) fun b hb=>WE q b (Cv hn (BQ hb))
termination_by szN n
decreasing_by exact M6 (BQ hb)
noncomputable def Erbm(q:Int)(l:List Sm):Senv:={ EC (Mm q Nd.sm) 28 2 [4,5,9,27] (fun _=>([],[])) with
 mg:=fun _=>2
 ann:=fun b _ S=>match b with
  |0=>some { slots:=[5],keep:=[0,1],α:=Nat,st:=fun i=>([.int .i64 i],S),inv:=fun i=>i<=l.length/\∀j,j<i->(BL q (l.getD j default).te||BL q (l.getD j default).nd)=false,mu:=fun i=>l.length-i }
  |_=>none }
def Xo:Arr:=DA
def JM:Nd:=Nd.mk Z0 Z0 Z0 [] Z0 Z0 Xo [] [] Z0 Z0 Z0
def JN:Sm:=Sm.mk Z0 Z0 [] Z0 JM JM
def JO(a:List Sm)(b:Nat):Sm:=List.getD a b JN
def QG(a:List Sm)(b:Nat):Nd:=Sm.te (JO a b)
def QH(a:List Sm)(b:Nat):Nd:=Sm.nd (JO a b)
def QaR(a:Nat)(b:List Sm)(c:Int):Prop:=a<=LN b/\∀(j:Nat),j<a->(BL c (QG b j)||BL c (QH b j))=false
def Qgw(a:List Sm)(b:Nat):Sm:=List.getD a (Int.toNat (↑b:Int)) JN
def QU(a:List Sm)(b:Nat):Nd:=Sm.te (Qgw a b)
def Y9(a:List Sm)(b:Nat):Arr:=Nd.va (QU a b)
def Qpf(a:List Sm)(b:Nat):List Int:=Arr.sh (Y9 a b)
def Qpg(a:List Sm)(b:Nat):List Int:=Arr.nu (Y9 a b)
def Qgx(a:List Sm)(b:Nat):List Arr:=Arr.it (Y9 a b)
def Qgy(a:List Sm)(b:Nat):List Nd:=Nd.ki (QU a b)
def Qgz(a:List Sm)(b:Nat):List Sm:=Nd.bo (QU a b)
def QgA(a:List Sm)(b:Int):Prop:=True/\∃(_y:Unit),True/\true=Ca a b/\True/\True
def QV(a:List Sm)(b:Nat):Nd:=Sm.nd (Qgw a b)
def Za(a:List Sm)(b:Nat):Arr:=Nd.va (QV a b)
def Qph(a:List Sm)(b:Nat):List Int:=Arr.sh (Za a b)
def Qpi(a:List Sm)(b:Nat):List Int:=Arr.nu (Za a b)
def QgB(a:List Sm)(b:Nat):List Arr:=Arr.it (Za a b)
def QgC(a:List Sm)(b:Nat):List Nd:=Nd.ki (QV a b)
def QgD(a:List Sm)(b:Nat):List Sm:=Nd.bo (QV a b)
def Zb(a:List Sm)(b:Nat):Arr:=Nd.va (QG a b)
def Qpj(a:List Sm)(b:Nat):List Int:=Arr.sh (Zb a b)
def Qpk(a:List Sm)(b:Nat):List Int:=Arr.nu (Zb a b)
def QgE(a:List Sm)(b:Nat):List Arr:=Arr.it (Zb a b)
def QgF(a:List Sm)(b:Nat):List Nd:=Nd.ki (QG a b)
def QgG(a:List Sm)(b:Nat):List Sm:=Nd.bo (QG a b)
def Zc(a:List Sm)(b:Nat):Arr:=Nd.va (QH a b)
def Qpl(a:List Sm)(b:Nat):List Int:=Arr.sh (Zc a b)
def Qpm(a:List Sm)(b:Nat):List Int:=Arr.nu (Zc a b)
def QgH(a:List Sm)(b:Nat):List Arr:=Arr.it (Zc a b)
def QgI(a:List Sm)(b:Nat):List Nd:=Nd.ki (QH a b)
def QgJ(a:List Sm)(b:Nat):List Sm:=Nd.bo (QH a b)
def Qpn(a:List Sm):D:=D.sl 34 (LN a) (fun i=>[ZI (Sm.kd (JO a i)),ZI (Sm.at_ (JO a i)),D.str (Sm.nm (JO a i)),ZI (Sm.sl (JO a i)),ZI (Nd.kd (QG a i)),ZI (Nd.at_ (QG a i)),ZI (Nd.cl (QG a i)),D.str (Nd.tx (QG a i)),ZI (Nd.pr (QG a i)),ZI (Nd.op (QG a i)),ZI (Arr.k (Zb a i)),SI (Qpj a i),SI (Qpk a i),D.sl N4 (LN (QgE a i)) (fun i_1=>Arr.row (List.getD (QgE a i) i_1 Xo)) Mode.any,D.sl 15 (LN (QgF a i)) (fun i_1=>Nd.row (List.getD (QgF a i) i_1 JM)) Mode.any,D.sl 34 (LN (QgG a i)) (fun i_1=>Sm.row (List.getD (QgG a i) i_1 JN)) Mode.any,ZI (Nd.de (QG a i)),ZI (Nd.sl (QG a i)),ZI (Nd.ss (QG a i)),ZI (Nd.kd (QH a i)),ZI (Nd.at_ (QH a i)),ZI (Nd.cl (QH a i)),D.str (Nd.tx (QH a i)),ZI (Nd.pr (QH a i)),ZI (Nd.op (QH a i)),ZI (Arr.k (Zc a i)),SI (Qpl a i),SI (Qpm a i),D.sl N4 (LN (QgH a i)) (fun i_1=>Arr.row (List.getD (QgH a i) i_1 Xo)) Mode.any,D.sl 15 (LN (QgI a i)) (fun i_1=>Nd.row (List.getD (QgI a i) i_1 JM)) Mode.any,D.sl 34 (LN (QgJ a i)) (fun i_1=>Sm.row (List.getD (QgJ a i) i_1 JN)) Mode.any,ZI (Nd.de (QH a i)),ZI (Nd.sl (QH a i)),ZI (Nd.ss (QH a i))]) Mode.any
theorem RF(q:Int)(l:List Sm)(hl:l.length<=maxLen)(h:∀s∈l,s.sm):CD 80 [gsl 34 Sm.row1 l,.int .i64 q] (.bool (Ca l q)):=by
 refine Bh (A:=sC _ _) (x:=()) (E:=Erbm q l) (eOk (I4 (WE q)) rfl) Tryz.func80 rfl (by kernel_rfl) rfl (by simp[sC,Erbm,EC,E0]) ?_
 refine Bl (T :=
  (∃(x:Nat),QaR x l q/\(Z0=(↑x:Int)/\True)/\True/\True)/\∀(x:Nat),QaR x l q->ifB (decide ((↑x:Int)<(LI l))) (Bf (Z0<=(↑x:Int)/\(↑x:Int)<(LI l)) (∃(x_1:Nd),(isN x_1 [D.agg [ZI (Nd.kd (QU l x)),ZI (Nd.at_ (QU l x)),ZI (Nd.cl (QU l x)),D.str (Nd.tx (QU l x)),ZI (Nd.pr (QU l x)),ZI (Nd.op (QU l x)),ZI (Arr.k (Y9 l x)),SI (Qpf l x),SI (Qpg l x),D.sl N4 (LN (Qgx l x)) (fun i=>Arr.row (List.getD (Qgx l x) i Xo)) Mode.any,D.sl 15 (LN (Qgy l x)) (fun i=>Nd.row (List.getD (Qgy l x) i JM)) Mode.any,D.sl 34 (LN (Qgz l x)) (fun i=>Sm.row (List.getD (Qgz l x) i JN)) Mode.any,ZI (Nd.de (QU l x)),ZI (Nd.sl (QU l x)),ZI (Nd.ss (QU l x))],ZI q] [ZI q]/\Nd.sm x_1)/\∀(y:Unit),True->ifB (BL q x_1) (QgA l q) (Bf (Z0<=(↑x:Int)/\(↑x:Int)<(LI l)) (∃(x_2:Nd),(isN x_2 [D.agg [ZI (Nd.kd (QV l x)),ZI (Nd.at_ (QV l x)),ZI (Nd.cl (QV l x)),D.str (Nd.tx (QV l x)),ZI (Nd.pr (QV l x)),ZI (Nd.op (QV l x)),ZI (Arr.k (Za l x)),SI (Qph l x),SI (Qpi l x),D.sl N4 (LN (QgB l x)) (fun i=>Arr.row (List.getD (QgB l x) i Xo)) Mode.any,D.sl 15 (LN (QgC l x)) (fun i=>Nd.row (List.getD (QgC l x) i JM)) Mode.any,D.sl 34 (LN (QgD l x)) (fun i=>Sm.row (List.getD (QgD l x) i JN)) Mode.any,ZI (Nd.de (QV l x)),ZI (Nd.sl (QV l x)),ZI (Nd.ss (QV l x))],ZI q] [ZI q]/\Nd.sm x_2)/\∀(y:Unit),True->ifB (BL q x_2) (QgA l q) ((SM (Qpn l)/\SM (ZI q)/\True)/\∃(y:Nat),QaR y l q/\LN l-y<LN l-x/\(IntKind.wrap IntKind.i64 ((↑x:Int)+Z1)=(↑y:Int)/\True)/\True/\True))))) (RT (false=Ca l q))) (by kernel_rfl) ?_
 delta DA GI LI LN N1 N4 SI SM Z0 Z1 ZI Xo JM JN JO QG QH QaR Qgw QU Y9 Qpf Qpg Qgx Qgy Qgz QgA QV Za Qph Qpi QgB QgC QgD Zb Qpj Qpk QgE QgF QgG Zc Qpl Qpm QgH QgI QgJ Qpn RT
 try simp only[<- dm]
 try simp only[<- dn]
 simp only[Int.toNat_natCast,Bg,Be,decide_eq_true_eq,decide_eq_false_iff_not,true_and,and_true,exists_const,forall_const]
 unfold maxLen at hl
 refine⟨⟨0,⟨Nat.zero_le _,fun j hj=>absurd hj (by omega)⟩,rfl⟩,fun i hi'=>⟨fun hlt=>?_,fun hge=>?_⟩⟩
 ·obtain ⟨i1,hi⟩:=hi'
  have hi1:i<l.length:=by omega
  obtain ⟨h1,h2⟩:=By (h _ (CT hi1))
  have w:IntKind.i64.wrap ((i:Int)+1)=((i+1:Nat):Int):=by rw[Bb (by omega) (by omega)];rfl
  have yes:(BL q (l.getD i default).te||BL q (l.getD i default).nd)=true->true=Ca l q:=fun c=>(I9 (l:=l) (p:=fun s:Sm=>BL q s.te||BL q s.nd) hi1 c).symm
  have go:(BL q (l.getD i default).te||BL q (l.getD i default).nd)=false->∀j,j<i+1->(BL q (l.getD j default).te||BL q (l.getD j default).nd)=false:=fun c j hj=>by
   by_cases e':j=i
   ·rw[e'];exact c
   ·exact hi j (by omega)
  refine⟨⟨by omega,by omega⟩,(l.getD i default).te,⟨BH _ _,h1⟩,fun c=>yes (by rw[c];rfl),fun c=>⟨⟨by omega,by omega⟩,(l.getD i default).nd,⟨BH _ _,h2⟩,fun c2=>yes (by rw[c2];simp),fun c2=>⟨i+1,⟨hi1,go (by rw[c,c2];rfl)⟩,by omega,w⟩⟩⟩
 ·obtain ⟨i1,hi⟩:=hi'
  exact (Tf (l:=l) (p:=fun s:Sm=>BL q s.te||BL q s.nd) fun j hj=>hi j (by omega)).symm
theorem Bfc:nd0.ok:=by simp[nd0,Nd.ok,Arr.ok,okL,IE,GM,Cs,maxLen]
theorem BfN:nd0.sm:=by simp[nd0,Nd.sm,Arr.sm,smL,IF,GL]
theorem Bby(n:Nd):(Bk (stN n) (stN nd0)&&n.at_==0&&n.de==0&&n.sl==0&&n.ss==0)=B4 n:=by
 rw[Bool.eq_iff_iff]
 simp only[Bool.and_eq_true,Bq,IN,beq_iff_eq]
 unfold B4 ED Gn
 cases n with
 |mk kd at_ cl tx pr op va ki bo de sl ss =>
  cases va with
  |mk k s nu it =>
   simp[nd0,Nd.kd,Nd.at_,Nd.cl,Nd.tx,Nd.pr,Nd.op,Nd.va,Nd.ki,Nd.bo,Nd.de,Nd.sl,Nd.ss,Arr.k,Arr.sh,Arr.nu,Arr.it]
   constructor
   ·rintro ⟨⟨⟨⟨⟨a,b,c,d,e,⟨f1,f2,f3,f4⟩,g,h⟩,i⟩,j⟩,k⟩,l⟩
    subst_vars
    simp
   ·intro h
    simp_all
def Re:List D:=nd0.row2
theorem Bao:wkL Ti nd0.row2:=by
 simp[Ti,Nd.row2,nd0,Nd.kd,Nd.at_,Nd.cl,Nd.tx,Nd.pr,Nd.op,Nd.va,Nd.ki,Nd.bo,Nd.de,Nd.sl,Nd.ss,Arr.k,Arr.sh,Arr.nu,Arr.it,isl,gsl,wkL,wkD,Br,Ba,BG,EI,kEq]
theorem Bet(n:Nd):wkL [.agg n.row2,.agg Ti] [.agg n.row2,.agg Re]:=by
 simp only[wkL,wkD]
 exact⟨Bc _,Bao,trivial⟩
noncomputable def Bc9(n:Nd):Con:=fun k ds S=>match k with
 |111=>some (pA ds S (.bool (Bk (stN n) (stN nd0))) (wkL ds [.agg n.row2,.agg Re]))
 |_=>none
noncomputable def Erz(n:Nd):Senv:={ EC (Bc9 n) 26 3 [] (fun _=>([],[])) with mg:=fun _=>2 }
def Zd(a:Nd):Arr:=Nd.va a
def Qpo(a:Nd):List Int:=Arr.sh (Zd a)
def Qpp(a:Nd):List Int:=Arr.nu (Zd a)
def QgK(a:Nd):List Arr:=Arr.it (Zd a)
def QgL:Arr:=DA
def QgM(a:Nd):D:=D.agg [ZI (Nd.kd a),ZI (Nd.at_ a),ZI (Nd.cl a),D.str (Nd.tx a),ZI (Nd.pr a),ZI (Nd.op a),ZI (Arr.k (Zd a)),SI (Qpo a),SI (Qpp a),D.sl N4 (LN (QgK a)) (fun i=>Arr.row (List.getD (QgK a) i QgL)) Mode.any,D.sl 15 (LN (Nd.ki a)) (fun i=>Nd.row1 (List.getD (Nd.ki a) i (Nd.mk Z0 Z0 Z0 [] Z0 Z0 QgL [] [] Z0 Z0 Z0))) Mode.any,D.sl 34 (LN (Nd.bo a)) (fun i=>Sm.row1 (List.getD (Nd.bo a) i (Sm.mk Z0 Z0 [] Z0 nd0 nd0))) Mode.any,ZI (Nd.de a),ZI (Nd.sl a),ZI (Nd.ss a)]
def KL:D:=ZI Z0
def Xp:D:=D.sl N1 N0 (fun _x=>[]) Mode.nil
def Ze(a:Nd):Prop:=True/\∃(_y:Unit),True/\false=B4 a/\True/\True
theorem Bjj(n:Nd)(ho:n.ok)(hs:n.sm):CD 78 [.agg n.row2] (.bool (B4 n)):=by
 refine Bh (A:=sC _ _) (x:=()) (E:=Erz n) (eOk ?_ rfl) Tryz.func78 rfl (by kernel_rfl) rfl (by simp[sC,Erz,EC,E0]) ?_
 ·intro k ds S A hh
  unfold Bc9 at hh
  split at hh
  ·injection hh with hh;subst hh
   exact Bm fun e=>CD.at_ (CD.wk (Mc n nd0 ⟨ho,hs⟩ ⟨Bfc,BfN⟩) e) _
  ·cases hh
 refine Bl (T :=
  ∀(x:Nat),True->SM x/\∃(x_1:Unit),wkL [QgM n,D.agg [KL,KL,KL,D.str [],KL,KL,KL,Xp,Xp,Xp,Xp,Xp,KL,KL,KL]] [QgM n,D.agg Re]/\∀(y:Unit),True->ifB (Bk (stN n) (stN nd0)) (SM x/\ifB (Nd.at_ n==Z0) (SM x/\ifB (Nd.de n==Z0) (SM x/\ifB (Nd.sl n==Z0) (SM x/\RT ((Nd.ss n==Z0)=B4 n)) (Ze n)) (Ze n)) (Ze n)) (Ze n)) (by kernel_rfl) ?_
 delta DA GI LN N0 N1 N4 SI SM Z0 ZI Zd Qpo Qpp QgK QgL QgM KL Xp Ze RT
 try simp only[]
 try simp only[<- dn]
 simp only[ne_eq,Bg,true_and,and_true,beq_iff_eq,beq_eq_false_iff_ne,exists_const,forall_const]
 rw[<- Bby]
 have hz:=Bet n
 repeat' (first | exact hz | refine And.intro ?_ ?_ | intro _)
 all_goals clear hz
 all_goals first
  |(simp_all;done)
  |(simp_all;omega)
def RVal(n:Nd):Prop:=CD 77 [.agg n.row2] (.bool (BC n))
def RBdy(l:List Sm):Prop:=CD 47 [gsl 34 Sm.row1 l] (.bool (BF true l))
def O2(n:Nd):Con:=fun k ds S=>match k with
 |128=>match ds with
  | [_,.bool a,.bool b,.bool c,.bool d,.bool e,.bool f]=>some (pA ds S (.bool (Cl n a b c d e f)) (isN2 n ds [.bool a,.bool b,.bool c,.bool d,.bool e,.bool f]))
  |_=>none
 |47=>some (pA ds S (.bool (BF true n.bo)) (wkL ds [gsl 34 Sm.row1 n.bo]))
 |80=>match ds with
  | [_,.int .i64 q]=>some (pA ds S (.bool (Ca n.bo q)) (wkL ds [gsl 34 Sm.row1 n.bo,.int .i64 q]))
  |_=>none
 |_=>none
theorem UA{n:Nd}(h:n.va.ok)(hn:n.sm)(hb:RBdy n.bo):ConOk Tryz.prog (O2 n):=by
 intro k ds S A hh
 unfold O2 at hh
 split at hh
 ·split at hh
  ·injection hh with hh;subst hh
   exact Bm fun e=>CD.at_ (CD.wk (Rq n h _ _ _ _ _ _) e) _
  ·cases hh
 ·injection hh with hh;subst hh
  exact Bm fun e=>CD.at_ (CD.wk hb e) _
 ·split at hh
  ·injection hh with hh;subst hh
   exact Bm fun e=>CD.at_ (CD.wk (RF _ n.bo (BD (BZ hn).2.2) (Cu hn)) e) _
  ·cases hh
 ·cases hh
noncomputable def Erla(n:Nd):Senv:={ EC (O2 n) 49 5 [31,38,42] (fun id=>match id with | 3=>([0,1,3,4,2,5,6,7],[2,5]) | _=>([],[])) with mg:=fun _=>2 }
def Zf(a:Nd):Int:=Nd.cl a
def Zg(a:Nd):Arr:=Nd.va a
def Qpq(a:Nd):List Int:=Arr.sh (Zg a)
def Qpr(a:Nd):List Int:=Arr.nu (Zg a)
def QgN(a:Nd):List Arr:=Arr.it (Zg a)
def QgO:Arr:=DA
def QaS:Nd:=Nd.mk Z0 Z0 Z0 [] Z0 Z0 QgO [] [] Z0 Z0 Z0
def Jj(a:Nd):List Sm:=Nd.bo a
def QgP:Sm:=Sm.mk Z0 Z0 [] Z0 QaS QaS
def Xq(a:Nd):D:=D.sl 34 (LN (Jj a)) (fun i=>Sm.row1 (List.getD (Jj a) i QgP)) Mode.any
def QgQ:List D:=[D.bool false,D.bool false,D.bool false,D.bool false,D.bool false,D.bool true]
def Zh(a:Nd):Bool:=Ik a
def Zi(a:Nd):Prop:=True/\∃(_y:Unit),True/\false=Zh a/\True/\True
def QaT(a:Nd):Int:=(LI (Jj a))
def QaU(a:Nd):Int:=IntKind.wrap IntKind.i64 (QaT a-Z1)
def QgR(a:Nd):List D:=[Xq a]
def QgS(a:Nd):List D:=[Xq a,ZI 12]
def QgT(a:Nd):List D:=[Xq a,ZI 13]
theorem BeW(n:Nd)(h:n.va.ok)(hn:n.sm)(hb:RBdy n.bo):CD 108 [.agg n.row2] (.bool (Ik n)):=by
 refine Bh (A:=sC _ _) (x:=()) (E:=Erla n) (eOk (UA h hn hb) rfl) Tryz.func108 rfl (by kernel_rfl) rfl (by simp[sC,Erla,EC,E0]) ?_
 refine Bl (T :=
  ∀(x:Nat),True->SM x/\∃(x_1:Unit),isN2 n (D.agg [ZI (Nd.kd n),ZI (Nd.at_ n),ZI (Zf n),D.str (Nd.tx n),ZI (Nd.pr n),ZI (Nd.op n),ZI (Arr.k (Zg n)),SI (Qpq n),SI (Qpr n),D.sl N4 (LN (QgN n)) (fun i=>Arr.row (List.getD (QgN n) i QgO)) Mode.any,D.sl 15 (LN (Nd.ki n)) (fun i=>Nd.row1 (List.getD (Nd.ki n) i QaS)) Mode.any,Xq n,ZI (Nd.de n),ZI (Nd.sl n),ZI (Nd.ss n)]::QgQ) QgQ/\∀(y:Unit),True->ifB (!Cl n false false false false false true) (Zi n) (SM x/\ifB (QaT n==Z0) (Zi n) (SM x/\SM x/\Bf (Z0<=QaU n/\QaU n<QaT n) (ifB (Sm.kd (List.getD (Jj n) (Int.toNat (QaU n)) QgP) != Z1) (Zi n) (SM x/\∃(x_2:Unit),wkL (QgR n) (QgR n)/\∀(y:Unit),True->ifB (!BF true (Jj n)) (Zi n) (SM x/\SM x/\∃(x_3:Unit),wkL (QgS n) (QgS n)/\∀(y:Unit),True->(SM x/\SM (Xq n))/\∃(x_4:Unit),wkL (QgT n) (QgT n)/\∀(y:Unit),True->ifB (Ca (Jj n) (13:Int)) (SM x/\RT ((Zf n==4)=Zh n)) (ifB (Ca (Jj n) (12:Int)) (SM x/\RT ((Zf n==3)=Zh n)) (SM x/\RT ((Zf n==2)=Zh n))))))))) (by kernel_rfl) ?_
 delta DA GI LI LN N1 N4 SI SM Z0 Z1 ZI Zg Qpq Qpr QgN QgO QaS Jj QgP Xq QgQ Zh Zi QaT QaU QgR QgS QgT Zf RT
 try simp only[<- dm]
 try simp only[<- dn]
 simp only[ne_eq,Bg,Be,true_and,and_true,beq_iff_eq,bne_iff_ne,bne_eq_false_iff_eq,beq_eq_false_iff_ne,Bool.not_eq_true',Bool.not_eq_false',exists_const,forall_const]
 have e2:n.bo.isEmpty=(n.bo.length==0):=by cases n.bo<;>rfl
 have hlen:=(BZ hn).2.2
 unfold BX at hlen
 have self:∀a b c d e f:Bool,isN2 n [.agg n.row2,.bool a,.bool b,.bool c,.bool d,.bool e,.bool f] [.bool a,.bool b,.bool c,.bool d,.bool e,.bool f]:=fun _ _ _ _ _ _=>Cq n _
 by_cases hb:n.bo.length=0
 ·skip
  repeat' (first | exact self _ _ _ _ _ _ | exact Bc _ | refine And.intro ?_ ?_ | intro _)
  all_goals clear self
  all_goals first
   |(exfalso;omega)
   |(unfold Ik;rw[e2,hb];simp;done)
   |(unfold Ik;simp_all;done)
 ·have w:IntKind.i64.wrap ((n.bo.length:Int)-1)=((n.bo.length-1:Nat):Int):=by rw[Bb (by omega) (by omega)];omega
  simp only[w,Int.toNat_natCast]
  have e3:(n.bo.length==0)=false:=by simpa using hb
  repeat' (first | exact self _ _ _ _ _ _ | exact Bc _ | refine And.intro ?_ ?_ | intro _)
  all_goals clear self
  all_goals first
   |omega
   |(unfold Ik;rw[e2,e3];simp_all;done)
   |(unfold Ik;simp_all;done)
def OZ(n:Nd):Con:=fun k ds S=>match k with
 |108=>some (pA ds S (.bool (Ik n)) (isN2 n ds []))
 |109=>some (pA ds S (.bool (Gg n)) (isN2 n ds []))
 |110=>some (pA ds S (.bool (Cn n)) (isN2 n ds []))
 |77=>some (pE (β:=Nd) ds S (fun b=>.bool (BC b)) (fun b=>isN b ds []/\b∈n.ki))
 |_=>none
theorem Up{n:Nd}(hn:n.sm)(ho:n.va.ok)(h1:RBdy n.bo)(h2:∀b∈n.ki,RVal b):ConOk Tryz.prog (OZ n):=by
 intro k ds S A hh
 have hl:=BD (BZ hn).2.1
 unfold OZ at hh
 split at hh
 ·injection hh with hh;subst hh
  exact Bm fun e=>CD.at_ (CD.wk (BeW n ho hn h1) e) _
 ·injection hh with hh;subst hh
  exact Bm fun e=>CD.at_ (CD.wk (BfB n ho) e) _
 ·injection hh with hh;subst hh
  exact Bm fun e=>CD.at_ (CD.wk (Bfn n ho hl) e) _
 ·injection hh with hh;subst hh
  exact B7 fun b ⟨e,hb⟩=>CD.at_ (CD.isN (h2 b hb) e) _
 ·cases hh
noncomputable def Erva(n:Nd):Senv:={ EC (OZ n) 46 4 [21,24,28,31,36,45] (fun _=>([],[])) with
 mg:=fun _=>2
 ann:=fun b _ S=>match b with
  |0=>some { slots:=[3],keep:=[0,1],α:=Nat,st:=fun i=>([.int .i64 i],S),inv:=fun i=>i<=n.ki.length/\∀j,j<i->BC (n.ki.getD j default)=true,mu:=fun i=>n.ki.length-i }
  |_=>none }
theorem W7{α:Type}[Inhabited α]{p:α->Bool}{l:List α}{j:Nat}(hj:j<l.length)(h:p (l.getD j default)=false):l.all p=false:=by
 rw[Bool.eq_false_iff]
 intro e
 have:=List.all_eq_true.1 e (l.getD j default) (by rw[List.getD_eq_getElem?_getD,List.getElem?_eq_getElem hj];exact List.getElem_mem hj)
 rw[h] at this;cases this
theorem TJ{α:Type}[Inhabited α]{p:α->Bool}{l:List α}(h:∀j,j<l.length->p (l.getD j default)=true):l.all p=true:=by
 rw[List.all_eq_true]
 intro x hx
 obtain ⟨i,hi,rfl⟩:=List.getElem_of_mem hx
 have:=h i hi
 rwa [List.getD_eq_getElem?_getD,List.getElem?_eq_getElem hi] at this
def QaV(a:Nd):Int:=Nd.at_ a
def Zj(a:Nd):Bool:=BC a
def JP(a:Nd):Prop:=True/\∃(_y:Unit),True/\false=Zj a/\True/\True
def QaW(a:Nd):Int:=Nd.de a
def QaX(a:Nd):Int:=Nd.sl a
def QaY(a:Nd):Int:=Nd.ss a
def QaZ(a:Nd):Int:=Nd.kd a
def Zk(a:Nd):Arr:=Nd.va a
def QgU(a:Nd):Int:=Arr.k (Zk a)
def QgV(a:Nd):List Int:=Arr.sh (Zk a)
def Qa0(a:Nd):Nat:=LN (QgV a)
def QgW(a:Nd)(b:Nat):List D:=[ZI (GI (QgV a) b)]
def QgX(a:Nd):List Int:=Arr.nu (Zk a)
def Qa1(a:Nd):Nat:=LN (QgX a)
def QgY(a:Nd)(b:Nat):List D:=[ZI (GI (QgX a) b)]
def QgZ(a:Nd):List Arr:=Arr.it (Zk a)
def Qa2(a:Nd):Nat:=LN (QgZ a)
def Qa3:Arr:=DA
def Qg0(a:Nd)(b:Nat):List D:=Arr.row (List.getD (QgZ a) b Qa3)
def Zl(a:Nd):List Nd:=Nd.ki a
def KY(a:Nd):Nat:=LN (Zl a)
def Xr:Nd:=Nd.mk Z0 Z0 Z0 [] Z0 Z0 Qa3 [] [] Z0 Z0 Z0
def Qg1(a:Nd)(b:Nat):Nd:=List.getD (Zl a) b Xr
def Qg2(a:Nd)(b:Nat):List D:=Nd.row1 (Qg1 a b)
def Qa4(a:Nd):Nat:=LN (Nd.bo a)
def Qg3:Sm:=Sm.mk Z0 Z0 [] Z0 Xr Xr
def Qg4(a:Nd)(b:Nat):List D:=Sm.row1 (List.getD (Nd.bo a) b Qg3)
def Qg5(a:Nd):D:=D.agg [ZI (QaZ a),ZI (QaV a),ZI (Nd.cl a),D.str (Nd.tx a),ZI (Nd.pr a),ZI (Nd.op a),ZI (QgU a),D.sl N1 (Qa0 a) (fun i=>QgW a i) Mode.any,D.sl N1 (Qa1 a) (fun i=>QgY a i) Mode.any,D.sl N4 (Qa2 a) (fun i=>Qg0 a i) Mode.any,D.sl 15 (KY a) (fun i=>Qg2 a i) Mode.any,D.sl 34 (Qa4 a) (fun i=>Qg4 a i) Mode.any,ZI (QaW a),ZI (QaX a),ZI (QaY a)]
def Qa5(a:Nd):Prop:=isN2 a [Qg5 a] []
def Qg6(a:Nd):Prop:=True/\∃(_y:Unit),True/\true=Zj a/\True/\True
def Qa6(a:Nat)(b:Nd):Prop:=a<=KY b/\∀(j:Nat),j<a->BC (Qg1 b j)=true
def Qg7(a:Nat)(b:Nd):Prop:=(SM a/\(SM (QaZ b)/\SM (QaV b)/\SM (Nd.cl b)/\SM (Nd.tx b)/\SM (Nd.pr b)/\SM (Nd.op b)/\SM (QgU b)/\(SM (Qa0 b)/\(∀(i:Nat),i<Qa0 b->SM (QgW b i))/\True)/\(SM (Qa1 b)/\(∀(i:Nat),i<Qa1 b->SM (QgY b i))/\True)/\(SM (Qa2 b)/\(∀(i:Nat),i<Qa2 b->SM (Qg0 b i))/\True)/\(SM (KY b)/\(∀(i:Nat),i<KY b->SM (Qg2 b i))/\True)/\(SM (Qa4 b)/\(∀(i:Nat),i<Qa4 b->SM (Qg4 b i))/\True)/\SM (QaW b)/\SM (QaX b)/\SM (QaY b)/\True)/\True)/\True
def QW(a:Nd)(b:Nat):Nd:=List.getD (Zl a) (Int.toNat (↑b:Int)) Xr
def Zm(a:Nd)(b:Nat):Arr:=Nd.va (QW a b)
def Qps(a:Nd)(b:Nat):List Int:=Arr.sh (Zm a b)
def Qpt(a:Nd)(b:Nat):List Int:=Arr.nu (Zm a b)
def Qg8(a:Nd)(b:Nat):List Arr:=Arr.it (Zm a b)
def Qg9(a:Nd)(b:Nat):List Nd:=Nd.ki (QW a b)
def Qha(a:Nd)(b:Nat):List Sm:=Nd.bo (QW a b)
theorem W2(n:Nd)(hn:n.sm)(ho:n.va.ok)(h1:RBdy n.bo)(h2:∀b∈n.ki,RVal b):RVal n:=by
 refine Bh (A:=sC _ _) (x:=()) (E:=Erva n) (eOk (Up hn ho h1 h2) rfl) Tryz.func77 rfl (by kernel_rfl) rfl (by simp[sC,Erva,EC,E0]) ?_
 refine Bl (T :=
  ∀(x:Nat),True->SM x/\ifB (decide (QaV n<Z0)) (JP n) (SM x/\ifB (decide (QaW n<Z0)) (JP n) (SM x/\ifB (decide (QaX n<Z0)) (JP n) (SM x/\ifB (decide (QaY n<Z0)) (JP n) (SM x/\ifB (QaZ n==10) (SM x/\∃(x:Unit),Qa5 n/\∀(y:Unit),True->RT (Ik n=Zj n)) (SM x/\∃(x_1:Unit),Qa5 n/\∀(y:Unit),True->ifB (Gg n) (Qg6 n) (SM x/\∃(x_2:Unit),Qa5 n/\∀(y:Unit),True->ifB (!Cn n) (JP n) ((∃(x_3:Nat),Qa6 x_3 n/\(Z0=(↑x_3:Int)/\True)/\Qg7 x n)/\∀(x_3:Nat),Qa6 x_3 n->SM x/\ifB (decide ((↑x_3:Int)<(NI (KY n)))) (SM x/\Bf (Z0<=(↑x_3:Int)/\(↑x_3:Int)<(NI (KY n))) (∃(x_4:Nd),(isN x_4 [D.agg [ZI (Nd.kd (QW n x_3)),ZI (Nd.at_ (QW n x_3)),ZI (Nd.cl (QW n x_3)),D.str (Nd.tx (QW n x_3)),ZI (Nd.pr (QW n x_3)),ZI (Nd.op (QW n x_3)),ZI (Arr.k (Zm n x_3)),SI (Qps n x_3),SI (Qpt n x_3),D.sl N4 (LN (Qg8 n x_3)) (fun i=>Arr.row (List.getD (Qg8 n x_3) i Qa3)) Mode.any,D.sl 15 (LN (Qg9 n x_3)) (fun i=>Nd.row (List.getD (Qg9 n x_3) i Xr)) Mode.any,D.sl 34 (LN (Qha n x_3)) (fun i=>Sm.row (List.getD (Qha n x_3) i Qg3)) Mode.any,ZI (Nd.de (QW n x_3)),ZI (Nd.sl (QW n x_3)),ZI (Nd.ss (QW n x_3))]] []/\x_4∈Zl n)/\∀(y:Unit),True->ifB (!Zj x_4) (JP n) ((SM (Qg5 n)/\SM (D.ref N0 x N0)/\True)/\∃(y:Nat),Qa6 y n/\KY n-y<KY n-x_3/\(IntKind.wrap IntKind.i64 ((↑x_3:Int)+Z1)=(↑y:Int)/\True)/\Qg7 x n))) (Qg6 n))))))))) (by kernel_rfl) ?_
 delta DA GI LN N0 N1 N4 NI SI SM Z0 Z1 ZI QaV Zj JP QaW QaX QaY QaZ Zk QgU QgV Qa0 QgW QgX Qa1 QgY QgZ Qa2 Qa3 Qg0 Zl KY Xr Qg1 Qg2 Qa4 Qg3 Qg4 Qg5 Qa5 Qg6 Qa6 Qg7 QW Zm Qps Qpt Qg8 Qg9 Qha RT
 try simp only[<- dm]
 try simp only[<- dn]
 simp only[ne_eq,implies_true,Int.toNat_natCast,Bg,Be,decide_eq_true_eq,decide_eq_false_iff_not,true_and,and_true,beq_iff_eq,beq_eq_false_iff_ne,Bool.not_eq_true',Bool.not_eq_false',exists_const,forall_const]
 have hl:=BD (BZ hn).2.1
 unfold maxLen at hl
 have e:=UT n
 have no:Gx n=false->false=BC n:=fun h=>by rw[e,h];rfl
 refine⟨fun c=>no ?_,fun c1=>⟨fun c=>no ?_,fun c2=>⟨fun c=>no ?_,fun c3=>⟨fun c=>no ?_,fun c4=>?_⟩⟩⟩⟩
 ·unfold Gx;rw[decide_eq_false (by omega)];rfl
 ·unfold Gx;rw[decide_eq_false (p:=0<=n.de) (by omega)];simp
 ·unfold Gx;rw[decide_eq_false (p:=0<=n.sl) (by omega)];simp
 ·unfold Gx;rw[decide_eq_false (p:=0<=n.ss) (by omega)];simp
 have hp:Gx n=true:=by
  unfold Gx
  rw[decide_eq_true (by omega),decide_eq_true (by omega),decide_eq_true (by omega),decide_eq_true (by omega)];rfl
 rw[hp,Bool.true_and] at e
 clear no
 refine⟨fun k=>⟨Cq n _,?_⟩,fun k=>⟨Cq n _,fun c=>?_,fun c=>⟨Cq n _,fun d=>?_,fun d=>⟨⟨0,⟨Nat.zero_le _,fun j hj=>absurd hj (by omega)⟩,rfl⟩,fun i ⟨i1,hi⟩=>⟨fun hlt=>?_,fun hge=>?_⟩⟩⟩⟩⟩
 ·rw[e,if_pos k]
 ·rw[e,if_neg k,c];rfl
 ·rw[e,if_neg k,c,d];rfl
 ·have hi1:i<n.ki.length:=by omega
  refine⟨⟨by omega,by omega⟩,n.ki.getD i default,⟨BH _ _,Ci hi1⟩,fun f=>?_,fun f=>⟨i+1,⟨hi1,fun j hj=>?_⟩,by omega,Bb (by omega) (by omega)⟩⟩
  ·rw[e,if_neg k,c,d,W7 hi1 f];rfl
  ·by_cases e':j=i
   ·rw[e'];exact f
   ·exact hi j (by omega)
 ·rw[e,if_neg k,c,d,TJ fun j hj=>hi j (by omega)];rfl
def Te:Con:=fun k ds S=>match k with
 |77=>some (pE (β:=Nd) ds S (fun b=>.bool (BC b)) (fun b=>isN b ds []/\RVal b))
 |78=>some (pE (β:=Nd) ds S (fun b=>.bool (B4 b)) (fun b=>isN b ds []/\b.ok/\b.sm))
 |79=>match ds with
  | [.str s]=>some (pA ds S (.bool (Cb s)) True)
  |_=>none
 |_=>none
theorem Ul:ConOk Tryz.prog Te:=by
 intro k ds S A hh
 unfold Te at hh
 split at hh
 ·injection hh with hh;subst hh
  exact B7 fun b ⟨e,h⟩=>CD.at_ (CD.isN h e) _
 ·injection hh with hh;subst hh
  exact B7 fun b ⟨e,h⟩=>CD.at_ (CD.isN (Bjj b h.1 h.2) e) _
 ·split at hh
  ·injection hh with hh;subst hh
   exact Bm fun _=>CD.at_ (Bd1 _) _
  ·cases hh
 ·cases hh
theorem Uy{l:List Sm}{x:Nat}{v:List UInt8}:(BK (l.take x)).contains v=true↔∃j,j<x/\j<l.length/\(l.getD j default).kd=2/\(l.getD j default).nm=v:=by
 rw[List.contains_eq_mem,decide_eq_true_eq]
 unfold BK
 simp only[List.mem_map,List.mem_filter,beq_iff_eq]
 constructor
 ·rintro ⟨s,⟨hm,hk⟩,hn⟩
  obtain ⟨j,hj,e⟩:=List.getElem_of_mem hm
  rw[List.getElem_take] at e
  rw[List.length_take] at hj
  have h1:j<l.length:=by omega
  refine⟨j,by omega,h1,?_,?_⟩
  ·rw[List.getD_eq_getElem?_getD,List.getElem?_eq_getElem h1,Option.getD_some,e];exact hk
  ·rw[List.getD_eq_getElem?_getD,List.getElem?_eq_getElem h1,Option.getD_some,e];exact hn
 ·rintro ⟨j,h1,h2,hk,hn⟩
  have h3:j<(l.take x).length:=by rw[List.length_take];omega
  have e:(l.take x)[j]=l.getD j default:=by rw[List.getElem_take,List.getD_eq_getElem?_getD,List.getElem?_eq_getElem h2];rfl
  exact⟨l.getD j default,⟨by rw[<- e];exact List.getElem_mem h3,hk⟩,hn⟩
noncomputable def Erbo(l:List Sm):Senv:={ EC Te 130 1 [2,3,4,5,8,12,27,29,30,51,52,56,74,101,102,129] (fun id=>match id with | 18=>([0,1,2,3,4,5,6,7,8,9,10,11,12,13,14,15],[]) | _=>([],[])) with
 mg:=fun _=>2
 ann:=fun b env S=>match b with
  |0=>some { slots:=[3],keep:=[0],α:=Nat,st:=fun i=>([.int .i64 i],S),inv:=fun i=>i<=l.length/\BR true [] l=BR true (BK (l.take i)) (l.drop i),mu:=fun i=>l.length-i }
  |3=>match Ab.look env 3 with
   |.int _ i=>some { slots:=[5],keep:=[0,3,4],α:=Nat,st:=fun y=>([.int .i64 y],S),inv:=fun y=>y<=i.toNat/\∀j,j<y->¬((l.getD j default).kd=2/\(l.getD j default).nm=(l.getD i.toNat default).nm),mu:=fun y=>i.toNat-y }
   |_=>none
  |_=>none }
def Qo(a:List Sm):Prop:=True/\∃(_y:Unit),True/\false=BF true a/\True/\True
def Qa7(a:Nat)(b:List Sm):Prop:=a<=LN b/\BR true [] b=BR true (BK (List.take a b)) (List.drop a b)
def Xs:Arr:=DA
def JQ:Nd:=Nd.mk Z0 Z0 Z0 [] Z0 Z0 Xs [] [] Z0 Z0 Z0
def JR:Sm:=Sm.mk Z0 Z0 [] Z0 JQ JQ
def JS(a:List Sm)(b:Nat):Sm:=List.getD a (Int.toNat (↑b:Int)) JR
def Qhb(a:List Sm)(b:Nat):Int:=Sm.at_ (JS a b)
def QX(a:List Sm)(b:Nat):Nd:=Sm.nd (JS a b)
def Qa8(a:List Sm)(b:Nat):Int:=Nd.kd (QX a b)
def Qhc(a:List Sm)(b:Nat):Int:=Nd.at_ (QX a b)
def Zn(a:List Sm)(b:Nat):Int:=Nd.cl (QX a b)
def Qhd(a:List Sm)(b:Nat):List UInt8:=Nd.tx (QX a b)
def Qhe(a:List Sm)(b:Nat):Int:=Nd.pr (QX a b)
def Qhf(a:List Sm)(b:Nat):Int:=Nd.op (QX a b)
def Zo(a:List Sm)(b:Nat):Arr:=Nd.va (QX a b)
def Qhg(a:List Sm)(b:Nat):Int:=Arr.k (Zo a b)
def Qhh(a:List Sm)(b:Nat):List Int:=Arr.sh (Zo a b)
def Qa9(a:List Sm)(b:Nat):Nat:=LN (Qhh a b)
def Qhi(a:List Sm)(b c:Nat):List D:=[ZI (GI (Qhh a b) c)]
def Qhj(a:List Sm)(b:Nat):List Int:=Arr.nu (Zo a b)
def Qba(a:List Sm)(b:Nat):Nat:=LN (Qhj a b)
def Qhk(a:List Sm)(b c:Nat):List D:=[ZI (GI (Qhj a b) c)]
def Qhl(a:List Sm)(b:Nat):List Arr:=Arr.it (Zo a b)
def Qbb(a:List Sm)(b:Nat):Nat:=LN (Qhl a b)
def Qhm(a:List Sm)(b c:Nat):List D:=Arr.row (List.getD (Qhl a b) c Xs)
def Qhn(a:List Sm)(b:Nat):List Nd:=Nd.ki (QX a b)
def Qbc(a:List Sm)(b:Nat):Nat:=LN (Qhn a b)
def Qho(a:List Sm)(b c:Nat):List D:=Nd.row (List.getD (Qhn a b) c JQ)
def Qhp(a:List Sm)(b:Nat):List Sm:=Nd.bo (QX a b)
def Qbd(a:List Sm)(b:Nat):Nat:=LN (Qhp a b)
def Qhq(a:List Sm)(b c:Nat):List D:=Sm.row (List.getD (Qhp a b) c JR)
def Qhr(a:List Sm)(b:Nat):Int:=Nd.de (QX a b)
def Qhs(a:List Sm)(b:Nat):Int:=Nd.sl (QX a b)
def Qht(a:List Sm)(b:Nat):Int:=Nd.ss (QX a b)
def Zp(a:List Sm)(b:Nat):Int:=Sm.kd (JS a b)
def Qhu(a:List Sm)(b:Nat):Bool:=Zn a b != Z1
def JT(a:List Sm)(b:Nat):List UInt8:=Sm.nm (JS a b)
def Qhv(a:List Sm)(b:Nat):Bool:=JT a b != []
def Qbe(a:List Sm)(b:Nat):Int:=Sm.sl (JS a b)
def Qhw(a:List Sm)(b:Nat):Bool:=Qbe a b != Z0
def QY(a:List Sm)(b:Nat):Nd:=Sm.te (JS a b)
def Qhx(a:List Sm)(b:Nat):Int:=Nd.kd (QY a b)
def Qhy(a:List Sm)(b:Nat):Int:=Nd.at_ (QY a b)
def Qbf(a:List Sm)(b:Nat):Int:=Nd.cl (QY a b)
def Qhz(a:List Sm)(b:Nat):List UInt8:=Nd.tx (QY a b)
def QhA(a:List Sm)(b:Nat):Int:=Nd.pr (QY a b)
def QhB(a:List Sm)(b:Nat):Int:=Nd.op (QY a b)
def Zq(a:List Sm)(b:Nat):Arr:=Nd.va (QY a b)
def QhC(a:List Sm)(b:Nat):Int:=Arr.k (Zq a b)
def QhD(a:List Sm)(b:Nat):List Int:=Arr.sh (Zq a b)
def Qbg(a:List Sm)(b:Nat):Nat:=LN (QhD a b)
def QhE(a:List Sm)(b c:Nat):List D:=[ZI (GI (QhD a b) c)]
def QhF(a:List Sm)(b:Nat):List Int:=Arr.nu (Zq a b)
def Qbh(a:List Sm)(b:Nat):Nat:=LN (QhF a b)
def QhG(a:List Sm)(b c:Nat):List D:=[ZI (GI (QhF a b) c)]
def QhH(a:List Sm)(b:Nat):List Arr:=Arr.it (Zq a b)
def Qbi(a:List Sm)(b:Nat):Nat:=LN (QhH a b)
def QhI(a:List Sm)(b c:Nat):List D:=Arr.row (List.getD (QhH a b) c Xs)
def QhJ(a:List Sm)(b:Nat):List Nd:=Nd.ki (QY a b)
def Qbj(a:List Sm)(b:Nat):Nat:=LN (QhJ a b)
def QhK(a:List Sm)(b c:Nat):List D:=Nd.row (List.getD (QhJ a b) c JQ)
def QhL(a:List Sm)(b:Nat):List Sm:=Nd.bo (QY a b)
def Qbk(a:List Sm)(b:Nat):Nat:=LN (QhL a b)
def QhM(a:List Sm)(b c:Nat):List D:=Sm.row (List.getD (QhL a b) c JR)
def QhN(a:List Sm)(b:Nat):Int:=Nd.de (QY a b)
def QhO(a:List Sm)(b:Nat):Int:=Nd.sl (QY a b)
def QhP(a:List Sm)(b:Nat):Int:=Nd.ss (QY a b)
def QhQ(a:Nd)(b:List Sm)(c:Nat):Prop:=isN a [D.agg [ZI (Qhx b c),ZI (Qhy b c),ZI (Qbf b c),D.str (Qhz b c),ZI (QhA b c),ZI (QhB b c),ZI (QhC b c),D.sl N1 (Qbg b c) (fun i=>QhE b c i) Mode.any,D.sl N1 (Qbh b c) (fun i=>QhG b c i) Mode.any,D.sl N4 (Qbi b c) (fun i=>QhI b c i) Mode.any,D.sl 15 (Qbj b c) (fun i=>QhK b c i) Mode.any,D.sl 34 (Qbk b c) (fun i=>QhM b c i) Mode.any,ZI (QhN b c),ZI (QhO b c),ZI (QhP b c)]] []
def QhR(a:Nd)(b:List Sm)(c:Nat):Prop:=QhQ a b c/\Nd.ok a/\Nd.sm a
def JU(a:List Sm)(b:Nat):Sm:=List.getD a b JR
def QhS(a:List Sm)(b:Nat):Int:=Sm.kd (JU a b)
def QhT(a:List Sm)(b:Nat):List UInt8:=Sm.nm (JU a b)
def QZ(a:List Sm)(b:Nat):Nd:=Sm.te (JU a b)
def Zr(a:List Sm)(b:Nat):Arr:=Nd.va (QZ a b)
def Qpu(a:List Sm)(b:Nat):List Int:=Arr.sh (Zr a b)
def Qpv(a:List Sm)(b:Nat):List Int:=Arr.nu (Zr a b)
def QhU(a:List Sm)(b:Nat):List Arr:=Arr.it (Zr a b)
def QhV(a:List Sm)(b:Nat):List Nd:=Nd.ki (QZ a b)
def QhW(a:List Sm)(b:Nat):List Sm:=Nd.bo (QZ a b)
def Q0(a:List Sm)(b:Nat):Nd:=Sm.nd (JU a b)
def Zs(a:List Sm)(b:Nat):Arr:=Nd.va (Q0 a b)
def Qpw(a:List Sm)(b:Nat):List Int:=Arr.sh (Zs a b)
def Qpx(a:List Sm)(b:Nat):List Int:=Arr.nu (Zs a b)
def QhX(a:List Sm)(b:Nat):List Arr:=Arr.it (Zs a b)
def QhY(a:List Sm)(b:Nat):List Nd:=Nd.ki (Q0 a b)
def QhZ(a:List Sm)(b:Nat):List Sm:=Nd.bo (Q0 a b)
def Qpy(a:List Sm):D:=D.sl 34 (LN a) (fun i=>[ZI (QhS a i),ZI (Sm.at_ (JU a i)),D.str (QhT a i),ZI (Sm.sl (JU a i)),ZI (Nd.kd (QZ a i)),ZI (Nd.at_ (QZ a i)),ZI (Nd.cl (QZ a i)),D.str (Nd.tx (QZ a i)),ZI (Nd.pr (QZ a i)),ZI (Nd.op (QZ a i)),ZI (Arr.k (Zr a i)),SI (Qpu a i),SI (Qpv a i),D.sl N4 (LN (QhU a i)) (fun i_1=>Arr.row (List.getD (QhU a i) i_1 Xs)) Mode.any,D.sl 15 (LN (QhV a i)) (fun i_1=>Nd.row (List.getD (QhV a i) i_1 JQ)) Mode.any,D.sl 34 (LN (QhW a i)) (fun i_1=>Sm.row (List.getD (QhW a i) i_1 JR)) Mode.any,ZI (Nd.de (QZ a i)),ZI (Nd.sl (QZ a i)),ZI (Nd.ss (QZ a i)),ZI (Nd.kd (Q0 a i)),ZI (Nd.at_ (Q0 a i)),ZI (Nd.cl (Q0 a i)),D.str (Nd.tx (Q0 a i)),ZI (Nd.pr (Q0 a i)),ZI (Nd.op (Q0 a i)),ZI (Arr.k (Zs a i)),SI (Qpw a i),SI (Qpx a i),D.sl N4 (LN (QhX a i)) (fun i_1=>Arr.row (List.getD (QhX a i) i_1 Xs)) Mode.any,D.sl 15 (LN (QhY a i)) (fun i_1=>Nd.row (List.getD (QhY a i) i_1 JQ)) Mode.any,D.sl 34 (LN (QhZ a i)) (fun i_1=>Sm.row (List.getD (QhZ a i) i_1 JR)) Mode.any,ZI (Nd.de (Q0 a i)),ZI (Nd.sl (Q0 a i)),ZI (Nd.ss (Q0 a i))]) Mode.any
def Qh0(a:List Sm):Prop:=SM (Qpy a)
def Zt(a:List Sm)(b:Nat):Prop:=(Qh0 a/\True)/\∃(y:Nat),Qa7 y a/\LN a-y<LN a-b/\(IntKind.wrap IntKind.i64 ((↑b:Int)+Z1)=(↑y:Int)/\True)/\True/\True
def Qh1(a:List Sm)(b:Nat):Bool:=Zp a b==2
def Qbl(a b:Nat)(c:List Sm):Prop:=a<=Int.toNat (↑b:Int)/\∀(j:Nat),j<a->¬(QhS c j=2/\QhT c j=JT c b)
def Qh2(a:Nat)(b:List Sm)(c:Nat):Prop:=(SM a/\(SM (Zp b c)/\SM (Qhb b c)/\SM (JT b c)/\SM (Qbe b c)/\SM (Qhx b c)/\SM (Qhy b c)/\SM (Qbf b c)/\SM (Qhz b c)/\SM (QhA b c)/\SM (QhB b c)/\SM (QhC b c)/\(SM (Qbg b c)/\(∀(i:Nat),i<Qbg b c->SM (QhE b c i))/\True)/\(SM (Qbh b c)/\(∀(i:Nat),i<Qbh b c->SM (QhG b c i))/\True)/\(SM (Qbi b c)/\(∀(i:Nat),i<Qbi b c->SM (QhI b c i))/\True)/\(SM (Qbj b c)/\(∀(i:Nat),i<Qbj b c->SM (QhK b c i))/\True)/\(SM (Qbk b c)/\(∀(i:Nat),i<Qbk b c->SM (QhM b c i))/\True)/\SM (QhN b c)/\SM (QhO b c)/\SM (QhP b c)/\SM (Qa8 b c)/\SM (Qhc b c)/\SM (Zn b c)/\SM (Qhd b c)/\SM (Qhe b c)/\SM (Qhf b c)/\SM (Qhg b c)/\(SM (Qa9 b c)/\(∀(i:Nat),i<Qa9 b c->SM (Qhi b c i))/\True)/\(SM (Qba b c)/\(∀(i:Nat),i<Qba b c->SM (Qhk b c i))/\True)/\(SM (Qbb b c)/\(∀(i:Nat),i<Qbb b c->SM (Qhm b c i))/\True)/\(SM (Qbc b c)/\(∀(i:Nat),i<Qbc b c->SM (Qho b c i))/\True)/\(SM (Qbd b c)/\(∀(i:Nat),i<Qbd b c->SM (Qhq b c i))/\True)/\SM (Qhr b c)/\SM (Qhs b c)/\SM (Qht b c)/\True)/\True)/\True
def Qh3(a:List Sm)(b c d:Nat):Prop:=(Qh0 a/\SM (ZI (↑b:Int))/\SM (D.ref N0 c N0)/\True)/\∃(y:Nat),Qbl y b a/\Int.toNat (↑b:Int)-y<Int.toNat (↑b:Int)-d/\(IntKind.wrap IntKind.i64 ((↑d:Int)+Z1)=(↑y:Int)/\True)/\Qh2 c a b
theorem MI(l:List Sm)(hl:l.length<=BX)(h:∀s∈l,RVal s.nd/\RVal s.te/\(s.te.ok/\s.te.sm)):RBdy l:=by
 refine Bh (A:=sC _ _) (x:=()) (E:=Erbo l) (eOk Ul rfl) Tryz.func47 rfl (by kernel_rfl) rfl (by simp[sC,Erbo,EC,E0]) ?_
 refine Bl (T :=
  ifB (decide ((1000:Int)<(LI l))) (Qo l) ((∃(x:Nat),Qa7 x l/\(Z0=(↑x:Int)/\True)/\True/\True)/\∀(x:Nat),Qa7 x l->ifB (decide ((↑x:Int)<(LI l))) (Bf (Z0<=(↑x:Int)/\(↑x:Int)<(LI l)) (∀(x_1:Nat),True->SM x_1/\SM x_1/\ifB (decide (Qhb l x<Z0)) (Qo l) (SM x_1/\∃(x_2:Nd),(isN x_2 [D.agg [ZI (Qa8 l x),ZI (Qhc l x),ZI (Zn l x),D.str (Qhd l x),ZI (Qhe l x),ZI (Qhf l x),ZI (Qhg l x),D.sl N1 (Qa9 l x) (fun i=>Qhi l x i) Mode.any,D.sl N1 (Qba l x) (fun i=>Qhk l x i) Mode.any,D.sl N4 (Qbb l x) (fun i=>Qhm l x i) Mode.any,D.sl 15 (Qbc l x) (fun i=>Qho l x i) Mode.any,D.sl 34 (Qbd l x) (fun i=>Qhq l x i) Mode.any,ZI (Qhr l x),ZI (Qhs l x),ZI (Qht l x)]] []/\RVal x_2)/\∀(y:Unit),True->ifB (!BC x_2) (Qo l) (SM x_1/\ifB (Zp l x==Z1) (SM x_1/\ifB (Qhu l x) (Qo l) (SM x_1/\ifB (Qhv l x) (Qo l) (SM x_1/\ifB (Qhw l x) (Qo l) (SM x_1/\∃(x_3:Nd),QhR x_3 l x/\∀(y:Unit),True->ifB (!B4 x_3) (Qo l) (Zt l x))))) (ifB (Qh1 l x) ((∃(x_3:Nat),Qbl x_3 x l/\(Z0=(↑x_3:Int)/\True)/\Qh2 x_1 l x)/\∀(x_3:Nat),Qbl x_3 x l->ifB (decide ((↑x_3:Int)<(↑x:Int))) (Bf (Z0<=(↑x_3:Int)/\(↑x_3:Int)<(LI l)) (ifB (Qh1 l x_3) (Bf (Z0<=(↑x_3:Int)/\(↑x_3:Int)<(LI l)) (SM x_1/\ifB (JT l x_3==JT l x) (Qo l) (Qh3 l x x_1 x_3))) (Qh3 l x x_1 x_3))) (SM x_1/\∃(x_4:Unit),True/\∀(y:Unit),True->ifB (!Cb (JT l x)) (Qo l) (SM x_1/\ifB (decide (Qbe l x<Z0)) (Qo l) (SM x_1/\∃(x_5:Nd),QhR x_5 l x/\∀(y:Unit),True->ifB (!B4 x_5) (Qo l) (SM x_1/\ifB (decide ((3:Int)<=Zn l x)) (SM x_1/\ifB (Qa8 l x != (10:Int)) (Qo l) (Zt l x)) (Zt l x)))))) (ifB (Zp l x==3) (SM x_1/\ifB (Qhu l x) (Qo l) (SM x_1/\∃(x_3:Nd),(QhQ x_3 l x/\RVal x_3)/\∀(y:Unit),True->ifB (!BC x_3) (Qo l) (SM x_1/\ifB (Qbf l x != Z1) (Qo l) (SM x_1/\ifB (Qhv l x) (Qo l) (SM x_1/\ifB (Qhw l x) (Qo l) (Zt l x)))))) (Qo l))))))) (RT (true=BF true l)))) (by kernel_rfl) ?_
 delta DA GI LI LN N0 N1 N4 SI SM Z0 Z1 ZI Zp Qhu JT Qhv Qbe Qhw QY Qhx Qhy Qbf Qhz QhA QhB Zq QhC QhD Qbg QhE QhF Qbh QhG QhH Qbi QhI QhJ Qbj QhK QhL Qbk QhM QhN QhO QhP QhQ QhR JU QhS QhT QZ Zr Qpu Qpv QhU QhV QhW Q0 Zs Qpw Qpx QhX QhY QhZ Qpy Qh0 Zt Qh1 Qbl Qh2 Qh3 Qo Qa7 Xs JQ JR JS Qhb QX Qa8 Qhc Zn Qhd Qhe Qhf Zo Qhg Qhh Qa9 Qhi Qhj Qba Qhk Qhl Qbb Qhm Qhn Qbc Qho Qhp Qbd Qhq Qhr Qhs Qht RT
 try simp only[<- dm]
 try simp only[<- dn]
 simp only[ne_eq,implies_true,Int.toNat_natCast,Bg,Be,decide_eq_true_eq,decide_eq_false_iff_not,true_and,and_true,beq_iff_eq,bne_iff_ne,bne_eq_false_iff_eq,beq_eq_false_iff_ne,Bool.not_eq_true',Bool.not_eq_false',exists_const,forall_const]
 unfold BX at hl
 have hbody:BF true l=(decide (l.length<=1000)&&BR true [] l):=rfl
 refine⟨fun c=>?_,fun c=>⟨⟨0,⟨Nat.zero_le _,rfl⟩,rfl⟩,fun x ⟨x1,hx⟩=>⟨fun hlt=>?_,fun hge=>?_⟩⟩⟩
 ·rw[hbody,decide_eq_false (by omega)];rfl
 ·have hlt':x<l.length:=by omega
  rw[decide_eq_true (by omega),Bool.true_and,hx,Ie hlt',<- Tn] at hbody
  obtain ⟨v1,v2,v3⟩:=h _ (CT hlt')
  have w:IntKind.i64.wrap ((x:Int)+1)=((x+1:Nat):Int):=by rw[Bb (by omega) (by omega)];rfl
  have no:Ra (BK (l.take x)) (l.getD x default)=false->false=BF true l:=fun h=>by rw[hbody,h];rfl
  have go:Ra (BK (l.take x)) (l.getD x default)=true->∃y,(y<=l.length/\BR true [] l=BR true (BK (List.take y l)) (List.drop y l))/\l.length-y<l.length-x/\IntKind.i64.wrap ((x:Int)+1)=(y:Int):=fun h =>
   ⟨x+1,⟨hlt',by rw[hx,Ie hlt',<- Tn,h,Bool.true_and]⟩,by omega,w⟩
  have nin:=Uy (l:=l) (x:=x) (v:=(l.getD x default).nm)
  clear hx hbody h w
  unfold Ra at no go
  generalize hs:l.getD x default=s at *
  refine⟨⟨by omega,hlt⟩,fun a0=>no ?_,fun a0=>⟨s.nd,⟨BH _ _,v1⟩,fun a1=>no ?_,fun a1=>?_⟩⟩
  ·rw[decide_eq_false (by omega)];rfl
  ·rw[a1];simp
  have at0:decide (0<=s.at_)=true:=decide_eq_true (by omega)
  rw[at0,a1] at no go
  refine⟨fun k1=>?_,fun n1=>⟨fun k2=>?_,fun n2=>⟨fun k3=>?_,fun n3=>?_⟩⟩⟩
  ·rw[if_pos k1] at no go
   clear nin
   refine⟨fun b1=>no ?_,fun b1=>⟨fun b2=>no ?_,fun b2=>⟨fun b3=>no ?_,fun b3=>⟨s.te,⟨BH _ _,v3⟩,fun b4=>no ?_,fun b4=>go ?_⟩⟩⟩⟩
   all_goals simp_all
  ·rw[if_neg n1,if_pos k2] at no go
   refine⟨⟨0,⟨Nat.zero_le _,fun j hj=>absurd hj (by omega)⟩,rfl⟩,fun y ⟨y1,hy⟩=>⟨fun hly=>⟨⟨by omega,by omega⟩,fun b1=>⟨⟨by omega,by omega⟩,fun b2=>no ?_,fun b2=>⟨y+1,⟨by omega,fun j hj=>?_⟩,by omega,Bb (by omega) (by omega)⟩⟩,fun b1=>⟨y+1,⟨by omega,fun j hj=>?_⟩,by omega,Bb (by omega) (by omega)⟩⟩,fun hgy=>?_⟩⟩
   ·rw[nin.2 ⟨y,by omega,by omega,b1,b2⟩];simp
   ·by_cases e':j=y
    ·rw[e'];exact fun e=>b2 e.2
    ·exact hy j (by omega)
   ·by_cases e':j=y
    ·rw[e'];exact fun e=>b1 e.1
    ·exact hy j (by omega)
   ·have hn:(BK (l.take x)).contains s.nm=false:=by
     cases e:(BK (l.take x)).contains s.nm with
     |false=>rfl
     |true =>
      obtain ⟨j,j1,_,j3,j4⟩:=nin.1 e
      exact (hy j (by omega) ⟨j3,j4⟩).elim
    rw[hn] at no go
    clear nin hn hy
    refine⟨fun b1=>no ?_,fun b1=>⟨fun b2=>no ?_,fun b2=>⟨s.te,⟨BH _ _,v3⟩,fun b4=>no ?_,fun b4=>⟨fun b5=>⟨fun b6=>no ?_,fun b6=>go ?_⟩,fun b5=>go ?_⟩⟩⟩⟩
    ·rw[b1];simp
    ·rw[decide_eq_false (p:=0<=s.sl) (by omega)];simp
    ·rw[b4];simp
    ·rw[decide_eq_true (p:=3<=s.nd.cl) b5];simp[b6]
    ·rw[b1,b4,b6,decide_eq_true (p:=0<=s.sl) (by omega)];simp
    ·rw[b1,b4,decide_eq_true (p:=0<=s.sl) (by omega),decide_eq_false (p:=3<=s.nd.cl) b5];rfl
  ·rw[if_neg n1,if_neg n2,if_pos k3] at no go
   clear nin
   refine⟨fun b1=>no ?_,fun b1=>⟨s.te,⟨BH _ _,v2⟩,fun b2=>no ?_,fun b2=>⟨fun b3=>no ?_,fun b3=>⟨fun b4=>no ?_,fun b4=>⟨fun b5=>no ?_,fun b5=>go ?_⟩⟩⟩⟩⟩
   all_goals simp_all
  ·rw[if_neg n1,if_neg n2,if_neg n3] at no
   exact no (by simp)
 ·have e:x=l.length:=by omega
  rw[e,O0 (Nat.le_refl _)] at hx
  rw[hbody,hx,decide_eq_true (by omega)];rfl
def CE(k:Nat)(m:Int):Int:=if (k:Int)<=m+1 then (k:Int) else m+1
def RDep(n:Nd)(m:Int):Prop:=CD 35 [.agg n.row2,.int .i64 m] (.int .i64 (CE (dpN n) m))
theorem WG{l:List Nd}{i:Nat}(h:i<l.length):dpL (l.take (i+1))=max (dpL (l.take i)) (dpN (l.getD i default)):=by
 rw[Cf h,T6]
 simp only[dpL]
 omega
theorem T3:∀a b:List Sm,dpB (a++b)=max (dpB a) (dpB b)
 | [],b=>by simp only[List.nil_append,dpB];omega
 |x::a,b=>by simp only[List.cons_append,dpB,T3 a b];omega
theorem WH(s:Sm):dpM s=if s.kd=3 then max (dpN s.te) (dpN s.nd) else dpN s.nd:=by
 cases s
 simp only[dpM]
 rfl
theorem W6{l:List Sm}{i:Nat}(h:i<l.length):dpB (l.take (i+1))=max (dpB (l.take i)) (dpM (l.getD i default)):=by
 rw[Cf h,T3]
 simp only[dpB]
 omega
theorem Bfk(n:Nd):dpN n=1+max (dpL n.ki) (dpB n.bo):=by
 cases n
 simp only[dpN]
 rfl
def OY(p:Nd->Prop):Con:=fun k ds S=>match k with
 |35=>match ds with
  | [_,.int .i64 m]=>some (pE (β:=Nd) ds S (fun b=>.int .i64 (CE (dpN b) m)) (fun b=>isN b ds [.int .i64 m]/\0<=m/\m<=60/\p b))
  |_=>none
 |_=>none
theorem UY{p:Nd->Prop}(h:∀b,p b->∀m,0<=m->m<=60->RDep b m):ConOk Tryz.prog (OY p):=by
 intro k ds S A hh
 unfold OY at hh
 split at hh
 ·split at hh
  ·injection hh with hh;subst hh
   exact B7 fun b ⟨e,h0,h1,hb⟩=>CD.at_ (CD.isN (h b hb _ h0 h1) e) _
  ·cases hh
 ·cases hh
noncomputable def Erdp(p:Nd->Prop)(n:Nd)(m:Int):Senv:={ EC (OY p) 65 3 [4,5,6,7,9,14,31,51] (fun _=>([],[])) with
 mg:=fun _=>2
 ann:=fun b _ S=>match b with
  |0=>some { slots:=[6,5],keep:=[0,1,2],α:=Nat×Int,st:=fun y=>([.int .i64 y.1,.int .i64 y.2],S),inv:=fun y=>y.1<=n.ki.length/\0<=y.2/\y.2=CE (dpL (n.ki.take y.1)) (m-1),mu:=fun y=>n.ki.length-y.1 }
  |2=>some { slots:=[7,5],keep:=[0,1,2],α:=Nat×Int,st:=fun y=>([.int .i64 y.1,.int .i64 y.2],S),inv:=fun y=>y.1<=n.bo.length/\0<=y.2/\y.2=CE (max (dpL n.ki) (dpB (n.bo.take y.1))) (m-1),mu:=fun y=>n.bo.length-y.1 }
  |_=>none }
def Xt(a:Nd):List Nd:=Nd.ki a
def KZ(a:Nd):Nat:=LN (Xt a)
def Qbm(a:Nat)(b:Nd)(c d:Int):Prop:=a<=KZ b/\Z0<=c/\c=CE (dpL (List.take a (Xt b))) (d-Z1)
def Qh4(a:Nd):Int:=Nd.at_ a
def Zu(a:Nd):Arr:=Nd.va a
def Qh5(a:Nd):Int:=Arr.k (Zu a)
def Qh6(a:Nd):List Int:=Arr.sh (Zu a)
def Qbn(a:Nd):Nat:=LN (Qh6 a)
def Qh7(a:Nd)(b:Nat):List D:=[ZI (GI (Qh6 a) b)]
def Qh8(a:Nd):List Int:=Arr.nu (Zu a)
def Qbo(a:Nd):Nat:=LN (Qh8 a)
def Qh9(a:Nd)(b:Nat):List D:=[ZI (GI (Qh8 a) b)]
def Qia(a:Nd):List Arr:=Arr.it (Zu a)
def Qbp(a:Nd):Nat:=LN (Qia a)
def Xu:Arr:=DA
def Qib(a:Nd)(b:Nat):List D:=Arr.row (List.getD (Qia a) b Xu)
def Jk:Nd:=Nd.mk Z0 Z0 Z0 [] Z0 Z0 Xu [] [] Z0 Z0 Z0
def Qic(a:Nd)(b:Nat):List D:=Nd.row1 (List.getD (Xt a) b Jk)
def Zv(a:Nd):List Sm:=Nd.bo a
def Jl(a:Nd):Nat:=LN (Zv a)
def Xv:Sm:=Sm.mk Z0 Z0 [] Z0 Jk Jk
def Qid(a:Nd)(b:Nat):List D:=Sm.row1 (List.getD (Zv a) b Xv)
def Zw(a:Nat)(b:Nd):Prop:=(SM a/\(SM (Nd.kd b)/\SM (Qh4 b)/\SM (Nd.cl b)/\SM (Nd.tx b)/\SM (Nd.pr b)/\SM (Nd.op b)/\SM (Qh5 b)/\(SM (Qbn b)/\(∀(i:Nat),i<Qbn b->SM (Qh7 b i))/\True)/\(SM (Qbo b)/\(∀(i:Nat),i<Qbo b->SM (Qh9 b i))/\True)/\(SM (Qbp b)/\(∀(i:Nat),i<Qbp b->SM (Qib b i))/\True)/\(SM (KZ b)/\(∀(i:Nat),i<KZ b->SM (Qic b i))/\True)/\(SM (Jl b)/\(∀(i:Nat),i<Jl b->SM (Qid b i))/\True)/\SM (Nd.de b)/\SM (Nd.sl b)/\SM (Nd.ss b)/\True)/\True)/\True
def Q2(a:Nd)(b:Nat):Nd:=List.getD (Xt a) (Int.toNat (↑b:Int)) Jk
def Zx(a:Nd)(b:Nat):Arr:=Nd.va (Q2 a b)
def Qpz(a:Nd)(b:Nat):List Int:=Arr.sh (Zx a b)
def QpA(a:Nd)(b:Nat):List Int:=Arr.nu (Zx a b)
def Qie(a:Nd)(b:Nat):List Arr:=Arr.it (Zx a b)
def Qif(a:Nd)(b:Nat):List Nd:=Nd.ki (Q2 a b)
def Qig(a:Nd)(b:Nat):List Sm:=Nd.bo (Q2 a b)
def Zy(a:Int):Int:=IntKind.wrap IntKind.i64 (a-Z1)
def JV(a:Int):List D:=[ZI (Zy a)]
def Qbq(a:Int)(b:Nd->Prop)(c:Nd):Prop:=Z0<=Zy a/\Zy a<=60/\b c
def QpB(a:Nd):D:=D.agg [ZI (Nd.kd a),ZI (Qh4 a),ZI (Nd.cl a),D.str (Nd.tx a),ZI (Nd.pr a),ZI (Nd.op a),ZI (Qh5 a),D.sl N1 (Qbn a) (fun i=>Qh7 a i) Mode.any,D.sl N1 (Qbo a) (fun i=>Qh9 a i) Mode.any,D.sl N4 (Qbp a) (fun i=>Qib a i) Mode.any,D.sl 15 (KZ a) (fun i=>Qic a i) Mode.any,D.sl 34 (Jl a) (fun i=>Qid a i) Mode.any,ZI (Nd.de a),ZI (Nd.sl a),ZI (Nd.ss a)]
def Qbr(a:Nd)(b:Int)(c:Nat):Prop:=SM (QpB a)/\SM (ZI b)/\SM (D.ref N0 c N0)/\True
def Zz(a:Nd)(b:Int):Int:=CE (dpN a) (Zy b)
def Qbs(a:Int)(b:Nd)(c:Int):Int:=if a<Zz b c then Zz b c else a
def Qih(a b:Nat)(c:Int)(d:Nd)(e f:Int)(g:Nat)(h:Nd):Prop:=(IntKind.wrap IntKind.i64 ((↑a:Int)+Z1)=(↑b:Int)/\Qbs c d e=f/\True)/\Zw g h
def ZA(a:Nat)(b:Nd)(c d:Int):Prop:=a<=Jl b/\Z0<=c/\c=CE (max (dpL (Xt b)) (dpB (List.take a (Zv b)))) (d-Z1)
def ZB(a:Nd):Int:=(NI (Jl a))
def Qbt(a:Nd)(b:Nat):Sm:=List.getD (Zv a) (Int.toNat (↑b:Int)) Xv
def Q3(a:Nd)(b:Nat):Nd:=Sm.nd (Qbt a b)
def ZC(a:Nd)(b:Nat):Arr:=Nd.va (Q3 a b)
def QpC(a:Nd)(b:Nat):List Int:=Arr.sh (ZC a b)
def QpD(a:Nd)(b:Nat):List Int:=Arr.nu (ZC a b)
def Qii(a:Nd)(b:Nat):List Arr:=Arr.it (ZC a b)
def Qij(a:Nd)(b:Nat):List Nd:=Nd.ki (Q3 a b)
def Qik(a:Nd)(b:Nat):List Sm:=Nd.bo (Q3 a b)
def Q4(a:Nd)(b:Nat):Nd:=Sm.te (Qbt a b)
def ZD(a:Nd)(b:Nat):Arr:=Nd.va (Q4 a b)
def QpE(a:Nd)(b:Nat):List Int:=Arr.sh (ZD a b)
def QpF(a:Nd)(b:Nat):List Int:=Arr.nu (ZD a b)
def Qil(a:Nd)(b:Nat):List Arr:=Arr.it (ZD a b)
def Qim(a:Nd)(b:Nat):List Nd:=Nd.ki (Q4 a b)
def Qin(a:Nd)(b:Nat):List Sm:=Nd.bo (Q4 a b)
def Qio(a:Nd)(b c:Nat):Prop:=Jl a-b<Jl a-c
theorem Rl(p:Nd->Prop)(n:Nd)(m:Int)(h0:0<=m)(h1:m<=60)(hn:n.sm)(h:∀b,p b->∀m,0<=m->m<=60->RDep b m)(hk:∀b∈n.ki,p b)(hb:∀s∈n.bo,p s.te/\p s.nd):RDep n m:=by
 refine Bh (A:=sC _ _) (x:=()) (E:=Erdp p n m) (eOk (UY h) rfl) Tryz.func35 rfl (by kernel_rfl) rfl (by simp[sC,Erdp,EC,E0]) ?_
 refine Bl (T :=
  ∀(x:Nat),True->ifB (decide (m<=Z0)) (RT (Z1=CE (dpN n) m)) ((∃(x_1:Nat×Int),Qbm x_1.1 n x_1.2 m/\(Z0=(NI x_1.1)/\Z0=x_1.2/\True)/\Zw x n)/\∀(x_1:Nat×Int),Qbm x_1.1 n x_1.2 m->SM x/\ifB (decide ((NI x_1.1)<(NI (KZ n)))) (SM x/\Bf (Z0<=(NI x_1.1)/\(NI x_1.1)<(NI (KZ n))) (∃(x_2:Nd),(isN x_2 (D.agg [ZI (Nd.kd (Q2 n x_1.1)),ZI (Nd.at_ (Q2 n x_1.1)),ZI (Nd.cl (Q2 n x_1.1)),D.str (Nd.tx (Q2 n x_1.1)),ZI (Nd.pr (Q2 n x_1.1)),ZI (Nd.op (Q2 n x_1.1)),ZI (Arr.k (Zx n x_1.1)),SI (Qpz n x_1.1),SI (QpA n x_1.1),D.sl N4 (LN (Qie n x_1.1)) (fun i=>Arr.row (List.getD (Qie n x_1.1) i Xu)) Mode.any,D.sl 15 (LN (Qif n x_1.1)) (fun i=>Nd.row (List.getD (Qif n x_1.1) i Jk)) Mode.any,D.sl 34 (LN (Qig n x_1.1)) (fun i=>Sm.row (List.getD (Qig n x_1.1) i Xv)) Mode.any,ZI (Nd.de (Q2 n x_1.1)),ZI (Nd.sl (Q2 n x_1.1)),ZI (Nd.ss (Q2 n x_1.1))]::JV m) (JV m)/\Qbq m p x_2)/\∀(y:Unit),True->Qbr n m x/\∃(y:Nat×Int),Qbm y.1 n y.2 m/\KZ n-y.1<KZ n-x_1.1/\Qih x_1.1 y.1 x_1.2 x_2 m y.2 x n)) ((∃(x_2:Nat×Int),ZA x_2.1 n x_2.2 m/\(Z0=(NI x_2.1)/\x_1.2=x_2.2/\True)/\Zw x n)/\∀(x_2:Nat×Int),ZA x_2.1 n x_2.2 m->SM x/\ifB (decide ((NI x_2.1)<ZB n)) (SM x/\Bf (Z0<=(NI x_2.1)/\(NI x_2.1)<ZB n) (∃(x_3:Nd),(isN x_3 (D.agg [ZI (Nd.kd (Q3 n x_2.1)),ZI (Nd.at_ (Q3 n x_2.1)),ZI (Nd.cl (Q3 n x_2.1)),D.str (Nd.tx (Q3 n x_2.1)),ZI (Nd.pr (Q3 n x_2.1)),ZI (Nd.op (Q3 n x_2.1)),ZI (Arr.k (ZC n x_2.1)),SI (QpC n x_2.1),SI (QpD n x_2.1),D.sl N4 (LN (Qii n x_2.1)) (fun i=>Arr.row (List.getD (Qii n x_2.1) i Xu)) Mode.any,D.sl 15 (LN (Qij n x_2.1)) (fun i=>Nd.row (List.getD (Qij n x_2.1) i Jk)) Mode.any,D.sl 34 (LN (Qik n x_2.1)) (fun i=>Sm.row (List.getD (Qik n x_2.1) i Xv)) Mode.any,ZI (Nd.de (Q3 n x_2.1)),ZI (Nd.sl (Q3 n x_2.1)),ZI (Nd.ss (Q3 n x_2.1))]::JV m) (JV m)/\Qbq m p x_3)/\∀(y:Unit),True->SM x/\Bf (Z0<=(NI x_2.1)/\(NI x_2.1)<ZB n) (ifB (Sm.kd (Qbt n x_2.1)==3) (SM x/\Bf (Z0<=(NI x_2.1)/\(NI x_2.1)<ZB n) (∃(x_4:Nd),(isN x_4 (D.agg [ZI (Nd.kd (Q4 n x_2.1)),ZI (Nd.at_ (Q4 n x_2.1)),ZI (Nd.cl (Q4 n x_2.1)),D.str (Nd.tx (Q4 n x_2.1)),ZI (Nd.pr (Q4 n x_2.1)),ZI (Nd.op (Q4 n x_2.1)),ZI (Arr.k (ZD n x_2.1)),SI (QpE n x_2.1),SI (QpF n x_2.1),D.sl N4 (LN (Qil n x_2.1)) (fun i=>Arr.row (List.getD (Qil n x_2.1) i Xu)) Mode.any,D.sl 15 (LN (Qim n x_2.1)) (fun i=>Nd.row (List.getD (Qim n x_2.1) i Jk)) Mode.any,D.sl 34 (LN (Qin n x_2.1)) (fun i=>Sm.row (List.getD (Qin n x_2.1) i Xv)) Mode.any,ZI (Nd.de (Q4 n x_2.1)),ZI (Nd.sl (Q4 n x_2.1)),ZI (Nd.ss (Q4 n x_2.1))]::JV m) (JV m)/\Qbq m p x_4)/\∀(y:Unit),True->Qbr n m x/\∃(y:Nat×Int),ZA y.1 n y.2 m/\Qio n y.1 x_2.1/\(IntKind.wrap IntKind.i64 ((NI x_2.1)+Z1)=(NI y.1)/\(if Qbs x_2.2 x_3 m<Zz x_4 m then Zz x_4 m else Qbs x_2.2 x_3 m)=y.2/\True)/\Zw x n)) (Qbr n m x/\∃(y:Nat×Int),ZA y.1 n y.2 m/\Qio n y.1 x_2.1/\Qih x_2.1 y.1 x_2.2 x_3 m y.2 x n)))) (RT (IntKind.wrap IntKind.i64 (x_2.2+Z1)=CE (dpN n) m))))) (by kernel_rfl) ?_
 delta DA GI LN N0 N1 N4 NI SI SM Z0 Z1 ZI Xt KZ Qbo Qh9 Qia Qbp Xu Qib Jk Qic Zv Jl Qbm Xv Qid Zw Q2 Zx Qpz QpA Qie Qif Qig Qh4 Zy JV Qbq QpB Qbr Zz Qbs Qih ZA ZB Zu Qbt Q3 ZC QpC QpD Qii Qij Qik Q4 ZD Qh5 QpE QpF Qil Qim Qin Qio Qh6 Qbn Qh7 Qh8 RT
 try simp only[<- dm]
 try simp only[<- dn]
 simp only[ne_eq,implies_true,Int.toNat_natCast,Bg,Be,decide_eq_true_eq,decide_eq_false_iff_not,true_and,and_true,beq_iff_eq,beq_eq_false_iff_ne,exists_const,forall_const,Prod.exists]
 have hz:=Bfk n
 have k1:=BD (BZ hn).2.1
 have k2:=BD (BZ hn).2.2
 unfold maxLen at k1 k2
 refine⟨fun h2=>?_,fun h2=>?_⟩
 ·unfold CE;split<;>omega
 have w:IntKind.i64.wrap (m-1)=m-1:=Bb (by omega) (by omega)
 rw[w]
 refine⟨⟨0,0,⟨Nat.zero_le _,Int.le_refl _,?_⟩,rfl,rfl⟩,?_⟩
 ·simp only[List.take_zero,dpL];unfold CE;split<;>omega
 rintro ⟨i,d⟩ ⟨i1,d0,hd⟩
 simp only at i1 d0 hd ⊢
 refine⟨fun hlt=>?_,fun hge=>?_⟩
 ·have hlt':i<n.ki.length:=by omega
  have ht:=WG hlt'
  refine⟨⟨by omega,hlt⟩,n.ki.getD i default,⟨BH _ _,by omega,by omega,hk _ (Ci hlt')⟩,i+1,_,⟨hlt',?_,?_⟩,by omega,Bb (by omega) (by omega),rfl⟩
  ·unfold CE;split<;>(try split)<;>omega
  ·rw[ht]
   unfold CE at hd ⊢
   split at hd<;>split<;>(try split)<;>(try split)<;>omega
 ·have e:i=n.ki.length:=by omega
  rw[e,List.take_length] at hd
  refine⟨⟨0,d,⟨Nat.zero_le _,d0,?_⟩,rfl,rfl⟩,?_⟩
  ·simp only[List.take_zero,dpB,Nat.max_zero];exact hd
  rintro ⟨j,c⟩ ⟨j1,c0,hc⟩
  simp only at j1 c0 hc ⊢
  refine⟨fun hlt=>?_,fun hge=>?_⟩
  ·have hlt':j<n.bo.length:=by omega
   have ht:=W6 hlt'
   have hs:=WH (n.bo.getD j default)
   obtain ⟨q1,q2⟩:=hb _ (CT hlt')
   have wj:IntKind.i64.wrap ((j:Int)+1)=((j+1:Nat):Int):=by rw[Bb (by omega) (by omega)];rfl
   refine⟨⟨by omega,hlt⟩,(n.bo.getD j default).nd,⟨BH _ _,by omega,by omega,q2⟩,⟨by omega,hlt⟩,fun h3=>⟨⟨by omega,hlt⟩,(n.bo.getD j default).te,⟨BH _ _,by omega,by omega,q1⟩,j+1,_,⟨hlt',?_,?_⟩,by omega,wj,rfl⟩,fun h3=>⟨j+1,_,⟨hlt',?_,?_⟩,by omega,wj,rfl⟩⟩
   ·generalize dpN (n.bo.getD j default).nd=u
    generalize dpN (n.bo.getD j default).te=v
    unfold CE
    repeat' split
    all_goals omega
   ·rw[ht,hs,if_pos h3]
    generalize dpN (n.bo.getD j default).nd=u
    generalize dpN (n.bo.getD j default).te=v
    generalize dpB (List.take j n.bo)=t at hc
    generalize dpL n.ki=z at hc
    clear hs ht
    unfold CE at hc ⊢
    split at hc<;>repeat' split
    all_goals omega
   ·generalize dpN (n.bo.getD j default).nd=u
    unfold CE
    repeat' split
    all_goals omega
   ·rw[ht,hs,if_neg h3]
    generalize dpN (n.bo.getD j default).nd=u
    generalize dpB (List.take j n.bo)=t at hc
    generalize dpL n.ki=z at hc
    clear hs ht
    unfold CE at hc ⊢
    split at hc<;>repeat' split
    all_goals omega
  ·have e2:j=n.bo.length:=by omega
   rw[e2,List.take_length] at hc
   have cb:c<=60:=by unfold CE at hc;split at hc<;>omega
   rw[Bb (by omega) (by omega),hc,hz]
   unfold CE
   split<;>split<;>omega
theorem WY(n:Nd)(hn:n.sm)(m:Int)(h0:0<=m)(h1:m<=60):RDep n m :=
 Rl (fun b=>b.sm/\SizeOf.sizeOf b<SizeOf.sizeOf n) n m h0 h1 hn (fun b hb m h0 h1=>WY b hb.1 m h0 h1) (fun b hb=>⟨Cv hn (BQ hb),Nd.size_kid hb⟩) fun s hs =>
  have h2:=By (Cu hn s hs)
  have e:=Nd.size_stmt hs
  have e1:=Sm.size_te s
  have e2:=Sm.size_nd s
  ⟨⟨h2.1,by omega⟩,⟨h2.2,by omega⟩⟩
termination_by SizeOf.sizeOf n
decreasing_by exact hb.2
def BA(k:Nat)(m:Int):Int:=if (k:Int)<=m+1 then (k:Int) else m+1
def RCnt(n:Nd)(m:Int):Prop:=CD 76 [.agg n.row2,.int .i64 m] (.int .i64 (BA (szN n) m))
def RCns(l:List Sm)(m:Int):Prop:=CD 46 [gsl 34 Sm.row1 l,.int .i64 m] (.int .i64 (BA (szB l) m))
theorem Mn:∀a b:List Sm,szB (a++b)=szB a+szB b
 | [],b=>by simp only[List.nil_append,szB];omega
 |x::a,b=>by simp only[List.cons_append,szB,Mn a b];omega
theorem Rf{l:List Sm}{i:Nat}(h:i<l.length):szB (l.take (i+1))=szB (l.take i)+szM (l.getD i default):=by
 rw[Cf h,Mn]
 simp only[szB]
 omega
theorem Uk{l:List Nd}{i:Nat}(h:i<l.length):szL (l.take (i+1))=szL (l.take i)+szN (l.getD i default):=by
 rw[Cf h,GR]
 simp only[szL]
 omega
theorem R5(l:List Nd)(i:Nat):szL (l.take i)<=szL l:=by
 have h:=GR (l.take i) (l.drop i)
 rw[List.take_append_drop] at h
 omega
theorem Rh(l:List Sm)(i:Nat):szB (l.take i)<=szB l:=by
 have h:=Mn (l.take i) (l.drop i)
 rw[List.take_append_drop] at h
 omega
theorem Bcz(s:Sm):szM s=if s.kd=3 then szN s.te+szN s.nd else szN s.nd:=by
 cases s
 simp only[szM]
 rfl
theorem BbS(n:Nd):szN n=1+szL n.ki+szB n.bo:=by
 cases n
 simp only[szN]
 rfl
def Mt(p:Nd->Prop):Con:=fun k ds S=>match k with
 |76=>match ds with
  | [_,.int .i64 m]=>some (pE (β:=Nd) ds S (fun b=>.int .i64 (BA (szN b) m)) (fun b=>isN b ds [.int .i64 m]/\0<=m/\m<=16384/\p b))
  |_=>none
 |_=>none
theorem I5{p:Nd->Prop}(h:∀b,p b->∀m,0<=m->m<=16384->RCnt b m):ConOk Tryz.prog (Mt p):=by
 intro k ds S A hh
 unfold Mt at hh
 split at hh
 ·split at hh
  ·injection hh with hh;subst hh
   exact B7 fun b ⟨e,h0,h1,hb⟩=>CD.at_ (CD.isN (h b hb _ h0 h1) e) _
  ·cases hh
 ·cases hh
def OU(p:Nd->Prop)(l:List Sm):Con:=fun k ds S=>match k with
 |46=>match ds with
  | [_,.int .i64 m]=>some (pA ds S (.int .i64 (BA (szB l) m)) (wkL ds [gsl 34 Sm.row1 l,.int .i64 m]/\-1<=m/\m<=16384))
  |_=>none
 |k=>Mt p k ds S
theorem UW{p:Nd->Prop}{l:List Sm}(h:∀b,p b->∀m,0<=m->m<=16384->RCnt b m)(h2:∀m,-1<=m->m<=16384->RCns l m):ConOk Tryz.prog (OU p l):=by
 intro k ds S A hh
 unfold OU at hh
 split at hh
 ·split at hh
  ·injection hh with hh;subst hh
   exact Bm fun ⟨e,h0,h1⟩=>CD.at_ (CD.wk (h2 _ h0 h1) e) _
  ·cases hh
 ·exact I5 h _ _ _ _ hh
noncomputable def Ercs(p:Nd->Prop)(l:List Sm)(m:Int):Senv:={ EC (Mt p) 56 2 [4,5,6,15,39] (fun _=>([],[])) with
 mg:=fun _=>2
 ann:=fun b _ S=>match b with
  |0=>some { slots:=[6,5],keep:=[0,1],α:=Nat×Int,st:=fun y=>([.int .i64 y.1,.int .i64 y.2],S),inv:=fun y=>y.1<=l.length/\y.2=BA (szB (l.take y.1)) m,mu:=fun y=>l.length-y.1 }
  |_=>none }
def ZE(a:Nat)(b:List Sm)(c d:Int):Prop:=a<=LN b/\c=BA (szB (List.take a b)) d
def Xw:Arr:=DA
def JW:Nd:=Nd.mk Z0 Z0 Z0 [] Z0 Z0 Xw [] [] Z0 Z0 Z0
def JX:Sm:=Sm.mk Z0 Z0 [] Z0 JW JW
def Qbu(a:List Sm)(b:Nat):Sm:=List.getD a (Int.toNat (↑b:Int)) JX
def Q5(a:List Sm)(b:Nat):Nd:=Sm.nd (Qbu a b)
def ZF(a:List Sm)(b:Nat):Arr:=Nd.va (Q5 a b)
def QpG(a:List Sm)(b:Nat):List Int:=Arr.sh (ZF a b)
def QpH(a:List Sm)(b:Nat):List Int:=Arr.nu (ZF a b)
def Qip(a:List Sm)(b:Nat):List Arr:=Arr.it (ZF a b)
def Qiq(a:List Sm)(b:Nat):List Nd:=Nd.ki (Q5 a b)
def Qir(a:List Sm)(b:Nat):List Sm:=Nd.bo (Q5 a b)
def ZG(a:Int)(b:Nd)(c:Int):Int:=IntKind.wrap IntKind.i64 (a+BA (szN b) (IntKind.wrap IntKind.i64 (c-a)))
def Q6(a:List Sm)(b:Nat):Nd:=Sm.te (Qbu a b)
def ZH(a:List Sm)(b:Nat):Arr:=Nd.va (Q6 a b)
def QpI(a:List Sm)(b:Nat):List Int:=Arr.sh (ZH a b)
def QpJ(a:List Sm)(b:Nat):List Int:=Arr.nu (ZH a b)
def Qis(a:List Sm)(b:Nat):List Arr:=Arr.it (ZH a b)
def Qit(a:List Sm)(b:Nat):List Nd:=Nd.ki (Q6 a b)
def Qiu(a:List Sm)(b:Nat):List Sm:=Nd.bo (Q6 a b)
def ZJ(a b:Int)(c:Nd):Int:=IntKind.wrap IntKind.i64 (a-ZG b c a)
def Qiv(a b:Int)(c:Nd):List D:=[ZI (ZJ a b c)]
def JY(a:List Sm)(b:Nat):Sm:=List.getD a b JX
def Q7(a:List Sm)(b:Nat):Nd:=Sm.te (JY a b)
def ZK(a:List Sm)(b:Nat):Arr:=Nd.va (Q7 a b)
def QpK(a:List Sm)(b:Nat):List Int:=Arr.sh (ZK a b)
def QpL(a:List Sm)(b:Nat):List Int:=Arr.nu (ZK a b)
def Qiw(a:List Sm)(b:Nat):List Arr:=Arr.it (ZK a b)
def Qix(a:List Sm)(b:Nat):List Nd:=Nd.ki (Q7 a b)
def Qiy(a:List Sm)(b:Nat):List Sm:=Nd.bo (Q7 a b)
def Q8(a:List Sm)(b:Nat):Nd:=Sm.nd (JY a b)
def ZL(a:List Sm)(b:Nat):Arr:=Nd.va (Q8 a b)
def QpM(a:List Sm)(b:Nat):List Int:=Arr.sh (ZL a b)
def QpN(a:List Sm)(b:Nat):List Int:=Arr.nu (ZL a b)
def Qiz(a:List Sm)(b:Nat):List Arr:=Arr.it (ZL a b)
def QiA(a:List Sm)(b:Nat):List Nd:=Nd.ki (Q8 a b)
def QiB(a:List Sm)(b:Nat):List Sm:=Nd.bo (Q8 a b)
def QpO(a:List Sm):D:=D.sl 34 (LN a) (fun i=>[ZI (Sm.kd (JY a i)),ZI (Sm.at_ (JY a i)),D.str (Sm.nm (JY a i)),ZI (Sm.sl (JY a i)),ZI (Nd.kd (Q7 a i)),ZI (Nd.at_ (Q7 a i)),ZI (Nd.cl (Q7 a i)),D.str (Nd.tx (Q7 a i)),ZI (Nd.pr (Q7 a i)),ZI (Nd.op (Q7 a i)),ZI (Arr.k (ZK a i)),SI (QpK a i),SI (QpL a i),D.sl N4 (LN (Qiw a i)) (fun i_1=>Arr.row (List.getD (Qiw a i) i_1 Xw)) Mode.any,D.sl 15 (LN (Qix a i)) (fun i_1=>Nd.row (List.getD (Qix a i) i_1 JW)) Mode.any,D.sl 34 (LN (Qiy a i)) (fun i_1=>Sm.row (List.getD (Qiy a i) i_1 JX)) Mode.any,ZI (Nd.de (Q7 a i)),ZI (Nd.sl (Q7 a i)),ZI (Nd.ss (Q7 a i)),ZI (Nd.kd (Q8 a i)),ZI (Nd.at_ (Q8 a i)),ZI (Nd.cl (Q8 a i)),D.str (Nd.tx (Q8 a i)),ZI (Nd.pr (Q8 a i)),ZI (Nd.op (Q8 a i)),ZI (Arr.k (ZL a i)),SI (QpM a i),SI (QpN a i),D.sl N4 (LN (Qiz a i)) (fun i_1=>Arr.row (List.getD (Qiz a i) i_1 Xw)) Mode.any,D.sl 15 (LN (QiA a i)) (fun i_1=>Nd.row (List.getD (QiA a i) i_1 JW)) Mode.any,D.sl 34 (LN (QiB a i)) (fun i_1=>Sm.row (List.getD (QiB a i) i_1 JX)) Mode.any,ZI (Nd.de (Q8 a i)),ZI (Nd.sl (Q8 a i)),ZI (Nd.ss (Q8 a i))]) Mode.any
def QiC(a:List Sm)(b:Int):Prop:=SM (QpO a)/\SM (ZI b)/\True
def QiD(a:List Sm)(b:Int)(c:Nat)(d:Int)(e:Nd):Prop:=QiC a b/\∃(y:Nat×Int),ZE y.1 a y.2 b/\LN a-y.1<LN a-c/\(IntKind.wrap IntKind.i64 ((↑c:Int)+Z1)=(NI y.1)/\ZG d e b=y.2/\True)/\True/\True
def QiE(a:Int):Int:=IntKind.wrap IntKind.i64 ((if a<(-1:Int) then (-1:Int) else a)+Z1)
def QiF(a b:Int)(c:List Sm):Prop:=True/\∃(_y:Unit),True/\(if QiE a<b then QiE a else b)=BA (szB c) a/\True/\True
theorem MK(p:Nd->Prop)(l:List Sm)(m:Int)(h0:-1<=m)(h1:m<=16384)(hl:l.length<=BX)(h:∀b,p b->∀m,0<=m->m<=16384->RCnt b m)(hb:∀s∈l,p s.te/\p s.nd):RCns l m:=by
 refine Bh (A:=sC _ _) (x:=()) (E:=Ercs p l m) (eOk (I5 h) rfl) Tryz.func46 rfl (by kernel_rfl) rfl (by simp[sC,Ercs,EC,E0]) ?_
 refine Bl (T :=
  (∃(x:Nat×Int),ZE x.1 l x.2 m/\(Z0=(NI x.1)/\Z0=x.2/\True)/\True/\True)/\∀(x:Nat×Int),ZE x.1 l x.2 m->ifB (decide ((NI x.1)<(LI l))) (ifB (decide (x.2<=m)) (Bf (Z0<=(NI x.1)/\(NI x.1)<(LI l)) (∃(x_1:Nd),(isN x_1 [D.agg [ZI (Nd.kd (Q5 l x.1)),ZI (Nd.at_ (Q5 l x.1)),ZI (Nd.cl (Q5 l x.1)),D.str (Nd.tx (Q5 l x.1)),ZI (Nd.pr (Q5 l x.1)),ZI (Nd.op (Q5 l x.1)),ZI (Arr.k (ZF l x.1)),SI (QpG l x.1),SI (QpH l x.1),D.sl N4 (LN (Qip l x.1)) (fun i=>Arr.row (List.getD (Qip l x.1) i Xw)) Mode.any,D.sl 15 (LN (Qiq l x.1)) (fun i=>Nd.row (List.getD (Qiq l x.1) i JW)) Mode.any,D.sl 34 (LN (Qir l x.1)) (fun i=>Sm.row (List.getD (Qir l x.1) i JX)) Mode.any,ZI (Nd.de (Q5 l x.1)),ZI (Nd.sl (Q5 l x.1)),ZI (Nd.ss (Q5 l x.1))],ZI (IntKind.wrap IntKind.i64 (m-x.2))] [ZI (IntKind.wrap IntKind.i64 (m-x.2))]/\Z0<=IntKind.wrap IntKind.i64 (m-x.2)/\IntKind.wrap IntKind.i64 (m-x.2)<=16384/\p x_1)/\∀(y:Unit),True->Bf (Z0<=(NI x.1)/\(NI x.1)<(LI l)) (ifB (Sm.kd (Qbu l x.1)==3) (ifB (decide (ZG x.2 x_1 m<=m)) (Bf (Z0<=(NI x.1)/\(NI x.1)<(LI l)) (∃(x_2:Nd),(isN x_2 (D.agg [ZI (Nd.kd (Q6 l x.1)),ZI (Nd.at_ (Q6 l x.1)),ZI (Nd.cl (Q6 l x.1)),D.str (Nd.tx (Q6 l x.1)),ZI (Nd.pr (Q6 l x.1)),ZI (Nd.op (Q6 l x.1)),ZI (Arr.k (ZH l x.1)),SI (QpI l x.1),SI (QpJ l x.1),D.sl N4 (LN (Qis l x.1)) (fun i=>Arr.row (List.getD (Qis l x.1) i Xw)) Mode.any,D.sl 15 (LN (Qit l x.1)) (fun i=>Nd.row (List.getD (Qit l x.1) i JW)) Mode.any,D.sl 34 (LN (Qiu l x.1)) (fun i=>Sm.row (List.getD (Qiu l x.1) i JX)) Mode.any,ZI (Nd.de (Q6 l x.1)),ZI (Nd.sl (Q6 l x.1)),ZI (Nd.ss (Q6 l x.1))]::Qiv m x.2 x_1) (Qiv m x.2 x_1)/\Z0<=ZJ m x.2 x_1/\ZJ m x.2 x_1<=16384/\p x_2)/\∀(y:Unit),True->QiC l m/\∃(y:Nat×Int),ZE y.1 l y.2 m/\LN l-y.1<LN l-x.1/\(IntKind.wrap IntKind.i64 ((NI x.1)+Z1)=(NI y.1)/\IntKind.wrap IntKind.i64 (ZG x.2 x_1 m+BA (szN x_2) (ZJ m x.2 x_1))=y.2/\True)/\True/\True)) (QiD l m x.1 x.2 x_1)) (QiD l m x.1 x.2 x_1)))) (QiF m x.2 l)) (QiF m x.2 l)) (by kernel_rfl) ?_
 delta DA GI LI LN N1 N4 NI SI SM Z0 Z1 ZI ZE Xw Qiq Qir ZG Q6 ZH QpI QpJ Qis Qit Qiu JW ZJ Qiv JY Q7 ZK QpK QpL Qiw Qix Qiy JX Q8 ZL QpM QpN Qiz QiA QiB QpO QiC QiD Qbu QiE QiF Q5 ZF QpG QpH Qip
 try simp only[<- dm]
 try simp only[<- dn]
 simp only[ne_eq,Int.toNat_natCast,Bg,Be,decide_eq_true_eq,decide_eq_false_iff_not,true_and,and_true,beq_iff_eq,beq_eq_false_iff_ne,exists_const,forall_const,Prod.exists]
 unfold BX at hl
 have fin:∀c:Int,c=BA (szB l) m->(if IntKind.i64.wrap ((if m < -1 then -1 else m)+1)<c then IntKind.i64.wrap ((if m < -1 then -1 else m)+1) else c)=BA (szB l) m:=fun c hc=>by
  rw[if_neg (show ¬m < -1 by omega),Bb (by omega) (by omega),if_neg ?_,hc]
  rw[hc];unfold BA;split<;>omega
 refine⟨⟨0,0,⟨Nat.zero_le _,?_⟩,rfl,rfl⟩,?_⟩
 ·simp only[List.take_zero,szB];unfold BA;split<;>omega
 rintro ⟨i,c⟩ ⟨i1,hc⟩
 simp only at i1 hc ⊢
 have hmono:=Rh l i
 have c0:0<=c/\c<=m+1:=by rw[hc];unfold BA;split<;>omega
 refine⟨fun hlt=>⟨fun hle=>?_,fun hgt=>fin c ?_⟩,fun hge=>fin c ?_⟩
 ·have hlt':i<l.length:=by omega
  have ht:=Rf hlt'
  have hs:=Bcz (l.getD i default)
  obtain ⟨q1,q2⟩:=hb _ (CT hlt')
  have w1:IntKind.i64.wrap (m-c)=m-c:=Bb (by omega) (by omega)
  have wi:IntKind.i64.wrap ((i:Int)+1)=((i+1:Nat):Int):=by rw[Bb (by omega) (by omega)];rfl
  have hu:0<=BA (szN (l.getD i default).nd) (m-c)/\BA (szN (l.getD i default).nd) (m-c)<=m-c+1:=by unfold BA;split<;>omega
  have w2:IntKind.i64.wrap (c+BA (szN (l.getD i default).nd) (m-c))=c+BA (szN (l.getD i default).nd) (m-c):=Bb (by omega) (by omega)
  have e1:c+BA (szN (l.getD i default).nd) (m-c)=BA (szB (l.take i)+szN (l.getD i default).nd) m:=by
   rw[hc] at hle ⊢
   unfold BA at hle ⊢
   split at hle<;>repeat' split
   all_goals omega
  rw[w1]
  refine⟨⟨by omega,hlt⟩,(l.getD i default).nd,⟨BH _ _,by omega,by omega,q2⟩,⟨by omega,hlt⟩,fun h3=>?_,fun h3=>⟨i+1,_,⟨hlt',?_⟩,by omega,wi,rfl⟩⟩
  ·rw[w2,if_pos h3] at *
   refine⟨fun h4=>?_,fun h4=>⟨i+1,_,⟨hlt',?_⟩,by omega,wi,rfl⟩⟩
   ·have w3:IntKind.i64.wrap (m-(c+BA (szN (l.getD i default).nd) (m-c)))=m-(c+BA (szN (l.getD i default).nd) (m-c)):=Bb (by omega) (by omega)
    rw[w3]
    refine⟨⟨by omega,hlt⟩,(l.getD i default).te,⟨BH _ _,by omega,by omega,q1⟩,i+1,_,⟨hlt',?_⟩,by omega,wi,rfl⟩
    have hv:0<=BA (szN (l.getD i default).te) (m-(c+BA (szN (l.getD i default).nd) (m-c)))/\BA (szN (l.getD i default).te) (m-(c+BA (szN (l.getD i default).nd) (m-c)))<=m-(c+BA (szN (l.getD i default).nd) (m-c))+1:=by
     generalize c+BA (szN (l.getD i default).nd) (m-c)=z at *
     unfold BA;split<;>omega
    rw[Bb (by omega) (by omega),ht,hs,e1]
    rw[e1] at h4
    generalize szB (l.take i)=t at *
    generalize szN (l.getD i default).nd=u at *
    generalize szN (l.getD i default).te=v at *
    clear e1 w1 w2 w3 hu hv hc c0 ht hs
    unfold BA at h4 ⊢
    split at h4<;>repeat' split
    all_goals omega
   ·rw[ht,hs,e1]
    rw[e1] at h4
    generalize szB (l.take i)=t at *
    generalize szN (l.getD i default).nd=u at *
    generalize szN (l.getD i default).te=v at *
    clear e1 w1 w2 hu hc c0 ht hs
    unfold BA at h4 ⊢
    split at h4<;>repeat' split
    all_goals omega
  ·rw[w2,ht,hs,if_neg h3,e1]
 ·rw[hc] at hgt ⊢
  unfold BA at hgt ⊢
  split at hgt<;>repeat' split
  all_goals omega
 ·have e:i=l.length:=by omega
  rw[e,List.take_length] at hc
  exact hc
noncomputable def Erct(p:Nd->Prop)(n:Nd)(m:Int):Senv:={ EC (OU p n.bo) 41 3 [4,5,6,16] (fun _=>([],[])) with
 mg:=fun _=>2
 ann:=fun b _ S=>match b with
  |0=>some { slots:=[6,5],keep:=[0,1,2],α:=Nat×Int,st:=fun y=>([.int .i64 y.1,.int .i64 y.2],S),inv:=fun y=>y.1<=n.ki.length/\y.2=BA (1+szL (n.ki.take y.1)) m,mu:=fun y=>n.ki.length-y.1 }
  |_=>none }
def ZM(a:Nd):List Nd:=Nd.ki a
def K0(a:Nd):Nat:=LN (ZM a)
def Qbv(a:Nat)(b:Nd)(c d:Int):Prop:=a<=K0 b/\c=BA (N1+szL (List.take a (ZM b))) d
def QiG(a:Nd):Int:=Nd.at_ a
def ZN(a:Nd):Arr:=Nd.va a
def QiH(a:Nd):Int:=Arr.k (ZN a)
def QiI(a:Nd):List Int:=Arr.sh (ZN a)
def Qbw(a:Nd):Nat:=LN (QiI a)
def QiJ(a:Nd)(b:Nat):List D:=[ZI (GI (QiI a) b)]
def QiK(a:Nd):List Int:=Arr.nu (ZN a)
def Qbx(a:Nd):Nat:=LN (QiK a)
def QiL(a:Nd)(b:Nat):List D:=[ZI (GI (QiK a) b)]
def QiM(a:Nd):List Arr:=Arr.it (ZN a)
def Qby(a:Nd):Nat:=LN (QiM a)
def Qbz:Arr:=DA
def QiN(a:Nd)(b:Nat):List D:=Arr.row (List.getD (QiM a) b Qbz)
def Xx:Nd:=Nd.mk Z0 Z0 Z0 [] Z0 Z0 Qbz [] [] Z0 Z0 Z0
def QiO(a:Nd)(b:Nat):List D:=Nd.row1 (List.getD (ZM a) b Xx)
def QbA(a:Nd):Nat:=LN (Nd.bo a)
def QiP:Sm:=Sm.mk Z0 Z0 [] Z0 Xx Xx
def QiQ(a:Nd)(b:Nat):List D:=Sm.row1 (List.getD (Nd.bo a) b QiP)
def QiR(a:Nat)(b:Nd):Prop:=(SM a/\(SM (Nd.kd b)/\SM (QiG b)/\SM (Nd.cl b)/\SM (Nd.tx b)/\SM (Nd.pr b)/\SM (Nd.op b)/\SM (QiH b)/\(SM (Qbw b)/\(∀(i:Nat),i<Qbw b->SM (QiJ b i))/\True)/\(SM (Qbx b)/\(∀(i:Nat),i<Qbx b->SM (QiL b i))/\True)/\(SM (Qby b)/\(∀(i:Nat),i<Qby b->SM (QiN b i))/\True)/\(SM (K0 b)/\(∀(i:Nat),i<K0 b->SM (QiO b i))/\True)/\(SM (QbA b)/\(∀(i:Nat),i<QbA b->SM (QiQ b i))/\True)/\SM (Nd.de b)/\SM (Nd.sl b)/\SM (Nd.ss b)/\True)/\True)/\True
def Q9(a:Nd)(b:Nat):Nd:=List.getD (ZM a) (Int.toNat (↑b:Int)) Xx
def ZO(a:Nd)(b:Nat):Arr:=Nd.va (Q9 a b)
def QpP(a:Nd)(b:Nat):List Int:=Arr.sh (ZO a b)
def QpQ(a:Nd)(b:Nat):List Int:=Arr.nu (ZO a b)
def QiS(a:Nd)(b:Nat):List Arr:=Arr.it (ZO a b)
def QiT(a:Nd)(b:Nat):List Nd:=Nd.ki (Q9 a b)
def QiU(a:Nd)(b:Nat):List Sm:=Nd.bo (Q9 a b)
def Jm(a b:Int):Int:=IntKind.wrap IntKind.i64 (a-b)
def QbB(a b:Int):List D:=[ZI (Jm a b)]
def QiV(a:Nd):D:=D.sl 34 (QbA a) (fun i=>QiQ a i) Mode.any
def QpR(a:Nd):D:=D.agg [ZI (Nd.kd a),ZI (QiG a),ZI (Nd.cl a),D.str (Nd.tx a),ZI (Nd.pr a),ZI (Nd.op a),ZI (QiH a),D.sl N1 (Qbw a) (fun i=>QiJ a i) Mode.any,D.sl N1 (Qbx a) (fun i=>QiL a i) Mode.any,D.sl N4 (Qby a) (fun i=>QiN a i) Mode.any,D.sl 15 (K0 a) (fun i=>QiO a i) Mode.any,QiV a,ZI (Nd.de a),ZI (Nd.sl a),ZI (Nd.ss a)]
def QiW(a:Nd)(b c:Int):List D:=QiV a::QbB b c
def QiX(a:Int)(b:Nd)(c:Int):Int:=IntKind.wrap IntKind.i64 (a+BA (szB (Nd.bo b)) (Jm c a))
def QiY(a:Nat)(b:Nd)(c d:Int):Prop:=SM a/\∃(_x:Unit),(wkL (QiW b c d) (QiW b c d)/\(-1:Int)<=Jm c d/\Jm c d<=16384)/\∀(_y:Unit),True->True/\∃(_y:Unit),True/\(if IntKind.wrap IntKind.i64 (c+Z1)<QiX d b c then IntKind.wrap IntKind.i64 (c+Z1) else QiX d b c)=BA (szN b) c/\True/\True
theorem RJ(p:Nd->Prop)(n:Nd)(m:Int)(h0:0<=m)(h1:m<=16384)(hn:n.sm)(h:∀b,p b->∀m,0<=m->m<=16384->RCnt b m)(hk:∀b∈n.ki,p b)(hb:∀s∈n.bo,p s.te/\p s.nd):RCnt n m:=by
 refine Bh (A:=sC _ _) (x:=()) (E:=Erct p n m) (eOk (UW h fun m h0 h1=>MK p n.bo m h0 h1 (BZ hn).2.2 h hb) rfl) Tryz.func76 rfl (by kernel_rfl) rfl (by simp[sC,Erct,EC,E0]) ?_
 refine Bl (T :=
  ∀(x:Nat),True->(∃(x_1:Nat×Int),Qbv x_1.1 n x_1.2 m/\(Z0=(NI x_1.1)/\Z1=x_1.2/\True)/\QiR x n)/\∀(x_1:Nat×Int),Qbv x_1.1 n x_1.2 m->SM x/\ifB (decide ((NI x_1.1)<(NI (K0 n)))) (ifB (decide (x_1.2<=m)) (SM x/\Bf (Z0<=(NI x_1.1)/\(NI x_1.1)<(NI (K0 n))) (∃(x_2:Nd),(isN x_2 (D.agg [ZI (Nd.kd (Q9 n x_1.1)),ZI (Nd.at_ (Q9 n x_1.1)),ZI (Nd.cl (Q9 n x_1.1)),D.str (Nd.tx (Q9 n x_1.1)),ZI (Nd.pr (Q9 n x_1.1)),ZI (Nd.op (Q9 n x_1.1)),ZI (Arr.k (ZO n x_1.1)),SI (QpP n x_1.1),SI (QpQ n x_1.1),D.sl N4 (LN (QiS n x_1.1)) (fun i=>Arr.row (List.getD (QiS n x_1.1) i Qbz)) Mode.any,D.sl 15 (LN (QiT n x_1.1)) (fun i=>Nd.row (List.getD (QiT n x_1.1) i Xx)) Mode.any,D.sl 34 (LN (QiU n x_1.1)) (fun i=>Sm.row (List.getD (QiU n x_1.1) i QiP)) Mode.any,ZI (Nd.de (Q9 n x_1.1)),ZI (Nd.sl (Q9 n x_1.1)),ZI (Nd.ss (Q9 n x_1.1))]::QbB m x_1.2) (QbB m x_1.2)/\Z0<=Jm m x_1.2/\Jm m x_1.2<=16384/\p x_2)/\∀(y:Unit),True->(SM (QpR n)/\SM (ZI m)/\SM (D.ref N0 x N0)/\True)/\∃(y:Nat×Int),Qbv y.1 n y.2 m/\K0 n-y.1<K0 n-x_1.1/\(IntKind.wrap IntKind.i64 ((NI x_1.1)+Z1)=(NI y.1)/\IntKind.wrap IntKind.i64 (x_1.2+BA (szN x_2) (Jm m x_1.2))=y.2/\True)/\QiR x n)) (QiY x n m x_1.2)) (QiY x n m x_1.2)) (by kernel_rfl) ?_
 delta DA GI LN N0 N1 N4 NI SI SM Z0 Z1 ZI ZM K0 Qbv QiG ZN QiH QiI Qbw QiJ QiK Qbx QiL QiM Qby Qbz QiN Xx QiO QbA QiP QiQ QiR Q9 ZO QpP QpQ QiS QiT QiU Jm QbB QiV QpR QiW QiX QiY
 try simp only[<- dm]
 try simp only[<- dn]
 simp only[implies_true,Int.toNat_natCast,Bg,Be,decide_eq_true_eq,decide_eq_false_iff_not,true_and,and_true,exists_const,forall_const,Prod.exists]
 have k1:=BD (BZ hn).2.1
 unfold maxLen at k1
 have hz:=BbS n
 have fin:∀c:Int,0<=c/\c<=m+1->c=BA (1+szL n.ki) m->(wkL [D.sl 34 n.bo.length (fun i=>(n.bo.getD i default).row1) Mode.any,.int .i64 (IntKind.i64.wrap (m-c))] [D.sl 34 n.bo.length (fun i=>(n.bo.getD i default).row1) Mode.any,.int .i64 (IntKind.i64.wrap (m-c))]/\-1<=IntKind.i64.wrap (m-c)/\IntKind.i64.wrap (m-c)<=16384)/\(if IntKind.i64.wrap (m+1)<IntKind.i64.wrap (c+BA (szB n.bo) (IntKind.i64.wrap (m-c))) then IntKind.i64.wrap (m+1) else IntKind.i64.wrap (c+BA (szB n.bo) (IntKind.i64.wrap (m-c))))=BA (szN n) m:=fun c c0 hc=>by
  have w1:IntKind.i64.wrap (m-c)=m-c:=Bb (by omega) (by omega)
  have w2:IntKind.i64.wrap (m+1)=m+1:=Bb (by omega) (by omega)
  have hv:0<=BA (szB n.bo) (m-c)/\BA (szB n.bo) (m-c)<=m-c+1:=by unfold BA;split<;>omega
  rw[w1,w2,Bb (show (-9223372036854775808:Int)<=c+BA (szB n.bo) (m-c) by omega) (by omega)]
  refine⟨⟨Bc _,by omega,by omega⟩,?_⟩
  rw[if_neg (by omega),hz]
  clear hv w1 w2 c0
  generalize szL n.ki=t at *
  generalize szB n.bo=u at *
  rw[hc]
  unfold BA
  repeat' split
  all_goals omega
 refine⟨⟨0,1,⟨Nat.zero_le _,?_⟩,rfl,rfl⟩,?_⟩
 ·simp only[List.take_zero,szL];unfold BA;split<;>omega
 rintro ⟨i,c⟩ ⟨i1,hc⟩
 simp only at i1 hc ⊢
 have hmono:=R5 n.ki i
 have c0:0<=c/\c<=m+1:=by rw[hc];unfold BA;split<;>omega
 refine⟨fun hlt=>⟨fun hle=>?_,fun hgt=>fin c c0 ?_⟩,fun hge=>fin c c0 ?_⟩
 ·have hlt':i<n.ki.length:=by omega
  have ht:=Uk hlt'
  have w1:IntKind.i64.wrap (m-c)=m-c:=Bb (by omega) (by omega)
  have hu:0<=BA (szN (n.ki.getD i default)) (m-c)/\BA (szN (n.ki.getD i default)) (m-c)<=m-c+1:=by unfold BA;split<;>omega
  rw[w1]
  refine⟨⟨by omega,hlt⟩,n.ki.getD i default,⟨BH _ _,by omega,by omega,hk _ (Ci hlt')⟩,i+1,_,⟨hlt',?_⟩,by omega,by rw[Bb (by omega) (by omega)];rfl,rfl⟩
  rw[Bb (by omega) (by omega),ht]
  clear hu w1 c0
  generalize szL (n.ki.take i)=t at *
  generalize szN (n.ki.getD i default)=u at *
  rw[hc] at hle ⊢
  unfold BA at hle ⊢
  split at hle<;>repeat' split
  all_goals omega
 ·rw[hc] at hgt ⊢
  unfold BA at hgt ⊢
  split at hgt<;>repeat' split
  all_goals omega
 ·have e:i=n.ki.length:=by omega
  rw[e,List.take_length] at hc
  exact hc
theorem Bae(n:Nd)(hn:n.sm)(m:Int)(h0:0<=m)(h1:m<=16384):RCnt n m :=
 RJ (fun b=>b.sm/\SizeOf.sizeOf b<SizeOf.sizeOf n) n m h0 h1 hn (fun b hb m h0 h1=>Bae b hb.1 m h0 h1) (fun b hb=>⟨Cv hn (BQ hb),Nd.size_kid hb⟩) fun s hs =>
  have h2:=By (Cu hn s hs)
  have e:=Nd.size_stmt hs
  have e1:=Sm.size_te s
  have e2:=Sm.size_nd s
  ⟨⟨h2.1,by omega⟩,⟨h2.2,by omega⟩⟩
termination_by SizeOf.sizeOf n
decreasing_by exact hb.2
theorem Bcr(l:List Sm)(hl:l.length<=BX)(hs:∀s∈l,s.sm)(m:Int)(h0:-1<=m)(h1:m<=16384):RCns l m :=
 MK Nd.sm l m h0 h1 hl (fun b hb m h0 h1=>Bae b hb m h0 h1) fun s h=>By (hs s h)
end
end Go.Proofs.YtfbfnhbafjmnaaaGreat
