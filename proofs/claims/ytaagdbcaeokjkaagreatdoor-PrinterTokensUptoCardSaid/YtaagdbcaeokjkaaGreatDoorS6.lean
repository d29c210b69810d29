/- Functions of the given program and what each of them computes: lemmas towards the statement, their conditions stated with each of them. -/
import Derived.Test.YtaagdbcaeokjkaaGreatDoorS5
namespace Go.Proofs.YtaagdbcaeokjkaaGreatDoor
open Go Go.Ab
set_option maxRecDepth 100000
noncomputable section
def lxK:Lex->Int | .error _=>0 | .ok (k,_,_,_)=>k
def lxL:Lex->Int | .error _=>0 | .ok (_,len,_,_)=>len
def lxN:Lex->Int | .error _=>0 | .ok (_,_,num,_)=>num
def lxT:Lex->List UInt8 | .error _=>[] | .ok (_,_,_,text)=>text
def lxE:Lex->Int | .error (e,_)=>e | .ok _=>0
def lxA(p:Nat):Lex->Int | .error (_,o)=>((p+o:Nat):Int) | .ok _=>0
def lxG(r:Lex):D:=.agg [.int .i64 (lxK r),.int .i64 0,.int .i64 (lxL r),.int .i64 (lxN r),.str (lxT r)]
theorem Oi(r:Lex):Wo r=.tup [lxG r,.int .i64 (lxE r)]:=by
 cases r<;>rfl
theorem Bev(p:Nat)(r:Lex):Bhu p r=.tup [lxG r,.int .i64 (lxA p r),.int .i64 (lxE r)]:=by
 cases r<;>rfl
def BiO(x:Nat)(s:List UInt8)(p:Nat)(l:D):Con:=fun k ds S=>match k with
 |55=>some (R0 [.ref 0 x 0] (scS x s p l) (.tup [lxG (Gj (s.drop p)),.int .i64 (lxE (Gj (s.drop p)))]) (p<s.length/\s.length<=4294967296))
 |57=>some (R0 [.ref 0 x 0] (scS x s p l) (.tup [lxG (E4 (s.drop p)),.int .i64 (lxE (E4 (s.drop p)))]) (p<s.length/\s.length<=4294967296))
 |59=>some (R0 [.ref 0 x 0] (scS x s p l) (.tup [lxG (Ma (s.drop p)),.int .i64 (lxE (Ma (s.drop p)))]) (p<s.length/\s.length<=4294967296))
 |58=>match ds with
  | [_,.int .u8 c]=>some (R0 [.ref 0 x 0,.int .u8 c] (scS x s p l) (.tup [lxG (if c=34 then TT (s.drop p) else GV (s.drop p)),.int .i64 (lxA p (if c=34 then TT (s.drop p) else GV (s.drop p))),.int .i64 (lxE (if c=34 then TT (s.drop p) else GV (s.drop p)))]) ((c=34\/c=39)/\p<s.length/\s.length<=4294967296))
  |_=>none
 |k=>Bge x s p l k ds S
theorem BiZ(x:Nat)(s:List UInt8)(p:Nat)(l:D):ConOk Tryz.prog (BiO x s p l):=by
 intro k ds S A h
 unfold BiO at h
 split at h
 ·injection h with h;subst h
  refine ConOk.plain (Gm fun ⟨h1,h2⟩=>?_) rfl rfl
  rw[<- Oi];exact Bnj x s p l h1 h2
 ·injection h with h;subst h
  refine ConOk.plain (Gm fun ⟨h1,h2⟩=>?_) rfl rfl
  rw[<- Oi];exact BnG x s p l h1 h2
 ·injection h with h;subst h
  refine ConOk.plain (Gm fun ⟨h1,h2⟩=>?_) rfl rfl
  rw[<- Oi];exact BmR x s p l h1 h2
 ·split at h
  ·injection h with h;subst h
   refine ConOk.plain (Gm fun ⟨h0,h1,h2⟩=>?_) rfl rfl
   rw[<- Bev]
   rcases h0 with rfl | rfl
   ·rw[if_pos rfl];exact BlI x s p l h1 h2
   ·rw[if_neg (by decide)];exact Bi3 x s p l h1 h2
  ·cases h
 ·exact BcV x s p l _ _ _ _ h
def BiQ(r:Lex)(z:Int):D:=.tup [lxG r,.int .i64 z,.int .i64 (lxE r)]
def Rt(p:Nat)(r:Lex)(z:Int):Prop:=∀e o,r=.error (e,o)->z=((p+o:Nat):Int)
theorem Bjl(p:Nat)(r:Lex):Rt p r (lxA p r):=by
 intro e o h
 subst h;rfl
theorem MR{p:Nat}{r:Lex}(h:∀e o,r=.error (e,o)->o=0):Rt p r (p:Int):=by
 intro e o he
 rw[h e o he];rfl
theorem BcZ(r:List UInt8):∀e o,Gj r=.error (e,o)->o=0:=by
 intro e o h
 unfold Gj at h
 simp only at h
 repeat' split at h
 all_goals first
  |(injection h with h;injection h with _ h;exact h.symm)
  |cases h
theorem BhG(r:List UInt8):∀e o,E4 r=.error (e,o)->o=0:=by
 intro e o h
 unfold E4 at h
 simp only at h
 repeat' split at h
 all_goals first
  |(injection h with h;injection h with _ h;exact h.symm)
  |cases h
theorem Blw(r:List UInt8):∀e o,Ma r=.error (e,o)->o=0:=by
 intro e o h
 unfold Ma at h
 repeat' split at h
 all_goals first
  |(injection h with h;injection h with _ h;exact h.symm)
  |cases h
theorem OW{p:Nat}{t r:Lex}{z:Int}(ht:t=r)(hz:Rt p r z):∃y,Rt p t y/\(lxK r=lxK t/\lxL r=lxL t/\lxN r=lxN t/\lxT r=lxT t)/\z=y/\lxE r=lxE t:=by
 subst ht
 exact⟨z,hz,⟨rfl,rfl,rfl,rfl⟩,rfl,rfl⟩
noncomputable def EonK(x:Nat)(s:List UInt8)(p:Nat)(l:D):Senv:=EC (BiO x s p l) 69 1 [2,3,4,5,6,7,22,30,42,50] (fun id=>match id with | 1=>([0,1,2,3,4,5,6,7,8,9],[]) | 13=>([0,1,2,3,4,5,6,7,8],[6]) | _=>([],[]))
def Qp(a:List UInt8)(b:Nat):Int:=(BI a (Int.toNat (↑b:Int)))
def Qfg(a:List UInt8)(b:Nat):Bool:=bif Qp a b==10 then true else Qp a b==59
def Qaw(a b:Nat):Prop:=SM a/\SM (ZI (↑b:Int))
def VG(a:Nat)(b:List UInt8):Lex:=B4 (List.drop a b)
def XK(a:Nat)(b:List UInt8)(c:Int):Prop:=Rt a (VG a b) c
def XL(a:Nat)(b:List UInt8):Int:=lxK (VG a b)
def XM(a:Nat)(b:List UInt8):Int:=lxL (VG a b)
def XN(a:Nat)(b:List UInt8):Int:=lxN (VG a b)
def XO(a:Nat)(b:List UInt8):List UInt8:=lxT (VG a b)
def XP(a:Nat)(b:List UInt8):Int:=lxE (VG a b)
def K6(a:Nat)(b:List UInt8)(c:Nat)(d:D):Prop:=(SM a/\(SM b/\SM (↑c:Int)/\Bg d d/\True)/\True)/\True
def Qtw(a:List UInt8)(b:Nat):Prop:=Z0<=Qp a b/\Qp a b<256
def Qax(a:Nat)(b:List UInt8):Prop:=a<LN b/\LN b<=4294967296
def XQ(a:Nat)(b:List UInt8):Lex:=Gj (List.drop a b)
def Qtx(a:Nat)(b:List UInt8)(c:Nat)(d:D)(e f:Nat):Prop:=∃(_x:Unit),(SM a/\True)/\K6 a b c d/\Qax c b/\∀(_y:Unit),True->SM e/\SM e/\SM a/\SM f/\Qaw a c/\(SM f/\True)/\∃(y:Int),XK c b y/\((lxK (XQ c b)=XL c b/\SM Z0/\lxL (XQ c b)=XM c b/\lxN (XQ c b)=XN c b/\lxT (XQ c b)=XO c b/\True)/\(↑c:Int)=y/\lxE (XQ c b)=XP c b/\True)/\K6 a b c d
def XR(a:Nat)(b:List UInt8):Lex:=E4 (List.drop a b)
def Qfh(a:List UInt8)(b:Nat):Bool:=bif Qp a b==34 then true else Qp a b==39
def VH(a:List UInt8)(b:Nat):Lex:=if Qp a b=34 then TT (List.drop b a) else GV (List.drop b a)
def XS(a:Nat)(b:List UInt8):Lex:=Ma (List.drop a b)
theorem Bnh(x : Nat)(s : List UInt8)(p : Nat)(l : D)(hp : p<s.length)(hs : s.length<=4294967296) :
  ACalls Tryz.prog 31 [.ref 0 x 0] (scS x s p l) (SpecR (G4 [.ref 0 x 0] (scS x s p l) (BiQ (B4 (s.drop p))) (Rt p (B4 (s.drop p))) True) ()):=by
 refine Bf (A:=G4 _ _ _ _ _) (x:=()) (E:=EonK x s p l) (eOk (BiZ x s p l) rfl) Tryz.func31 rfl (by kernel_rfl) rfl (by simp[G4,EonK,EC,E0]) ?_
 refine Bk (T :=
  ∀(x_1:Nat),x≠x_1/\True->SM x/\SM x/\Be (Z0<=(↑p:Int)/\(↑p:Int)<(LI s)) (∀(x_2:Nat),x_1≠x_2/\x≠x_2/\True->ifB (Qp s p==10) (true=Qfg s p/\True) ((Qp s p==59)=Qfg s p/\True)/\ifB (Qfg s p) (SM x_2/\SM x_2/\SM x/\SM x_1/\Qaw x p/\(SM x_1/\True)/\∃(y:Int),XK p s y/\(((6:Int)=XL p s/\SM Z0/\Z1=XM p s/\Z0=XN p s/\CN (List UInt8) [] (XO p s)/\True)/\(↑p:Int)=y/\Z0=XP p s/\True)/\K6 x s p l) (Qtw s p/\∀(y:Unit),True->ifB (dig (UInt8.ofNat (Int.toNat (Qp s p)))) (Qtx x s p l x_2 x_1) (ifB (Qp s p==95) (Qtx x s p l x_2 x_1) (Qtw s p/\∀(y:Unit),True->ifB (alp (UInt8.ofNat (Int.toNat (Qp s p)))) (∃(x_3:Unit),(SM x/\True)/\K6 x s p l/\Qax p s/\∀(y:Unit),True->SM x_2/\SM x_2/\SM x/\SM x_1/\Qaw x p/\(SM x_1/\True)/\∃(y:Int),XK p s y/\((lxK (XR p s)=XL p s/\SM Z0/\lxL (XR p s)=XM p s/\lxN (XR p s)=XN p s/\lxT (XR p s)=XO p s/\True)/\(↑p:Int)=y/\lxE (XR p s)=XP p s/\True)/\K6 x s p l) (ifB (Qp s p==34) (true=Qfh s p/\True) ((Qp s p==39)=Qfh s p/\True)/\ifB (Qfh s p) (∃(x_3:Unit),(SM x/\SM (Qp s p)/\True)/\K6 x s p l/\((Qp s p=34\/Qp s p=39)/\Qax p s)/\∀(y:Unit),True->SM x_1/\(SM x_1/\True)/\∃(y:Int),XK p s y/\((lxK (VH s p)=XL p s/\SM Z0/\lxL (VH s p)=XM p s/\lxN (VH s p)=XN p s/\lxT (VH s p)=XO p s/\True)/\lxA p (VH s p)=y/\lxE (VH s p)=XP p s/\True)/\K6 x s p l) (∃(x_3:Unit),(SM x/\True)/\K6 x s p l/\Qax p s/\∀(y:Unit),True->SM x_2/\SM x_2/\SM x/\SM x_1/\Qaw x p/\(SM x_1/\True)/\∃(y:Int),XK p s y/\((lxK (XS p s)=XL p s/\SM Z0/\lxL (XS p s)=XM p s/\lxN (XS p s)=XN p s/\lxT (XS p s)=XO p s/\True)/\(↑p:Int)=y/\lxE (XS p s)=XP p s/\True)/\K6 x s p l))))))) (by kernel_rfl) ?_
 delta BI LI LN SM U0 Z0 Z1 ZI Qp Qfg K6 Qtw Qax XQ Qtx XR Qfh VH XS Qaw VG XK XL XM XN XO XP
 simp only[eq_self,ne_eq,Bd,Int.toNat_natCast,Bh,Bc,true_and,and_true,beq_iff_eq,Bool.cond_true_left,Bool.or_eq_true,Bool.or_eq_false_iff,beq_eq_false_iff_ne,exists_const,forall_const]
 have ku:∀(b:UInt8) (n:Nat),n<256->((b.toNat:Int)=(n:Int)↔b=UInt8.ofNat n):=fun b n hn=>⟨fun h=>M4 h hn,fun h=>by rw[h,BX n hn]⟩
 have k10:∀b:UInt8,(b.toNat:Int)=10↔b=10:=fun b=>ku b 10 (by decide)
 have k59:∀b:UInt8,(b.toNat:Int)=59↔b=59:=fun b=>ku b 59 (by decide)
 have k95:∀b:UInt8,(b.toNat:Int)=95↔b=95:=fun b=>ku b 95 (by decide)
 have k34:∀b:UInt8,(b.toNat:Int)=34↔b=34:=fun b=>ku b 34 (by decide)
 have k39:∀b:UInt8,(b.toNat:Int)=39↔b=39:=fun b=>ku b 39 (by decide)
 have hob:∀b:UInt8,UInt8.ofNat b.toNat=b:=fun b=>by simp
 have e0:(s.drop p).getD 0 0=s.getD p 0:=by simp[List.getD_eq_getElem?_getD]
 have hlt:=(s.getD p 0).toNat_lt
 have orT:∀ {P Q:Bool},P=true->true=(P||Q):=fun h=>by rw[h];rfl
 have orF:∀ {P Q:Bool},P=false->Q=(P||Q):=fun h=>by rw[h];rfl
 have hT:B4 (s.drop p)=(if s.getD p 0=10\/s.getD p 0=59 then .ok (6,1,0,[]) else if (dig (s.getD p 0)||s.getD p 0==95)=true then Gj (s.drop p) else if alp (s.getD p 0)=true then E4 (s.drop p) else if s.getD p 0=34 then TT (s.drop p) else if s.getD p 0=39 then GV (s.drop p) else Ma (s.drop p)):=by
  unfold B4
  simp only[e0]
 simp only[k10,k59,k95,k34,k39,hob]
 intro x1 _
 refine⟨by omega,fun x2 _=>⟨⟨fun h=>orT (by rw[beq_iff_eq];exact (k10 _).2 h),fun h=>orF (by simpa using fun q=>h ((k10 _).1 q))⟩,fun h=>?_,fun ⟨n1,n2⟩=>⟨by omega,fun hd=>⟨⟨hp,hs⟩,OW ?_ (MR (BcZ _))⟩,fun hd=>⟨fun h95=>⟨⟨hp,hs⟩,OW ?_ (MR (BcZ _))⟩,fun n95=>⟨by omega,fun ha=>⟨⟨hp,hs⟩,OW ?_ (MR (BhG _))⟩,fun na=>⟨⟨fun h=>orT (by rw[beq_iff_eq];exact (k34 _).2 h),fun h=>orF (by simpa using fun q=>h ((k34 _).1 q))⟩,fun h=>⟨⟨h,hp,hs⟩,OW ?_ (Bjl _ _)⟩,fun ⟨n34,n39⟩=>⟨⟨hp,hs⟩,OW ?_ (MR (Blw _))⟩⟩⟩⟩⟩⟩⟩
 ·rw[hT,if_pos h]
  exact⟨p,fun e o h=>(by cases h),⟨rfl,rfl,rfl,rfl⟩,rfl,rfl⟩
 ·rw[hT,if_neg (by rintro (h | h)<;>contradiction),if_pos (by rw[hd];rfl)]
 ·rw[hT,if_neg (by rintro (h | h)<;>contradiction),if_pos (by rw[h95];decide)]
 ·have hb:(s.getD p 0==95)=false:=by simpa using n95
  rw[hT,if_neg (by rintro (h | h)<;>contradiction),if_neg (by rw[hd,hb];decide),if_pos ha]
 ·have hb:(s.getD p 0==95)=false:=by simpa using n95
  rw[hT,if_neg (by rintro (h | h)<;>contradiction),if_neg (by rw[hd,hb];decide),if_neg (by rw[na];decide)]
  by_cases h34:s.getD p 0=34
  ·rw[if_pos h34,if_pos h34]
  ·rw[if_neg h34,if_neg h34,if_pos (h.resolve_left h34)]
 ·have hb:(s.getD p 0==95)=false:=by simpa using n95
  rw[hT,if_neg (by rintro (h | h)<;>contradiction),if_neg (by rw[hd,hb];decide),if_neg (by rw[na];decide),if_neg n34,if_neg n39]
def sCh(args:List D)(S S':St)(d:D)(p:Prop):FnSpec where
 β:=Unit
 α:=Unit
 args:=fun _=>args
 st:=fun _=>S
 pre:=fun _=>p
 post:=fun _ _=>True
 res:=fun _ _=>.ret d
 out:=fun _ _=>S'
def BjD(x:Nat)(s:List UInt8)(l:D):Con:=fun k ds _S=>match k with
 |52=>match ds with
  | [_,.int .i64 a,.fn (.func 53) [] []]=>some (R0 [.ref 0 x 0,.int .i64 a,.fn (.func 53) [] []] (scS x s a l) (.int .i64 (BC nln s a.toNat:Nat)) (0<=a/\a<=s.length/\s.length<=By))
  |_=>none
 |_=>none
theorem Bma(x:Nat)(s:List UInt8)(l:D):ConOk Tryz.prog (BjD x s l):=by
 have nn:∀ {a:Int},0<=a->((a.toNat:Nat):Int)=a:=fun h=>by omega
 intro k ds S A h
 unfold BjD at h
 split at h
 ·split at h
  ·rename_i a
   injection h with h;subst h
   refine ConOk.plain (Gm fun ⟨h1,h2,h3⟩=>?_) rfl rfl
   have h2':=Int.toNat_le.2 h2
   have:=BfB x s a l _ h2' h3
   rw[nn h1] at this
   exact this
  ·cases h
 ·cases h
theorem Baf:∀r:List UInt8,BK true r=(r.takeWhile nln).length
 | []=>rfl
 |b::r=>by
  simp only[BK]
  by_cases h:b=10
  ·have hq:¬nln b=true:=by rw[h];decide
   rw[if_pos h,List.takeWhile_cons,if_neg hq];rfl
  ·have hq:nln b=true:=by unfold nln;simpa using h
   rw[if_neg h,List.takeWhile_cons,if_pos hq,List.length_cons,Baf r]
theorem W6:∀r:List UInt8,BK false (r.drop (r.takeWhile nln).length)=0
 | []=>rfl
 |b::r=>by
  by_cases h:b=10
  ·have hq:¬nln b=true:=by rw[h];decide
   rw[List.takeWhile_cons,if_neg hq,h];rfl
  ·have hq:nln b=true:=by unfold nln;simpa using h
   rw[List.takeWhile_cons,if_pos hq,List.length_cons,List.drop_succ_cons,W6 r]
theorem Bbr{s:List UInt8}{a:Nat}(h:a<s.length):BK false (s.drop a)=if BaP (s.getD a 0)=true then BK false (s.drop (a+1))+1 else if s.getD a 0=35 then BK true (s.drop (a+1))+1 else 0:=by
 rw[List.drop_eq_getElem_cons h]
 simp only[BK]
 rw[List.getD_eq_getElem?_getD,List.getElem?_eq_getElem h];rfl
theorem BjE{s:List UInt8}{a:Nat}(h:¬a<s.length):BK false (s.drop a)=0:=by
 rw[List.drop_eq_nil_of_le (by omega)];rfl
theorem Bku{s:List UInt8}{a:Nat}(h:a<s.length)(h35:s.getD a 0=35):a+BK false (s.drop a)=BC nln s a/\BK false (s.drop (BC nln s a))=0/\a<BC nln s a:=by
 have hn:nln (s.getD a 0)=true:=by rw[h35];decide
 have hy:=Mm h hn
 rw[Bbr h,if_neg (by rw[h35];decide),if_pos h35,Baf,<- hy]
 have:=W6 (s.drop (a+1))
 rw[List.drop_drop] at this
 unfold BC
 exact⟨by omega,this,by omega⟩
noncomputable def Esk(x:Nat)(s:List UInt8)(p:Nat)(l:D):Senv:={ EC (BjD x s l) 44 1 [11,20,21,23,25] (fun id=>match id with | 0=>([0,1,2,3,4,5,6,7,8,9],[]) | 1=>([0,1,2,3,4,5,6,7,8],[]) | _=>([],[])) with
 ann:=fun b _ _S=>match b with
  |0=>some { slots:=[],keep:=[0],α:=Nat,st:=fun y=>([],scS x s y l),inv:=fun y=>p<=y/\y<=s.length/\y+BK false (s.drop y)=p+BK false (s.drop p),mu:=fun y=>s.length-y }
  |_=>none }
def Qfi(a:Nat)(b:List UInt8):Nat:=a+BK false (List.drop a b)
def Qay(a b:Nat)(c:List UInt8):Prop:=a<=b/\b<=LN c/\Qfi b c=Qfi a c
def XT(a:List UInt8)(b:Nat):Int:=(BI a (Int.toNat (↑b:Int)))
def Qfj(a b:Nat)(c:List UInt8)(d:Nat)(e:D):Prop:=SM a/\SM a/\(SM (D.ref N0 a N0)/\True)/\∃(y:Nat),Qay b y c/\LN c-y<LN c-d/\True/\(SM a/\(SM c/\IntKind.wrap IntKind.i64 ((↑d:Int)+Z1)=(↑y:Int)/\Bg e e/\True)/\True)/\True
def Qfk(a:Nat)(b:List UInt8)(c d:Nat)(e:D):Prop:=True/\∃(_y:Unit),True/\True/\(SM a/\(SM b/\(↑c:Int)=(NI (Qfi d b))/\Bg e e/\True)/\True)/\True
theorem Bno(x : Nat)(s : List UInt8)(p : Nat)(l : D)(hp : p<=s.length)(hs : s.length<=4294967296) :
  ACalls Tryz.prog 30 [.ref 0 x 0] (scS x s p l) (SpecR (sCh [.ref 0 x 0] (scS x s p l) (scS x s (p+BK false (s.drop p):Nat) l) (.tup []) True) ()):=by
 refine Bf (A:=sCh _ _ _ _ _) (x:=()) (E:=Esk x s p l) (eOk (Bma x s l) rfl) Tryz.func30 rfl (by kernel_rfl) rfl (by simp[sCh,Esk,EC,E0]) ?_
 refine Bk (T :=
  (∃(x_1:Nat),Qay p x_1 s/\True/\(SM x/\(SM s/\(↑p:Int)=(↑x_1:Int)/\Bg l l/\True)/\True)/\True)/\∀(x_1:Nat),Qay p x_1 s->SM x/\SM x/\ifB (decide ((↑x_1:Int)<(LI s))) (SM x/\SM x/\Be (Z0<=(↑x_1:Int)/\(↑x_1:Int)<(LI s)) (ifB (XT s x_1==35) (SM x/\∃(x_2:Unit),(SM x/\SM (↑x_1:Int)/\SM (D.fn (Fn.func (53:Nat)) [] [])/\True)/\((SM x/\(SM s/\SM (↑x_1:Int)/\Bg l l/\True)/\True)/\True)/\(Z0<=(↑x_1:Int)/\(↑x_1:Int)<=(LI s)/\LN s<=8589934592)/\∀(y:Unit),True->SM x/\(SM (D.ref N0 x N0)/\True)/\∃(y:Nat),Qay p y s/\LN s-y<LN s-x_1/\True/\(SM x/\(SM s/\(NI (BC nln s (Int.toNat (↑x_1:Int))))=(↑y:Int)/\Bg l l/\True)/\True)/\True) (ifB (XT s x_1==32) (Qfj x p s x_1 l) (ifB (XT s x_1==9) (ifB (XT s x_1==9) (Qfj x p s x_1 l) (Qfk x s x_1 p l)) (ifB (XT s x_1==13) (Qfj x p s x_1 l) (Qfk x s x_1 p l)))))) (Qfk x s x_1 p l)) (by kernel_rfl) ?_
 delta BI LI LN N0 NI SM U0 Z0 Z1 Qfi Qay XT Qfj Qfk
 simp only[eq_self,ne_eq,Bd,Int.toNat_natCast,Bh,Bc,decide_eq_true_eq,decide_eq_false_iff_not,true_and,and_true,beq_iff_eq,beq_eq_false_iff_ne,exists_const,forall_const]
 have ku:∀(b:UInt8) (n:Nat),n<256->((b.toNat:Int)=(n:Int)↔b=UInt8.ofNat n):=fun b n hn=>⟨fun h=>M4 h hn,fun h=>by rw[h,BX n hn]⟩
 have k35:∀b:UInt8,(b.toNat:Int)=35↔b=35:=fun b=>ku b 35 (by decide)
 have k32:∀b:UInt8,(b.toNat:Int)=32↔b=32:=fun b=>ku b 32 (by decide)
 have k9:∀b:UInt8,(b.toNat:Int)=9↔b=9:=fun b=>ku b 9 (by decide)
 have k13:∀b:UInt8,(b.toNat:Int)=13↔b=13:=fun b=>ku b 13 (by decide)
 simp only[k35,k32,k9,k13]
 refine⟨⟨p,⟨Nat.le_refl _,hp,rfl⟩,rfl⟩,fun a ⟨i1,i2,i3⟩=>⟨fun hlt=>?_,fun hge=>?_⟩⟩
 ·have hlt':a<s.length:=by omega
  have hbl:BaP (s.getD a 0)=true->∃y,(p<=y/\y<=s.length/\y+BK false (s.drop y)=p+BK false (s.drop p))/\s.length-y<s.length-a/\IntKind.i64.wrap ((a:Int)+1)=(y:Int):=fun h=>by
   rw[Bbr hlt',if_pos h] at i3
   exact⟨a+1,⟨by omega,by omega,by omega⟩,by omega,by rw[Bb (by omega) (by omega)];rfl⟩
  have hnb:BaP (s.getD a 0)=false->¬s.getD a 0=35->(a:Int)=((p+BK false (s.drop p):Nat):Int):=fun h h2=>by
   rw[Bbr hlt',if_neg (by rw[h];decide),if_neg h2] at i3
   omega
  refine⟨by omega,fun h=>⟨by omega,?_⟩,fun n35=>⟨fun h=>hbl (by rw[h];rfl),fun n32=>⟨fun h=>⟨fun _=>hbl (by rw[h];rfl),fun h2=>(h2 h).elim⟩,fun n9=>⟨fun h=>hbl (by rw[h];rfl),fun n13=>hnb ?_ n35⟩⟩⟩⟩
  ·obtain ⟨c1,c2,c3⟩:=Bku hlt' h
   have hle:=(UF (q:=nln) (s:=s) (a:=a) i2).2
   exact⟨BC nln s a,⟨by omega,hle,by rw[c2];omega⟩,by omega,rfl⟩
  ·unfold BaP
   have e1:(s.getD a 0==32)=false:=by simpa using n32
   have e2:(s.getD a 0==9)=false:=by simpa using n9
   have e3:(s.getD a 0==13)=false:=by simpa using n13
   rw[e1,e2,e3];rfl
 ·rw[BjE (a:=a) (by omega)] at i3
  omega
abbrev scK (k x:Nat) (s:List UInt8) (p:Int) (l:D):St:=⟨[(k,x,.cells [.str s,.int .i64 p,l])],[]⟩
theorem BoZ(k x : Nat)(s : List UInt8)(p : Nat)(l : D)(hp : p<=s.length)(hs : s.length<=4294967296) :
  ACalls Tryz.prog 30 [.ref k x 0] (scK k x s p l) (SpecR (sCh [.ref k x 0] (scK k x s p l) (scK k x s (p+BK false (s.drop p):Nat) l) (.tup []) True) ()):=by
 refine ACalls.respec (A:=sCh [.ref 0 x 0] (scS x s p l) (scS x s (p+BK false (s.drop p):Nat) l) (.tup []) True) (x:=()) (Bno x s p l hp hs) (A':=sCh [.ref k x 0] (scK k x s p l) (scK k x s (p+BK false (s.drop p):Nat) l) (.tup []) True) (x':=()) ?_ ?_ fun y _=>⟨y,trivial,?_,?_⟩
 ·simp[sCh,Br,Bg,chk]
 ·simp[sCh,T0,ON,T9,CT,Br,Bg,chk,kEq,Bd]
 ·simp[sCh,Ii,Bd]
 ·simp[sCh,T0,ON,T9,CT,Br,Bg,chk,kEq,Bd]
theorem BqQ(k x : Nat)(s : List UInt8)(p : Nat)(l : D)(hp : p<s.length)(hs : s.length<=4294967296) :
  ACalls Tryz.prog 31 [.ref k x 0] (scK k x s p l) (SpecR (G4 [.ref k x 0] (scK k x s p l) (BiQ (B4 (s.drop p))) (Rt p (B4 (s.drop p))) True) ()):=by
 refine ACalls.respec (A:=G4 [.ref 0 x 0] (scS x s p l) (BiQ (B4 (s.drop p))) (Rt p (B4 (s.drop p))) True) (x:=()) (Bnh x s p l hp hs) (A':=G4 [.ref k x 0] (scK k x s p l) (BiQ (B4 (s.drop p))) (Rt p (B4 (s.drop p))) True) (x':=()) ?_ ?_ fun y hy=>⟨y,hy,?_,?_⟩
 ·simp[G4,Br,Bg,chk]
 ·simp[G4,T0,ON,T9,CT,Br,Bg,chk,kEq,Bd]
 ·simp[G4,Ii,Bd]
 ·simp[G4,T0,ON,T9,CT,Br,Bg,chk,kEq,Bd]
def Bfw(x y:Nat)(s:List UInt8)(p:Int):Prop:=y=x/\0<=p/\p<=s.length/\s.length<=4294967296
def BlY:Con:=fun k ds S=>match k with
 |30=>match ds with
  | [.ref g x 0]=>match Bt S.objs g with
   |some (y,.cells [.str s,.int .i64 p,l])=>some ((sCh [.ref g x 0] (scK g x s p l) (scK g x s (p.toNat+BK false (s.drop p.toNat):Nat) l) (.tup []) True).fits () (Bfw x y s p))
   |_=>none
  |_=>none
 |31=>match ds with
  | [.ref g x 0]=>match Bt S.objs g with
   |some (y,.cells [.str s,.int .i64 p,l])=>some ((G4 [.ref g x 0] (scK g x s p l) (BiQ (B4 (s.drop p.toNat))) (Rt p.toNat (B4 (s.drop p.toNat))) True).fits () (Bfw x y s p/\p<s.length))
   |_=>none
  |_=>none
 |_=>none
theorem BiM{S:St}{g x y:Nat}{s:List UInt8}{p:Int}{l:D}(hg:Bt S.objs g=some (y,.cells [.str s,.int .i64 p,l]))(h:y=x):leS (scK g x s p l) S:=by
 subst h
 refine Ba.2 ⟨rfl,?_,trivial⟩
 simp only[leO,hg,CT]
 exact⟨trivial,Bj _,trivial⟩
theorem Bl1:ConOk Tryz.prog BlY:=by
 intro k ds S A h
 unfold BlY at h
 split at h
 ·split at h
  ·split at h
   ·rename_i g x _ y s p l hg
    injection h with h;subst h
    refine⟨fun _ hy=>?_,fun _ _ hy=>?_,fun h=>nomatch h⟩
    ·obtain ⟨⟨_,h1,h2,h3⟩,_⟩:=hy
     obtain ⟨q,rfl⟩:∃q:Nat,p=q:=⟨p.toNat,by omega⟩
     exact BoZ g x s q l (by omega) h3
    ·obtain ⟨⟨h0,_⟩,_⟩:=hy
     exact⟨by simp[sCh,FnSpec.fits,Br,Bg,chk],BiM hg h0⟩
   ·cases h
  ·cases h
 ·split at h
  ·split at h
   ·rename_i g x _ y s p l hg
    injection h with h;subst h
    refine⟨fun _ hy=>?_,fun _ _ hy=>?_,fun h=>nomatch h⟩
    ·obtain ⟨⟨⟨_,h1,h2,h3⟩,h4⟩,_⟩:=hy
     obtain ⟨q,rfl⟩:∃q:Nat,p=q:=⟨p.toNat,by omega⟩
     exact BqQ g x s q l (by omega) h3
    ·obtain ⟨⟨⟨h0,_⟩,_⟩,_⟩:=hy
     exact⟨by simp[G4,FnSpec.fits,Br,Bg,chk],BiM hg h0⟩
   ·cases h
  ·cases h
 ·cases h
def tsl(l:List Tok)(m:Ab.Mode):D:=.sl 5 l.length (fun i=>(l.getD i default).row) m
def scL:Except (Int×Nat) (List Tok)->List Tok | .error _=>[] | .ok l=>l
def scE:Except (Int×Nat) (List Tok)->Int | .error (e,_)=>e | .ok _=>0
def scA:Except (Int×Nat) (List Tok)->Int | .error (_,a)=>(a:Int) | .ok _=>0
def BgI:D:=.sl 1 0 (fun _=>[]) .nil
def Bnl(e a:Int):D:=.agg [.int .i64 e,.int .i64 a,BgI,BgI,.str []]
def rawD:Except (Int×Nat) (List Tok)->D
 |.error (e,a)=>.tup [BgI,Bnl e a]
 |.ok l=>.tup [tsl l .any,Bnl 0 0]
def Bok(r:Except (Int×Nat) (List Tok)):D:=.tup [tsl (scL r) .any,Bnl (scE r) (scA r)]
theorem R6:∀(n:Nat) (r:List UInt8) (p:Nat) (acc:List UInt8) (e:Int) (o:Nat),G9 n r p acc=.error (e,o)->e≠0
 |0,r,p,acc,e,o,h=>by
  simp only[G9] at h
  injection h with h;injection h with h _
  omega
 |n+1,r,p,acc,e,o,h=>by
  simp only[G9] at h
  split at h
  ·injection h with h;injection h with h _
   omega
  ·split at h
   ·cases h
   ·split at h
    ·injection h with h;injection h with h _
     omega
    ·exact R6 n _ _ _ e o h
theorem BnQ{r:List UInt8}{e:Int}{o:Nat}(h:B4 r=.error (e,o)):e≠0:=by
 unfold B4 at h
 simp only at h
 split at h
 ·cases h
 ·split at h
  ·unfold Gj at h
   simp only at h
   repeat' split at h
   all_goals first
    |(injection h with h;injection h with h _;omega)
    |cases h
  ·split at h
   ·unfold E4 at h
    simp only at h
    repeat' split at h
    all_goals first
     |(injection h with h;injection h with h _;omega)
     |cases h
   ·split at h
    ·exact R6 _ _ _ _ _ _ h
    ·split at h
     ·unfold GV at h
      simp only at h
      repeat' split at h
      all_goals first
       |(injection h with h;injection h with h _;omega)
       |cases h
     ·unfold Ma at h
      repeat' split at h
      all_goals first
       |(injection h with h;injection h with h _;omega)
       |cases h
structure ScI (s:List UInt8) (p:Nat) (l:List Tok):Prop where
 hi:p<=s.length
 cap:l.length<=16384
 go:∃n,s.length-p<n/\GY n (s.drop p) p l=BN s
noncomputable def Esn(s:List UInt8):Senv:={ EC BlY 55 1 [2,3,4,5,6,7,10,19,29,36] (fun id=>match id with | 11=>([0,1,2,3,4],[4]) | _=>([],[])) with
 gh:=fun b=>match b with
  |0=>[.cell 1 502]
  |_=>[]
 ann:=fun b _ S=>match b with
  |0=>some { slots:=[],keep:=[0,3,4],α:=Nat×List Tok×Nat,st:=fun y=>([],⟨Gu S.objs 1 (.cells [.str s,.int .i64 y.1,tsl y.2.1 (.tok 0 y.2.2)]),[(0,y.2.2)]⟩),inv:=fun y=>ScI s y.1 y.2.1,mu:=fun y=>s.length-y.1 }
  |_=>none }
def XU:D:=D.sl N1 N0 (fun _x=>[]) Mode.nil
def Qfl:List D:=[XU,XU,D.str []]
def Qty:List D:=ZI Z0::Qfl
def Qaz(a:List UInt8):D:=rawD (BN a)
def QaA(a:List Tok)(b:Nat):List D:=Tok.row (List.getD a b (Tok.mk Z0 Z0 Z0 Z0 []))
def Qtz:Prop:=SM N0/\(∀(i:Nat),i<N0->CN (List D) [] [])/\True
def QtA(a:Nat):Prop:=SM a/\(SM Z0/\SM Z0/\Qtz/\Qtz/\CN (List UInt8) [] []/\True)/\True
def VI(a:Nat)(b:List UInt8):Int:=(NI (Int.toNat (↑a:Int)+BK false (List.drop (Int.toNat (↑a:Int)) b)))
def QtB(a:Nat)(b:List UInt8):Nat:=Int.toNat (VI a b)
def VJ(a:Nat)(b:List UInt8):Lex:=B4 (List.drop (QtB a b) b)
def QtC(a:Nat)(b:List UInt8):Int:=lxE (VJ a b)
def QtD(a:Nat)(b:List UInt8):D:=ZI (VI a b)
def QtE(a:Nat)(b:List UInt8):Int:=lxL (VJ a b)
theorem Bj5(s:List UInt8)(hs:s.length<=140737488355328):ACalls Tryz.prog 12 [.str s] ⟨[],[]⟩ (SpecR (sC [.str s] (rawD (BN s))) ()):=by
 refine Bf (A:=sC _ _) (x:=()) (E:=Esn s) (eOk Bl1 rfl) Tryz.func12 rfl (by kernel_rfl) rfl (by simp[sC,Esn,EC,E0]) ?_
 refine Bk (T :=
  ∀(x:Nat),True->ifB (decide ((65536:Int)<(LI s))) (SM x/\(SM x/\True)/\∃(y:Unit),True/\Bg (D.tup [XU,D.agg (ZI 2::Qty)]) (Qaz s)/\True/\True) (∀(x_1:Nat),x≠x_1/\True->SM x_1/\∀(t:Nat),(∃(x_2:Nat×List Tok×Nat),ScI s x_2.1 x_2.2.1/\True/\(SM x_1/\(SM s/\Z0=(NI x_2.1)/\(N0=LN x_2.2.1/\(∀(i:Nat),i<N0->CN (List D) [] (QaA x_2.2.1 i))/\t=x_2.2.2)/\True)/\QtA x)/\t=x_2.2.2/\True)/\∀(x_2:Nat×List Tok×Nat),ScI s x_2.1 x_2.2.1->(Bfw x_1 x_1 s (NI x_2.1)/\True)/\∀(y:Unit),True->SM x_1/\ifB (decide ((LI s)<=VI x_2.1 s)) (SM x_1/\SM x/\(SM x/\True)/\∃(y:Unit),True/\Bg (D.tup [D.sl 5 (LN x_2.2.1) (fun i=>QaA x_2.2.1 i) (Mode.tok N0 x_2.2.2),D.agg (ZI Z0::Qty)]) (Qaz s)/\True/\True) (((Bfw x_1 x_1 s (VI x_2.1 s)/\VI x_2.1 s<(LI s))/\True)/\∀(y:Int),Rt (QtB x_2.1 s) (VJ x_2.1 s) y->∀(x_3:Nat),x_1≠x_3/\x≠x_3/\True->SM x_3/\ifB (QtC x_2.1 s != Z0) (SM x/\(SM x/\True)/\∃(y_1:Unit),True/\Bg (D.tup [XU,D.agg (ZI (QtC x_2.1 s)::ZI y::Qfl)]) (Qaz s)/\True/\True) (SM x_1/\ifB ((LI x_2.2.1)==16384) (SM x_1/\SM x/\(SM x/\True)/\∃(y:Unit),True/\Bg (D.tup [XU,D.agg (ZI 21::QtD x_2.1 s::Qfl)]) (Qaz s)/\True/\True) (SM x_1/\SM x_3/\SM x_1/\SM x_3/\SM x_2.2.2/\Be ((LN x_2.2.1+N1)*48<=140737488355328/\LN x_2.2.1+N1<=9223372036854775807) (∀(t:Nat),SM x_1/\SM x_1/\SM x_3/\SM x_1/\(SM (D.str s)/\SM (D.ref N0 x N0)/\SM (D.ref N1 x_1 N0)/\True)/\∃(y:Nat×List Tok×Nat),ScI s y.1 y.2.1/\LN s-y.1<LN s-x_2.1/\True/\(SM x_1/\(SM s/\IntKind.wrap IntKind.i64 (VI x_2.1 s+QtE x_2.1 s)=(NI y.1)/\(LN x_2.2.1+N1=LN y.2.1/\(∀(i:Nat),i<LN x_2.2.1+N1->BW (LN x_2.2.1) (fun i=>QaA x_2.2.1 i) (fun i=>List.getD [[ZI (lxK (VJ x_2.1 s)),QtD x_2.1 s,ZI (QtE x_2.1 s),ZI (lxN (VJ x_2.1 s)),D.str (lxT (VJ x_2.1 s))]] i []) i=QaA y.2.1 i)/\t=y.2.2)/\True)/\QtA x)/\t=y.2.2/\True)))))) (by kernel_rfl) ?_
 delta LI LN N0 N1 NI SM Z0 ZI XU Qfl QtC QtD QtE Qty Qaz QaA Qtz QtA VI QtB VJ
 simp only[eq_self,ne_eq,implies_true,Int.toNat_natCast,Bh,Bc,decide_eq_true_eq,decide_eq_false_iff_not,true_and,and_true,beq_iff_eq,beq_eq_false_iff_ne,exists_const,forall_const]
 have dt:(default:Tok)={ kind:=0,at_:=0,len:=0,num:=0,text:=[] }:=rfl
 simp only[<- dt]
 intro x
 refine⟨fun h=>?_,fun h x1 _ t=>⟨⟨(0,[],t),⟨Nat.zero_le _,Nat.zero_le _,s.length+1,by simp only;omega,?_⟩,⟨rfl,rfl,fun i hi=>absurd hi (by omega),rfl⟩,rfl⟩,?_⟩⟩
 ·unfold BN
  rw[if_pos (by omega)]
  exact Bd _
 ·unfold BN
  rw[if_neg (by omega)]
  rfl
 rintro ⟨p,l,t1⟩ ⟨i1,i2,n,i3,i4⟩
 simp only at i1 i2 i3 i4 ⊢
 obtain ⟨n,rfl⟩:∃k,n=k+1:=⟨n-1,by omega⟩
 have hk:=UH false (s.drop p)
 rw[List.length_drop] at hk
 simp only[GY,List.drop_drop] at i4
 generalize hkk:BK false (s.drop p)=k at *
 have hnil:s.drop (p+k)=[]↔s.length<=p+k:=List.drop_eq_nil_iff
 refine⟨⟨rfl,by omega,by omega,by omega⟩,fun hge=>?_,fun hlt=>⟨⟨⟨rfl,by omega,by omega,by omega⟩,by omega⟩,fun y hy x3 _=>?_⟩⟩
 ·rw[if_pos (hnil.2 (by omega))] at i4
  rw[<- i4]
  exact⟨Ba.2 ⟨rfl,rfl,fun _ _=>rfl,trivial⟩,Bd _,trivial⟩
 ·have hne:s.drop (p+k)≠[]:=fun e=>by have:=hnil.1 e;omega
  rw[if_neg hne] at i4
  have hlen:=Bm8 hne
  have herr:∀(e:Int) (o:Nat),B4 (s.drop (p+k))=.error (e,o)->e≠0:=fun e o h=>BnQ h
  revert hlen herr hy i4
  generalize B4 (s.drop (p+k))=r
  intro i4 hy hlen herr
  match r,hy,i4,hlen,herr with
  |.error (e,o),hy,i4,_,herr =>
   have he:e≠0:=herr e o rfl
   have hb:(lxE (.error (e,o)) != 0)=true:=by simpa[lxE] using he
   refine⟨fun _=>?_,fun h=>by rw[hb] at h;exact Bool.noConfusion h⟩
   rw[<- i4,hy e o rfl]
   exact Bd _
  |.ok (kd,len,num,text),_,i4,hlen,_ =>
   refine⟨fun h=>Bool.noConfusion h,fun _=>⟨fun h=>?_,fun h=>⟨by omega,fun t2=>?_⟩⟩⟩
   ·have h:l.length=16384:=by omega
    simp only[if_pos h] at i4
    rw[<- i4]
    exact Bd _
   ·have h:¬l.length=16384:=by omega
    simp only[if_neg h] at i4
    have hlen:1<=len/\len<=(s.drop (p+k)).length:=hlen
    rw[List.length_drop] at hlen
    refine⟨(p+k+len,l++[⟨kd,((p+k:Nat):Int),len,num,text⟩],t2),⟨by simp only;omega,by simp only[List.length_append,List.length_cons,List.length_nil];omega,n,by simp only;omega,?_⟩,by simp only;omega,⟨?_,?_,?_,rfl⟩,rfl⟩
    ·simp only
     rw[<- i4,Int.natCast_add]
    ·have e:lxL (.ok (kd,len,num,text))=(len:Int):=rfl
     rw[e,Bb (by omega) (by omega)]
     simp only
     omega
    ·simp
    ·intro i hi
     simp only[BW]
     by_cases hl:i<l.length
     ·rw[if_pos hl]
      simp[List.getD_eq_getElem?_getD,List.getElem?_append_left hl]
     ·have e:i=l.length:=by omega
      subst e
      rw[if_neg hl,Nat.sub_self]
      simp[List.getD_eq_getElem?_getD,Tok.row,lxK,lxL,lxN,lxT]
theorem Boz{C:Ctx}{ds ds':List D}{v:Value}(h:wkL ds ds')(H:Rep C (.tup ds) v):Rep C (.tup ds') v:=by
 simp only[Rep] at H ⊢
 obtain ⟨vs,e,hr⟩:=H
 exact⟨vs,e,MC _ _ h C _ hr⟩
theorem BpL{k:FuncId}{us ds ds':List D}(hw:wkL ds ds')(h:ACalls Tryz.prog k us ⟨[],[]⟩ (SpecR (sC us (.tup ds)) ())):ACalls Tryz.prog k us ⟨[],[]⟩ (SpecR (sC us (.tup ds')) ()) :=
 ⟨h.1,fun C F args w hr hs=>(h.2 C F args w hr hs).mono fun e w' ⟨C',r,S',h1,h2,h3,_,_,h5,h6⟩=>⟨C',.ret (.tup ds'),S',h1,h2,by
  subst h5
  cases e with
  |returned v=>exact Boz hw h3
  |_=>exact h3.elim,(),trivial,rfl,h6⟩⟩
theorem Bmh(s:List UInt8)(hs:s.length<=140737488355328):ACalls Tryz.prog 12 [.str s] ⟨[],[]⟩ (SpecR (sC [.str s] (Bok (BN s))) ()):=by
 have h:=Bj5 s hs
 cases hr:BN s with
 |error z =>
  obtain ⟨e,a⟩:=z
  rw[hr] at h
  refine BpL (ds':=[tsl [] .any,Bnl e (a:Int)]) ?_ h
  simp only[wkL]
  refine⟨?_,Bl _,trivial⟩
  unfold BgI tsl
  simp only[wkD]
  exact Ba.2 ⟨rfl,rfl,fun i hi=>absurd hi (by simp),trivial⟩
 |ok l =>
  rw[hr] at h
  exact h
theorem BbW{b:UInt8}(h:CP b=false):dig b=false/\alp b=false/\aln b=false/\(b==95)=false:=by
 unfold CP at h
 simp only[Bool.or_eq_false_iff] at h
 obtain ⟨⟨⟨h1,h2⟩,h3⟩,h4⟩:=h
 have a:alp b=false:=by unfold alp low upp;rw[h1,h2];rfl
 exact⟨h3,a,by unfold aln;rw[a];exact h3,h4⟩
theorem Blk{b:UInt8}(h:CP b=true):dig b=true\/(b==95)=true\/alp b=true:=by
 unfold CP at h
 simp only[Bool.or_eq_true] at h
 rcases h with ((h | h) | h) | h
 ·exact .inr (.inr (by unfold alp low;rw[h];rfl))
 ·exact .inr (.inr (by unfold alp low upp;rw[h];simp))
 ·exact .inl h
 ·exact .inr (.inl h)
theorem Bmc{b:UInt8}{m r:List UInt8}(hb:CP b=false)(h:r≠[]):Gj (r++b::m)=Gj r:=by
 obtain ⟨b1,b2,b3,b4⟩:=BbW hb
 have h1:1<=r.length:=List.length_pos_iff.2 h
 unfold Gj
 rw[BdA h]
 generalize hu:(if r.getD 0 0=95 then 1 else 0)=u
 have hu1:u<=r.length:=by split at hu<;>omega
 simp only
 rw[Bkw hu1,Be6 b1]
 have hl:u+((r.drop u).takeWhile dig).length<=r.length:=by
  have:=TK dig (r.drop u)
  rw[List.length_drop] at this
  omega
 rw[Bkw hl]
 have e:∀q:List UInt8,(alp ((q++b::m).getD 0 0)||(q++b::m).getD 0 0==95)=(alp (q.getD 0 0)||q.getD 0 0==95):=fun q =>
  BoS (f:=fun c=>alp c||c==95) (by simp only[b2,b4];rfl) (Nat.zero_le _)
 rw[e]
theorem BgZ{b:UInt8}{m r:List UInt8}(hb:CP b=false):E4 (r++b::m)=E4 r:=by
 unfold E4
 rw[Be6 (BbW hb).2.2.1]
theorem BkF{b:UInt8}{m r:List UInt8}(hb:CP b=false)(h:r≠[])(hw:CP (r.getD 0 0)=true):B4 (r++b::m)=B4 r:=by
 unfold B4
 rw[BdA h]
 simp only
 split
 ·rfl
 ·split
  ·exact Bmc hb h
  ·split
   ·exact BgZ hb
   ·rename_i h1 h2 h3
    rcases Blk hw with q | q | q
    ·rw[q] at h2;exact absurd rfl h2
    ·rw[q,Bool.or_true] at h2;exact absurd rfl h2
    ·exact absurd q h3
def nxt(x r:List UInt8):Prop:=r=[]\/CA x r=false
def LexG(x:List UInt8)(z:Int×Int×List UInt8):Prop:=x≠[]/\∀r,nxt x r->B4 (x++r)=.ok (z.1,x.length,z.2.1,z.2.2)
theorem LexG.self{x:List UInt8}{z:Int×Int×List UInt8}(h:LexG x z):B4 x=.ok (z.1,x.length,z.2.1,z.2.2):=by
 have:=h.2 [] (.inl rfl)
 rwa [List.append_nil] at this
theorem T6{x:List UInt8}{z:Int×Int×List UInt8}(h:x≠[])(hw:∀b∈x,CP b=true)(e:B4 x=.ok (z.1,x.length,z.2.1,z.2.2)):LexG x z:=by
 refine⟨h,fun r hr=>?_⟩
 cases r with
 |nil=>rw[List.append_nil];exact e
 |cons b m =>
  have hp:0<x.length:=List.length_pos_iff.2 h
  have g:∀i,i<x.length->CP (x.getD i 0)=true:=fun i hi=>hw _ (by rw[List.getD_eq_getElem?_getD,List.getElem?_eq_getElem hi];exact List.getElem_mem hi)
  rcases hr with hr | hr
  ·cases hr
  ·have hb:CP b=false:=by
    unfold CA at hr
    rw[g (x.length-1) (by omega)] at hr
    simp only[Bool.true_and,Bool.or_eq_false_iff] at hr
    exact hr.1.1
   rw[BkF hb h (g 0 hp),e]
theorem Bk4{z:Int}(h:z.natAbs<=GX):LexG (Bu z) (1,z,[]):=by
 have e:=BjL h
 refine T6 (fun q=>by rw[q,BbX] at e;cases e) (fun b hb=>?_) e
 rcases Uf z b hb with q | rfl
 ·unfold CP
  unfold BhV at q
  rw[q];simp
 ·rfl
theorem TY{w:List UInt8}(h:Cz w=true):LexG w (4,0,w):=by
 have e:=Bii h
 refine T6 (fun q=>by rw[q,BbX] at e;cases e) (fun b hb=>?_) e
 unfold Cz Ob at h
 simp only[Bool.and_eq_true] at h
 have:=List.all_eq_true.1 h.1.1.2 b hb
 unfold low dig at this
 unfold CP
 rw[Bool.or_eq_true] at this
 rcases this with q | q<;>rw[q]<;>simp
theorem Bl7:((resL++symL).all fun x=>x.all CP||(!CP (x.getD 0 0)&&x.getD 0 0 != 10&&x.getD 0 0 != 59&&x.getD 0 0 != 34&&x.getD 0 0 != 39&&symL.contains x&&(x.length==2||(x.length==1&&symL.all fun y=>y.length != 2||y.getD 0 0 != x.getD 0 0||CA x [y.getD 1 0]))))=true:=by decide +kernel
theorem BjR{x:List UInt8}(h:(resL++symL).contains x=true):LexG x (5,0,x):=by
 have e:=BlG x h
 have hne:x≠[]:=fun q=>by rw[q,BbX] at e;cases e
 have f:=List.all_eq_true.1 Bl7 x (List.contains_iff_mem.1 h)
 rw[Bool.or_eq_true] at f
 rcases f with f | f
 ·exact T6 hne (List.all_eq_true.1 f) e
 ·simp only[Bool.and_eq_true,bne_iff_ne,ne_eq,Bool.not_eq_true',Bool.or_eq_true,beq_iff_eq] at f
  obtain ⟨⟨⟨⟨⟨⟨f1,f2⟩,f3⟩,f4⟩,f5⟩,f6⟩,f7⟩:=f
  refine⟨hne,fun r hr=>?_⟩
  obtain ⟨d1,d2,d3,d4⟩:=BbW f1
  have hh:(x++r).getD 0 0=x.getD 0 0:=Bf7 (List.length_pos_iff.2 hne)
  have el:B4 (x++r)=Ma (x++r):=by
   unfold B4
   rw[hh]
   simp only
   rw[if_neg (fun q=>q.elim f2 f3),if_neg (by rw[d1,d4];simp),if_neg (by rw[d2];simp),if_neg f4,if_neg f5]
  rw[el]
  unfold Ma
  rcases f7 with f7 | ⟨f7,f8⟩
  ·have t2:(x++r).take 2=x:=by rw[<- f7];exact List.take_left
   rw[t2,if_pos ⟨f6,by rw[List.length_append];omega⟩,f7]
  ·have t1:(x++r).take 1=x:=by rw[<- f7];exact List.take_left
   rw[t1,f7]
   rw[if_neg]
   ·rw[if_pos f6]
   ·rintro ⟨q1,q2⟩
    obtain ⟨c,rfl⟩:=List.length_eq_one_iff.1 f7
    cases r with
    |nil=>simp at q2
    |cons b m =>
     have:=List.all_eq_true.1 f8 [c,b] (List.contains_iff_mem.1 q1)
     simp only[List.length_cons,List.length_nil,bne_self_eq_false,Bool.false_or,List.getD_cons_zero,List.getD_cons_succ] at this
     rcases hr with hr | hr
     ·cases hr
     ·have e2:CA [c] (b::m)=CA [c] [b]:=rfl
      rw[e2] at hr
      rw[hr] at this
      simp at this
theorem Blq{c:Nat}(h:BZ c):LexG (Gn 39 [(c:Int)]) (2,c,[]):=by
 have hq:Gn 39 [(c:Int)]=39::(Cw c 39++[39]):=by
  have:utf8 39=[39]:=rfl
  unfold Gn
  rw[MQ,W3,this]
  simp
 refine⟨by rw[hq];simp,fun r _=>?_⟩
 obtain ⟨h1,h2,h3⟩:=BfJ h (.inr rfl) (39::r)
 have e:Gn 39 [(c:Int)]++r=39::(Cw c 39++39::r):=by rw[hq];simp
 rw[e]
 have e1:B4 (39::(Cw c 39++39::r))=GV (39::(Cw c 39++39::r)):=rfl
 rw[e1]
 unfold GV
 simp only[List.drop_succ_cons,List.drop_zero]
 have h3:(Cw c 39++39::r).getD 0 0≠39:=h3
 rw[h2,h1]
 simp only[Bool.false_eq_true,if_false]
 rw[if_neg h3]
 simp only[List.drop_left]
 have:UB (39::r)=false:=rfl
 rw[this]
 simp only[Bool.false_eq_true,if_false,List.getD_cons_zero,if_true]
 exact Bde (by rw[hq];simp only[List.length_cons,List.length_append,List.length_nil]) rfl rfl
theorem BeB(r : List UInt8) : ∀(cs : List Nat), (∀c∈cs, BZ c) -> ∀(n p : Nat) (acc : List UInt8), (ET 34 (cs.map Int.ofNat)).length<n ->
  G9 n (ET 34 (cs.map Int.ofNat)++34::r) p acc=.ok (3,p+(ET 34 (cs.map Int.ofNat)).length+1,0,acc++BaJ cs):=by
 intro cs
 induction cs with
 |nil =>
  intro _ n p acc hn
  cases n with
  |zero=>exact absurd hn (Nat.not_lt_zero _)
  |succ n =>
   have e:G9 (n+1) (34::r) p acc=.ok (3,p+1,0,acc):=rfl
   simp only[List.map_nil,W3,List.nil_append,List.length_nil,Nat.add_zero]
   rw[e]
   simp[BaJ]
 |cons c cs ih =>
  intro h n p acc hn
  have hc:=h c (by simp)
  obtain ⟨h1,h2,h3⟩:=BfJ hc (.inl rfl) (ET 34 (cs.map Int.ofNat)++34::r)
  have h3:(Cw c 34++(ET 34 (cs.map Int.ofNat)++34::r)).getD 0 0≠34:=h3
  have e:ET 34 ((c::cs).map Int.ofNat)=Cw c 34++ET 34 (cs.map Int.ofNat):=by rw[List.map_cons,MQ];rfl
  have hw:1<=(Cw c 34).length:=by
   have hne:Cw (c:Int) 34++(ET 34 (cs.map Int.ofNat)++34::r)≠[]:=by simp
   exact (OR hne h1).1
  rw[e] at hn ⊢
  rw[List.append_assoc]
  rw[List.length_append] at hn
  cases n with
  |zero=>exact absurd hn (Nat.not_lt_zero _)
  |succ n =>
   simp only[G9]
   rw[h2,h1]
   simp only[Bool.false_eq_true,if_false]
   rw[if_neg h3,List.drop_left,ih (fun x hx=>h x (by simp[hx])) n _ _ (by omega),BeY,List.length_append]
   exact Bde (by omega) rfl (by rw[List.append_assoc];rfl)
theorem BlZ{cs:List Nat}(h:∀c∈cs,BZ c):LexG (Gn 34 (cs.map Int.ofNat)) (3,0,BaJ cs):=by
 have hq:Gn 34 (cs.map Int.ofNat)=34::(ET 34 (cs.map Int.ofNat)++[34]):=by
  have:utf8 34=[34]:=rfl
  unfold Gn
  rw[this]
  simp
 refine⟨by rw[hq];simp,fun r _=>?_⟩
 have e:Gn 34 (cs.map Int.ofNat)++r=34::(ET 34 (cs.map Int.ofNat)++34::r):=by rw[hq];simp
 rw[e]
 have e1:B4 (34::(ET 34 (cs.map Int.ofNat)++34::r))=TT (34::(ET 34 (cs.map Int.ofNat)++34::r)):=rfl
 rw[e1]
 unfold TT
 simp only[List.drop_succ_cons,List.drop_zero]
 rw[BeB r cs h _ _ _ (by simp only[List.length_cons,List.length_append];omega),List.nil_append]
 exact Bde (by rw[hq];simp only[List.length_cons,List.length_append,List.length_nil];omega) rfl rfl
def kvP(p:Pt):Int×Int×List UInt8:=match B4 (prT p) with
 |.ok (k,_,n,t)=>(k,n,t)
 |.error _=>(0,0,[])
theorem Boy{p:Pt}{z:Int×Int×List UInt8}(h:LexG (prT p) z):LexG (prT p) (kvP p):=by
 have e:kvP p=z:=by
  unfold kvP
  rw[h.self]
 rw[e];exact h
def okQ(p:Pt):Prop:=LexG (prT p) (kvP p)
theorem RK{p:Pt}{z:Int×Int×List UInt8}(h:LexG (prT p) z):okQ p:=Boy h
theorem E2{p:Pt}(h:(resL++symL).contains (prT p)=true):okQ p:=RK (BjR h)
theorem Bo2:okQ .sp:=RK (z:=(6,0,[])) ⟨by simp[prT],fun _ _=>rfl⟩
theorem BgT{a:Arr}(h:(BG a).1=0):∀z∈a.nu,Gd a.k z=false:=by
 rw[Bgd] at h
 split at h
 ·rename_i h0;exact (h0 h).elim
 ·split at h
  ·simp at h
  ·rename_i hb
   intro z hz
   cases hq:Gd a.k z with
   |false=>rfl
   |true=>exact (hb (List.any_eq_true.2 ⟨z,hz,hq⟩)).elim
theorem Bmq{z:Int}(h:Gd 1 z=false):z.natAbs<=GX:=by
 unfold Gd Bht at h
 simp only[GX]
 simp at h
 omega
theorem BdI{z:Int}(h:Gd 2 z=false):∃c:Nat,z=(c:Int)/\BZ c:=by
 unfold Gd Bdv at h
 simp at h
 exact⟨z.toNat,by omega,by unfold BZ;omega⟩
theorem Bag:∀(l:List Int),(∀z∈l,Gd 2 z=false)->∃cs:List Nat,l=cs.map Int.ofNat/\∀c∈cs,BZ c
 | [],_=>⟨[],rfl,fun c hc=>by cases hc⟩
 |z::l,h=>by
  obtain ⟨c,rfl,hc⟩:=BdI (h z (by simp))
  obtain ⟨cs,rfl,hcs⟩:=Bag l fun x hx=>h x (by simp[hx])
  refine⟨c::cs,rfl,fun d hd=>?_⟩
  rcases List.mem_cons.1 hd with rfl | hd
  ·exact hc
  ·exact hcs d hd
theorem Bmf:∀n:Nat,n<56->1<=n->okQ (.tx (primL.getD n [])):=by
 have key:((List.range 56).all fun n=>n==0||(resL++symL).contains (primL.getD n []))=true:=by decide +kernel
 intro n h1 h2
 have:=List.all_eq_true.1 key n (List.mem_range.2 h1)
 rw[Bool.or_eq_true,beq_iff_eq] at this
 exact E2 (this.resolve_left (by omega))
theorem Bpg:∀n:Nat,n<12->1<=n->okQ (.tx (opL.getD n [])):=by
 have key:((List.range 12).all fun n=>n==0||(resL++symL).contains (opL.getD n []))=true:=by decide +kernel
 intro n h1 h2
 have:=List.all_eq_true.1 key n (List.mem_range.2 h1)
 rw[Bool.or_eq_true,beq_iff_eq] at this
 exact E2 (this.resolve_left (by omega))
theorem Bj2{n:Nd}(hl:C9 n=true)(ho:n.ok):okQ (.tx (BD n)):=by
 have ex:∀ {x:List UInt8} {z:Int×Int×List UInt8},LexG x z->okQ (.tx x):=fun h=>RK h
 rw[Mw]
 unfold C9 at hl
 rw[Bool.and_eq_true] at hl
 have hl:=hl.2
 have lit:∀x:List UInt8,x∈([[88],[89],[97,114,103],[115,101,108,102],[70],[71]]:List (List UInt8))->okQ (.tx x):=fun x hx=>by
  have key:(([[88],[89],[97,114,103],[115,101,108,102],[70],[71]]:List (List UInt8)).all fun x=>(resL++symL).contains x)=true:=by decide +kernel
  exact E2 (List.all_eq_true.1 key x hx)
 by_cases k1:n.kd=1
 ·rw[if_pos k1] at hl ⊢
  simp only[Bool.and_eq_true,Bool.or_eq_true,beq_iff_eq,bne_iff_ne,ne_eq,List.isEmpty_iff] at hl
  obtain ⟨⟨_,hc⟩,hs⟩:=hl
  have lo:=Bfb (BaY ho) hc
  have bad:∀i,i<n.va.nu.length->Gd n.va.k (n.va.nu.getD i 0)=false:=fun i hi=>BgT hc _ (by rw[List.getD_eq_getElem?_getD,List.getElem?_eq_getElem hi];exact List.getElem_mem hi)
  unfold OD
  rw[if_pos hc,BbC]
  unfold TG
  rcases hs with ⟨hs,hk⟩ | ⟨hs,hk⟩
  ·have hs0:n.va.sh.length=0:=by rw[hs];rfl
   rw[if_pos hs0]
   unfold G7
   have hsc:=lo.sc hs0
   rw[lo.no hk] at hsc
   have hn:n.va.nu.length=1:=by simpa using hsc
   by_cases q1:n.va.k=1
   ·rw[if_pos q1]
    have:=bad 0 (by omega)
    rw[q1] at this
    exact ex (Bk4 (Bmq this))
   ·rw[if_neg q1]
    have q2:n.va.k=2:=by have:=lo.kd;omega
    rw[if_pos q2]
    have hb:=bad 0 (by omega)
    rw[q2] at hb
    obtain ⟨c,e,hc2⟩:=BdI hb
    rw[e]
    exact ex (Blq hc2)
  ·rw[if_neg (by omega),if_pos ⟨hs,.inl hk⟩]
   unfold M5
   rw[if_pos hk]
   obtain ⟨cs,e,hcs⟩:=Bag n.va.nu fun z hz=>by
    have:=BgT hc z hz
    rw[hk] at this;exact this
   rw[e]
   exact ex (BlZ hcs)
 rw[if_neg k1] at hl ⊢
 by_cases k2:n.kd=2
 ·rw[if_pos k2] at hl ⊢
  rw[Bool.and_eq_true] at hl
  exact ex (TY hl.2)
 rw[if_neg k2] at hl ⊢
 by_cases k6:n.kd=6
 ·rw[if_pos k6];exact lit _ (by simp)
 rw[if_neg k6]
 by_cases k7:n.kd=7
 ·rw[if_pos k7];exact lit _ (by simp)
 rw[if_neg k7]
 by_cases k8:n.kd=8
 ·rw[if_pos k8];exact lit _ (by simp)
 rw[if_neg k8]
 by_cases k11:n.kd=11
 ·rw[if_pos k11];exact lit _ (by simp)
 rw[if_neg k11]
 by_cases k12:n.kd=12
 ·rw[if_pos k12];exact lit _ (by simp)
 rw[if_neg k12]
 by_cases k13:n.kd=13
 ·rw[if_pos k13];exact lit _ (by simp)
 rw[if_neg k13]
 rw[if_neg (by omega)] at hl
 by_cases k9:n.kd=9
 ·rw[if_pos k9] at hl ⊢
  rw[Bool.and_eq_true,BcQ] at hl
  have h2:=hl.2
  simp only[Bool.not_not,Bool.and_eq_true,decide_eq_true_eq] at h2
  unfold Ci
  rw[if_neg (by omega)]
  exact Bmf n.pr.toNat (by omega) (by omega)
 rw[if_neg k9] at hl ⊢
 rw[if_neg (by omega)] at hl
 by_cases k17:n.kd=17
 ·rw[if_pos k17] at hl ⊢
  rw[Bool.and_eq_true,BlR] at hl
  have h2:=hl.2
  simp only[Bool.not_not,Bool.and_eq_true,decide_eq_true_eq] at h2
  unfold opT
  rw[if_neg (by omega)]
  exact Bpg n.op.toNat (by omega) (by omega)
 rw[if_neg k17] at hl
 cases hl
theorem Bd4{ks:List Int}{k:Int}{l:List Pt}(h:∀p∈l,okQ p):∀p∈ptW ks k l,okQ p:=by
 unfold ptW
 split
 ·intro p hp
  simp only[List.mem_cons,List.mem_append,List.not_mem_nil,or_false] at hp
  rcases hp with rfl | hp | rfl
  ·exact E2 (by decide +kernel)
  ·exact h p hp
  ·exact E2 (by decide +kernel)
 ·exact h
theorem lexJ{l:List (List Pt)}(h:∀x∈l,∀p∈x,okQ p):∀p∈ptJ l,okQ p:=by
 cases l with
 |nil=>intro p hp;cases hp
 |cons x r =>
  intro p hp
  rw[ptJ] at hp
  rcases List.mem_append.1 hp with hp | hp
  ·exact h x (by simp) p hp
  ·obtain ⟨y,hy,hp⟩:=List.mem_flatMap.1 hp
   rcases List.mem_cons.1 hp with rfl | hp
   ·exact Bo2
   ·exact h y (by simp[hy]) p hp
theorem BmN(n:Nd)(hv:BL n=true)(ho:n.ok):∀p∈ptN n,okQ p:=by
 obtain ⟨L2,L3,_⟩:=Mk hv
 have vk:=(GU hv).1
 have kk:∀x∈n.ki,∀p∈ptN x,okQ p:=fun x hx=>BmN x (vk x hx) (Baq ho x hx)
 have kid:∀i,i<n.ki.length->∀p∈ptN (n.ki.getD i default),okQ p:=fun i hi=>kk _ (CY hi)
 have kids:∀ks:List Int,∀p∈n.ki.flatMap (UA ks),okQ p:=fun ks p hp=>by
  obtain ⟨x,hx,hp⟩:=List.mem_flatMap.1 hp
  exact Bd4 (kk x hx) p hp
 have pg:∀i,i<n.ki.length->(ptL n.ki).getD i []=ptN (n.ki.getD i default):=fun i hi=>RB hi
 have cat:∀ {a b:List Pt},(∀p∈a,okQ p)->(∀p∈b,okQ p)->∀p∈a++b,okQ p:=fun ha hb p hp=>by
  rcases List.mem_append.1 hp with hp | hp
  ·exact ha p hp
  ·exact hb p hp
 rw[WB]
 by_cases k3:n.kd=3
 ·rw[if_pos k3];exact kids _
 rw[if_neg k3]
 by_cases k4:n.kd=4
 ·have hL:n.ki.length=2:=L2 (.inl k4)
  rw[if_pos k4,pg 0 (by omega),pg 1 (by omega)]
  exact cat (Bd4 (kid 0 (by omega))) (kid 1 (by omega))
 rw[if_neg k4]
 by_cases k5:n.kd=5
 ·have hL:n.ki.length=3:=L3 (.inl k5)
  rw[if_pos k5,pg 0 (by omega),pg 1 (by omega),pg 2 (by omega)]
  exact cat (Bd4 (kid 1 (by omega))) (cat (Bd4 (kid 0 (by omega))) (kid 2 (by omega)))
 rw[if_neg k5]
 by_cases k16:n.kd=16
 ·rw[if_pos k16];exact kids _
 rw[if_neg k16]
 by_cases k14:n.kd=14
 ·have hL:n.ki.length=2:=L2 (.inr k14)
  rw[if_pos k14,pg 0 (by omega),pg 1 (by omega)]
  exact cat (Bd4 (kid 1 (by omega))) (kid 0 (by omega))
 rw[if_neg k14]
 by_cases k15:n.kd=15
 ·have hL:n.ki.length=3:=L3 (.inr k15)
  rw[if_pos k15,pg 0 (by omega),pg 1 (by omega),pg 2 (by omega)]
  exact cat (Bd4 (kid 1 (by omega))) (cat (kid 0 (by omega)) (Bd4 (kid 2 (by omega))))
 rw[if_neg k15]
 by_cases k10:n.kd=10
 ·rw[if_pos k10]
  have h1:=hv
  rw[Ea,Bool.and_eq_true,if_pos k10,Bool.and_eq_true] at h1
  have hb:=h1.2.2
  unfold CL at hb
  rw[Bool.and_eq_true] at hb
  have st:∀s∈n.bo,∀p∈ptM s,okQ p:=fun s hs=>by
   obtain ⟨q1,q2⟩:=EQ hb.2 s hs
   have z1:=Nd.size_stmt hs
   have z2:=Sm.size_nd s
   have z3:=Sm.size_te s
   have o:=EH (T8 ho s hs)
   have hn:=BmN s.nd q1 o.2
   rw[GN]
   by_cases c2:s.kd=2
   ·rw[if_pos c2]
    obtain ⟨names,hst⟩:=Iy hb.2 s hs
    rw[Iz,Bool.and_eq_true,if_neg (by omega),if_pos c2] at hst
    simp only[Bool.and_eq_true] at hst
    intro p hp
    simp only[List.mem_cons] at hp
    rcases hp with rfl | rfl | hp
    ·exact RK (TY hst.2.1.1.1.1)
    ·exact E2 (by decide +kernel)
    ·exact hn p hp
   ·rw[if_neg c2]
    by_cases c3:s.kd=3
    ·rw[if_pos c3]
     have hv2:BL s.te=true:=by
      rcases q2 with ⟨_,q,_⟩ | ⟨q,_⟩
      ·exact q
      ·exact (q c3).elim
     refine cat (BmN s.te hv2 o.1) fun p hp=>?_
     rcases List.mem_cons.1 hp with rfl | hp
     ·exact E2 (by decide +kernel)
     ·exact hn p hp
    ·rw[if_neg c3];exact hn
  intro p hp
  rcases List.mem_cons.1 hp with rfl | hp
  ·exact E2 (by decide +kernel)
  ·refine cat (lexJ fun x hx=>?_) (fun p hp=>?_) p hp
   ·obtain ⟨s,hs,rfl⟩:=List.mem_map.1 hx
    exact st s hs
   ·rw[List.mem_singleton.1 hp];exact E2 (by decide +kernel)
 ·rw[if_neg k10]
  intro p hp
  rw[List.mem_singleton.1 hp]
  rcases CR hv k10 with hc | ⟨hc,_⟩
  ·exact Bj2 hc ho
  ·unfold C4 at hc
   simp[k3,k4,k5,k14,k15,k16] at hc
termination_by SizeOf.sizeOf n
decreasing_by
 ·exact Nd.size_kid hx
 ·omega
 ·omega
theorem lexM{l:List Sm}(h:PrR l)(ho:∀s∈l,s.ok){s:Sm}(hs:s∈l):∀p∈ptM s,okQ p:=by
 obtain ⟨q1,_,k3,k2⟩:=UV h hs
 have hn:=BmN s.nd q1 (EH (ho s hs)).2
 rw[GN]
 split
 ·rename_i c2
  intro p hp
  simp only[List.mem_cons] at hp
  rcases hp with rfl | rfl | hp
  ·exact RK (TY (k2 c2))
  ·exact E2 (by decide +kernel)
  ·exact hn p hp
 ·first
   |exact hn
   |(rw[if_neg k3];exact hn)
theorem lexB{l:List Sm}(h:PrR l)(ho:∀s∈l,s.ok):∀p∈ptB l,okQ p:=lexJ fun x hx=>by
 obtain ⟨s,hs,rfl⟩:=List.mem_map.1 hx
 exact lexM h ho hs
def kv(t:Tok):Int×Int×List UInt8:=(t.kind,t.num,t.text)
def EF(cmp:Bool)(last:List UInt8)(lv:Int):List Pt->List UInt8
 | []=>[]
 |p::r=>if BeS p=true then (bif cmp then [59] else Mc lv)++EF cmp [] lv r else blB cmp last (prT p)++prT p++EF cmp (prT p) (lvP lv p) r
theorem UL(cmp:Bool):∀(ps:List Pt) (o last:List UInt8) (lv:Int),(ps.foldl (wrS cmp) (o,last,lv)).1=o++EF cmp last lv ps
 | [],o,last,lv=>by simp[EF]
 |p::r,o,last,lv=>by
  rw[List.foldl_cons,EF]
  unfold wrS
  by_cases hp:BeS p=true
  ·rw[if_pos hp,if_pos hp]
   have:=UL cmp r (o++(bif cmp then [59] else Mc lv)) [] lv
   unfold wrS at this
   rw[this,List.append_assoc]
  ·rw[if_neg hp,if_neg hp]
   have:=UL cmp r (o++blB cmp last (prT p)++prT p) (prT p) (lvP lv p)
   unfold wrS at this
   rw[this]
   simp only[List.append_assoc]
theorem Wd:LexG [10] (6,0,[])/\LexG [59] (6,0,[]):=⟨⟨by simp,fun _ _=>rfl⟩,⟨by simp,fun _ _=>rfl⟩⟩
theorem Rm{b:UInt8}(h1:CP b=false)(h2:b≠61)(h3:b≠45)(x m:List UInt8):CA x (b::m)=false:=by
 unfold CA
 rw[List.getD_cons_zero,h1,beq_eq_false_iff_ne.2 h2,beq_eq_false_iff_ne.2 h3]
 simp
theorem UW(x m:List UInt8):nxt x (10::m)/\nxt x (59::m)/\nxt x (32::m) :=
 ⟨.inr (Rm (by decide) (by decide) (by decide) x m),.inr (Rm (by decide) (by decide) (by decide) x m),.inr (Rm (by decide) (by decide) (by decide) x m)⟩
theorem BgR(m:List UInt8):nxt [10] m/\nxt [59] m:=⟨.inr rfl,.inr rfl⟩
theorem Bf9(y:List UInt8):∀(k n p:Nat),k+y.length<n->Ep n (List.replicate k 32++y) p=Ep n y (p+k)
 |0,n,p,_=>by simp
 |k+1,n,p,h=>by
  match n,h with
  |n+1,h =>
   rw[List.replicate_succ,List.cons_append,Rc,Bf9 y k (n+1) (p+1) (by omega)]
   congr 1;omega
theorem OU{x r : List UInt8}{z : Int×Int×List UInt8}(h : LexG x z)(hr : nxt x r){n p : Nat}(hn : (x++r).length<n)
  {l:List (Int×Int×List UInt8)} (ih:∀n p,r.length<n->∃a,Ep n r p=.ok a/\a.map kv=l):∃a,Ep n (x++r) p=.ok a/\a.map kv=z::l:=by
 match n,hn with
 |n+1,hn =>
  have hs:=Bk8 (y:=r) h.1 h.self
  have hx:0<x.length:=List.length_pos_iff.2 h.1
  rw[List.length_append] at hn
  obtain ⟨a,e1,e2⟩:=ih n (p+0+x.length) (by omega)
  rw[Bey hs (by simp[h.1]),h.2 r hr]
  simp only
  rw[List.drop_left,e1]
  exact⟨_,rfl,by rw[List.map_cons,e2];rfl⟩
theorem BiG{cmp:Bool}{x:List UInt8}(hx:x≠[]){E:List UInt8}(hE:E=[]\/E=[10])(lv:Int){r:List Pt}(hr:∀p∈r,prT p≠[]):nxt x (EF cmp x lv r++E):=by
 cases r with
 |nil =>
  rcases hE with rfl | rfl
  ·exact .inl rfl
  ·exact (UW x []).1
 |cons q r =>
  rw[EF]
  by_cases hq:BeS q=true
  ·rw[if_pos hq]
   cases cmp with
   |true=>exact (UW x _).2.1
   |false=>exact (UW x _).1
  ·rw[if_neg hq]
   have hne:=hr q (by simp)
   have hi:x.isEmpty=false:=List.isEmpty_eq_false_iff.2 hx
   unfold blB
   rw[hi]
   have e:∀m:List UInt8,CA x (prT q++m)=CA x (prT q):=fun m=>by
    unfold CA
    rw[Bf7 (List.length_pos_iff.2 hne)]
   cases hb:(!cmp||CA x (prT q)) with
   |true =>
    simp only[Bool.not_false,Bool.true_and,cond_true]
    exact (UW x _).2.2
   |false =>
    rw[Bool.or_eq_false_iff] at hb
    simp only[Bool.not_false,Bool.true_and,cond_false,List.nil_append,List.append_assoc]
    exact .inr (by rw[e];exact hb.2)
theorem IE(cmp : Bool){E : List UInt8}{TE : List (Int×Int×List UInt8)}(hE : (E=[] /\ TE=[]) \/ (E=[10] /\ TE=[(6, 0, [])])) : ∀(ps : List Pt), (∀p∈ps, okQ p) -> ∀(last : List UInt8) (lv : Int) (n p : Nat), (EF cmp last lv ps++E).length<n ->
  ∃a,Ep n (EF cmp last lv ps++E) p=.ok a/\a.map kv=ps.map kvP++TE
 | [],_,last,lv,n,p,hn=>by
  have nil:∀n p,([]:List UInt8).length<n->∃a,Ep n [] p=.ok a/\a.map kv=[]:=fun n p h=>by
   match n,h with
   |n+1,_=>exact⟨[],rfl,rfl⟩
  rcases hE with ⟨rfl,rfl⟩ | ⟨rfl,rfl⟩
  ·exact nil n p hn
  ·have:=OU Wd.1 (r:=[]) (.inl rfl) (n:=n) (p:=p) hn nil
   exact this
 |q::r,h,last,lv,n,p,hn=>by
  have hq:=h q (by simp)
  have hr:∀p∈r,okQ p:=fun p hp=>h p (by simp[hp])
  have hE':E=[]\/E=[10]:=hE.imp (·.1) (·.1)
  rw[EF] at hn ⊢
  by_cases hs:BeS q=true
  ·rw[if_pos hs] at hn ⊢
   have hk:kvP q=(6,0,[]):=by cases q<;>first | rfl | cases hs
   rw[List.map_cons,hk,List.cons_append]
   cases cmp with
   |true =>
    exact OU Wd.2 (r:=EF true [] lv r++E) (BgR _).2 (n:=n) (p:=p) hn fun n p hn=>IE true hE r hr [] lv n p hn
   |false =>
    have e:(bif false then [59] else Mc lv)++EF false [] lv r++E=[10]++(List.replicate (2*lv.toNat) 32++(EF false [] lv r++E)):=by simp[Mc]
    rw[e] at hn ⊢
    refine OU Wd.1 (BgR _).1 hn fun n p hn=>?_
    rw[List.length_append,List.length_replicate] at hn
    rw[Bf9 _ _ _ _ hn]
    exact IE false hE r hr [] lv n _ (by omega)
  ·rw[if_neg hs] at hn ⊢
   rw[List.map_cons,List.cons_append]
   have hn':∀p,(prT q++(EF cmp (prT q) (lvP lv q) r++E)).length<n->∃a,Ep n (prT q++(EF cmp (prT q) (lvP lv q) r++E)) p=.ok a/\a.map kv=kvP q::(r.map kvP++TE):=fun p hn =>
    OU hq (BiG hq.1 hE' _ fun p hp=>(hr p hp).1) hn fun n p hn=>IE cmp hE r hr (prT q) (lvP lv q) n p hn
   rw[List.append_assoc,List.append_assoc] at hn ⊢
   unfold blB at hn ⊢
   cases hb:(!last.isEmpty&&(!cmp||CA last (prT q))) with
   |true =>
    rw[hb] at hn
    simp only[cond_true,List.cons_append,List.nil_append,List.length_cons] at hn ⊢
    match n,hn,hn' with
    |n+1,hn,hn' =>
     rw[Rc]
     exact hn' (p+1) (by omega)
   |false =>
    rw[hb] at hn
    simp only[cond_false,List.nil_append] at hn ⊢
    exact hn' p hn
def BkU(s:List UInt8):Prop:=∃e x,BN s=.error (e,x)/\(e=2\/e=21)
theorem U9:∀(n:Nat) (r:List UInt8) (p:Nat) (l:List Tok),(∃x,GY n r p l=.error (21,x))\/GY n r p l=Bo4 l (Ep n r p)
 |0,r,p,l=>.inr (by simp[GY,Ep,Bo4])
 |n+1,r,p,l=>by
  simp only[GY,Ep]
  by_cases hq:r.drop (BK false r)=[]
  ·rw[if_pos hq,if_pos hq]
   exact .inr (by simp[Bo4])
  ·rw[if_neg hq,if_neg hq]
   generalize B4 (r.drop (BK false r))=z
   match z with
   |.error (e,o)=>exact .inr rfl
   |.ok (kd,len,num,text) =>
    simp only
    by_cases hl:l.length=16384
    ·rw[if_pos hl];exact .inl ⟨_,rfl⟩
    ·rw[if_neg hl]
     rcases U9 n ((r.drop (BK false r)).drop len) (p+BK false r+len) (l++[⟨kd,p+BK false r,len,num,text⟩]) with h | h
     ·exact .inl h
     ·refine .inr ?_
      rw[h]
      cases Ep n ((r.drop (BK false r)).drop len) (p+BK false r+len) with
      |error e=>rfl
      |ok k =>
       show (.ok (l++[_]++k):Except (Int×Nat) (List Tok))=.ok (l++(_::k))
       rw[List.append_assoc];rfl
theorem Bgh{s:List UInt8}{a:List Tok}(h:Ep (s.length+1) s 0=.ok a):BkU s\/BN s=.ok a:=by
 unfold BkU BN
 split
 ·exact .inl ⟨2,0,rfl,.inl rfl⟩
 ·rcases U9 (s.length+1) s 0 [] with ⟨x,e⟩ | e
  ·exact .inl ⟨21,x,e,.inr rfl⟩
  ·rw[e,h]
   exact .inr rfl
def BlT(l:List Sm):List (Int×Int×List UInt8):=if CI l=0 then (ptB l).map kvP else []
theorem Bim(l:List Sm)(ho:∀s∈l,s.ok):BkU (Cc l)\/∃a,BN (Cc l)=.ok a/\a.map kv=BlT l:=by
 unfold Cc BlT
 by_cases h:CI l=0
 ·rw[if_pos h,if_pos h]
  have e:(wrF true (ptB l)).1=EF true [] 0 (ptB l)++[]:=by
   rw[wrF,UL,List.append_nil];rfl
  obtain ⟨a,a1,a2⟩:=IE true (.inl ⟨rfl,rfl⟩) (ptB l) (lexB (GJ h) ho) [] 0 ((EF true [] 0 (ptB l)++[]).length+1) 0 (Nat.lt_succ_self _)
  rw[e]
  rcases Bgh a1 with q | q
  ·exact .inl q
  ·exact .inr ⟨a,q,by rw[a2,List.append_nil]⟩
 ·rw[if_neg h,if_neg h]
  exact .inr ⟨[],rfl,rfl⟩
theorem Bes(l:List Sm)(ho:∀s∈l,s.ok):BkU (BT l)\/∃a,BN (BT l)=.ok a/\((a=[]/\BlT l=[])\/a.map kv=BlT l++[(6,0,[])]):=by
 unfold BT BlT
 by_cases h:CI l=0/\l≠[]
 ·rw[if_pos h,if_pos h.1]
  have e:(wrF false (ptB l)).1++[10]=EF false [] 0 (ptB l)++[10]:=by
   rw[wrF,UL];rfl
  obtain ⟨a,a1,a2⟩:=IE false (.inr ⟨rfl,rfl⟩) (ptB l) (lexB (GJ h.1) ho) [] 0 ((EF false [] 0 (ptB l)++[10]).length+1) 0 (Nat.lt_succ_self _)
  rw[e]
  rcases Bgh a1 with q | q
  ·exact .inl q
  ·exact .inr ⟨a,q,.inr a2⟩
 ·rw[if_neg h]
  refine .inr ⟨[],rfl,.inl ⟨rfl,?_⟩⟩
  by_cases h1:CI l=0
  ·rw[if_pos h1]
   have:l=[]:=Decidable.not_not.1 fun q=>h ⟨h1,q⟩
   subst this
   rfl
  ·rw[if_neg h1]
theorem BhF(l:List Sm)(ho:∀s∈l,s.ok):(Cc l).length<=140737488355328:=by
 unfold Cc
 split
 ·rename_i h
  have:=(Ws true (GJ h) ho (Nat.le_refl (ptB l).length)).ol
  rw[List.take_length] at this
  omega
 ·simp
theorem Bfl(l:List Sm)(ho:∀s∈l,s.ok):(BT l).length<=140737488355328:=by
 unfold BT
 split
 ·rename_i h
  have:=(Ws false (GJ h.1) ho (Nat.le_refl (ptB l).length)).ol
  rw[List.take_length] at this
  rw[List.length_append,List.length_singleton]
  omega
 ·simp
theorem RD:∀(n:Nat) (r:List UInt8) (p:Nat) (l a:List Tok),l.length<=16384->GY n r p l=.ok a->a.length<=16384
 |0,r,p,l,a,h,e=>by
  simp only[GY] at e
  first
   |(cases e;exact h)
   |cases e
 |n+1,r,p,l,a,h,e=>by
  simp only[GY] at e
  split at e
  ·injection e with e;subst e;exact h
  ·split at e
   ·cases e
   ·split at e
    ·cases e
    ·exact RD n _ _ _ a (by simp only[List.length_append,List.length_singleton];omega) e
theorem Blb{s:List UInt8}{a:List Tok}(h:BN s=.ok a):a.length<=16384:=by
 unfold BN at h
 split at h
 ·cases h
 ·exact RD _ _ _ [] a (by simp) h
theorem BkJ{s:List UInt8}(h1:¬scE (BN s)=21)(h2:¬scE (BN s)=2):¬BkU s:=by
 rintro ⟨e,x,q,hq⟩
 rw[q] at h1 h2
 simp only[scE] at h1 h2
 omega
theorem Bj7(l : List Sm)(ho : ∀s∈l, s.ok)(e1 : ¬scE (BN (BT l))=21)(e2 : ¬scE (BN (Cc l))=21)(e3 : ¬scE (BN (BT l))=2)(e4 : ¬scE (BN (Cc l))=2) :
  scE (BN (BT l))=0/\scE (BN (Cc l))=0/\(scL (BN (Cc l))).length<=16384/\((scL (BN (BT l))=[]/\scL (BN (Cc l))=[]) \/
   ((scL (BN (BT l))).length=(scL (BN (Cc l))).length+1/\((scL (BN (BT l))).getD (scL (BN (Cc l))).length default).kind=6 /\
    ∀i,i<(scL (BN (Cc l))).length->kv ((scL (BN (BT l))).getD i default)=kv ((scL (BN (Cc l))).getD i default))):=by
 obtain ⟨b,b1,b2⟩:=(Bim l ho).resolve_left (BkJ e2 e4)
 obtain ⟨a,a1,a2⟩:=(Bes l ho).resolve_left (BkJ e1 e3)
 have cb:=Blb b1
 rw[a1,b1]
 refine⟨rfl,rfl,cb,?_⟩
 simp only[scL]
 rcases a2 with ⟨rfl,q⟩ | q
 ·rw[q] at b2
  exact .inl ⟨rfl,List.map_eq_nil_iff.1 b2⟩
 ·right
  rw[<- b2] at q
  have hl:a.length=b.length+1:=by
   have:=congrArg List.length q
   simpa using this
  have kd:∀i,i<a.length->kv (a.getD i default)=(b.map kv++[(6,0,[])]).getD i (0,0,[]):=fun i hi=>by
   rw[<- q,List.getD_eq_getElem?_getD,List.getD_eq_getElem?_getD,List.getElem?_map,List.getElem?_eq_getElem hi]
   rfl
  refine⟨hl,?_,fun i hi=>?_⟩
  ·have:=kd b.length (by omega)
   rw[List.getD_eq_getElem?_getD (l:=b.map kv++_),List.getElem?_append_right (by simp)] at this
   simp at this
   exact congrArg (·.1) this
  ·rw[kd i (by omega),List.getD_eq_getElem?_getD,List.getElem?_append_left (by simpa using hi),List.getElem?_map,List.getD_eq_getElem?_getD,List.getElem?_eq_getElem hi]
   rfl
theorem BqG{t u:Tok}(h:kv t=kv u):t.kind=u.kind/\t.num=u.num/\t.text=u.text:=by
 simp only[kv,Prod.mk.injEq] at h
 exact h
noncomputable def BjS(l:List Sm):Con:=fun k ds S=>match k with
 |6=>some (pEG (β:=Unit) (α:=Bool) ds S (fun b=>.bool b) (fun _=>True) (fun _=>wkL ds [.agg [gsl 34 Sm.row1 l]]))
 |7=>some (pA ds S (.bool true) (ds=[]))
 |8=>some (pA ds S (.str (BT l)) (wkL ds [.agg [gsl 34 Sm.row1 l]]))
 |10=>some (pA ds S (.str (Cc l)) (wkL ds [.agg [gsl 34 Sm.row1 l]]))
 |12=>match ds with
  | [.str s]=>some (pA ds S (Bok (BN s)) (s.length<=140737488355328))
  |_=>none
 |_=>none
theorem Bkj{l:List Sm}(h:okS l):ConOk Tryz.prog (BjS l):=by
 intro k ds S A hh
 unfold BjS at hh
 split at hh
 ·injection hh with hh;subst hh
  exact Ba2 fun _ e=>CG.wk (Bp5 l h) e
 ·injection hh with hh;subst hh
  exact Bv fun e=>by rw[e];exact CD.at_ BpQ _
 ·injection hh with hh;subst hh
  exact Bv fun e=>CD.at_ (CD.wk (Boh l h.1 h.2.1 h.2.2) e) _
 ·injection hh with hh;subst hh
  exact Bv fun e=>CD.at_ (CD.wk (Bj8 l h.1 h.2.1 h.2.2) e) _
 ·split at hh
  ·injection hh with hh;subst hh
   exact Bv fun e=>CD.at_ (Bmh _ e) _
  ·cases hh
 ·cases hh
noncomputable def Etk(l:List Sm):Senv:={ EC (BjS l) 116 8 [10,41,50,53,61,71,75,114] (fun id=>match id with | 18=>([0,1,2,3,4,5,6,7,8,9,10,11,12,13,14,15,16,17,18,19,20,21,22,23,24,25,26,27,28,29,30,31,32,33,34,35,36],[]) | _=>([],[])) with
 mg:=fun _=>2
 ann:=fun b _ S=>match b with
  |0=>some { slots:=[7],keep:=[3,5],α:=Nat,st:=fun y=>([.int .i64 y],S),inv:=fun y=>y<=(scL (BN (Cc l))).length,mu:=fun y=>(scL (BN (Cc l))).length-y }
  |_=>none }
def Qfm:Arr:=DA
def QaB:Nd:=Nd.mk Z0 Z0 Z0 [] Z0 Z0 Qfm [] [] Z0 Z0 Z0
def Qfn:Sm:=Sm.mk Z0 Z0 [] Z0 QaB QaB
def VK(a:List Sm)(b:Nat):Sm:=List.getD a b Qfn
def QtL(a:List Sm)(b:Nat):List D:=(Sm.row1 (VK a b))
def QtM(a:List Sm):List D:=[D.agg [D.sl 34 (LN a) (fun i=>QtL a i) Mode.any]]
def Qfo(a:List Sm):Prop:=wkL (QtM a) (QtM a)
def JP:Prop:=∃(_x:Unit),CN (List D) [] []/\∀(_y:Unit),True->True/\∃(_y:Unit),True/\SM true/\True/\True
def Qfp(a:List Sm):Except (Int×Nat) (List Tok):=BN (BT a)
def QaE(a:List Sm):Int:=scE (Qfp a)
def Qfq(a:List Sm):Except (Int×Nat) (List Tok):=BN (Cc a)
def QaF(a:List Sm):Int:=scE (Qfq a)
def KG:Prop:=True/\∃(_y:Unit),True/\false=true/\True/\True
def VL(a:List Sm):List Tok:=scL (Qfp a)
def QtN(a:List Sm):Nat:=LN (VL a)
def K7(a:List Sm):Int:=(NI (QtN a))
def XV(a:List Sm):Int:=IntKind.wrap IntKind.i64 (K7 a-Z1)
def QtO(a:List Sm):Nat:=Int.toNat (XV a)
def JQ:Tok:=Tok.mk Z0 Z0 Z0 Z0 []
def QtP(a:List Sm):Nat:=QtO a-N0
def XW(a:List Sm):Int:=(NI (QtP a))
def Qfr(a:List Sm):List Tok:=scL (Qfq a)
def QaG(a:List Sm):Nat:=LN (Qfr a)
def Js(a:List Sm):Int:=(NI (QaG a))
def QaH(a:Nat)(b:List Sm):Prop:=a<=QaG b
def Qw5(a:List Sm):Int:=scA (Qfq a)
def QtQ:Prop:=SM N0/\(∀(i:Nat),i<N0->CN (List D) [] [])/\True
def QtR:Prop:=QtQ/\QtQ/\CN (List UInt8) [] []/\True
def Qw6(a:List Sm):Int:=scA (Qfp a)
def QtS(a:Nat)(b:List Sm)(c d:Nat):Prop:=(SM a/\(SM (QaF b)/\SM (Qw5 b)/\QtR)/\SM c/\(SM (QaE b)/\SM (Qw6 b)/\QtR)/\SM d/\((SM (LN b)/\(∀(i:Nat),i<LN b->SM (QtL b i))/\True)/\True)/\True)/\True
def QtT(a:List Sm)(b c d:Nat):Prop:=∃(x:Nat),QaH x a/\(Z0=(↑x:Int)/\True)/\QtS b a c d
def Qfs(a:List Sm)(b:Nat):Tok:=List.getD (VL a) (N0+Int.toNat (↑b:Int)) JQ
def Qft(a:List Sm)(b:Nat):Tok:=List.getD (Qfr a) (Int.toNat (↑b:Int)) JQ
def QtU(a:List Sm)(b:Nat):Int:=Tok.kind (Qft a b)
def QtV(a:List Sm)(b:Nat):Int:=Tok.num (Qft a b)
def QtW(a:List Sm)(b:Nat):List UInt8:=Tok.text (Qft a b)
def XX(a:List Sm)(b:Nat):Tok:=List.getD (VL a) (N0+b) JQ
def Qw7(a:List Sm):D:=D.sl 5 (QtP a) (fun i=>[ZI (Tok.kind (XX a i)),ZI (Tok.at_ (XX a i)),ZI (Tok.len (XX a i)),ZI (Tok.num (XX a i)),D.str (Tok.text (XX a i))]) Mode.any
def XY(a:List Sm)(b:Nat):Tok:=List.getD (Qfr a) b JQ
def Qw8(a:List Sm):D:=D.sl 5 (QaG a) (fun i=>[ZI (Tok.kind (XY a i)),ZI (Tok.at_ (XY a i)),ZI (Tok.len (XY a i)),ZI (Tok.num (XY a i)),D.str (Tok.text (XY a i))]) Mode.any
def QtX(a:List Sm):Prop:=SM (Qw8 a)/\True
def QtY(a:List Sm)(b:Nat):Nat:=QaG a-b
def QtZ(a:List Sm)(b c d e:Nat):Prop:=∃(y:Nat),QaH y a/\QtY a y<QtY a b/\(IntKind.wrap IntKind.i64 ((↑b:Int)+Z1)=(↑y:Int)/\True)/\QtS c a d e
def Qfu(a:List Sm)(b:Nat):Tok:=List.getD (VL a) (Int.toNat (↑b:Int)) JQ
def XZ(a:List Sm)(b:Nat):Tok:=List.getD (VL a) b JQ
def Qw9(a:List Sm):D:=D.sl 5 (QtN a) (fun i=>[ZI (Tok.kind (XZ a i)),ZI (Tok.at_ (XZ a i)),ZI (Tok.len (XZ a i)),ZI (Tok.num (XZ a i)),D.str (Tok.text (XZ a i))]) Mode.any
theorem Bem(l:List Sm)(h:okS l):CD 5 [.agg [gsl 34 Sm.row1 l]] (.bool true):=by
 refine Bf (A:=sC _ _) (x:=()) (E:=Etk l) (eOk (Bkj h) rfl) Tryz.func5 rfl (by kernel_rfl) rfl (by simp[sC,Etk,EC,E0]) ?_
 refine Bk (T :=
  ∀(x:Nat),True->SM x/\∃(x_1:Unit),Qfo l/\∀(y:Bool),True->ifB (!y) JP (SM x/\∃(x_2:Unit),Qfo l/\∀(y:Unit),True->∃(x_3:Unit),LN (BT l)<=140737488355328/\∀(y:Unit),True->∀(x_4:Nat),x≠x_4/\True->SM x_4/\SM x/\∃(x_5:Unit),Qfo l/\∀(y:Unit),True->∃(x_6:Unit),LN (Cc l)<=140737488355328/\∀(y:Unit),True->∀(x_7:Nat),x_4≠x_7/\x≠x_7/\True->SM x_7/\SM x_4/\ifB (QaE l==21) JP (SM x_7/\ifB (QaF l==21) JP (SM x_4/\ifB (QaE l==2) JP (SM x_7/\ifB (QaF l==2) JP (SM x_4/\ifB (QaE l != Z0) KG (SM x_7/\ifB (QaF l != Z0) KG (ifB (decide (Z0<K7 l)) (Be (Z0<=XV l/\XV l<K7 l) (ifB (Tok.kind (List.getD (VL l) (QtO l) JQ) != (6:Int)) KG (Be (Z0<=Z0/\Z0<=XV l/\XV l<=K7 l) (ifB (XW l != Js l) KG (QtT l x_7 x_4 x/\∀(x_8:Nat),QaH x_8 l->ifB (decide ((↑x_8:Int)<XW l)) (Be (Z0<=(↑x_8:Int)/\(↑x_8:Int)<XW l) (Be (Z0<=(↑x_8:Int)/\(↑x_8:Int)<Js l) (ifB (Tok.kind (Qfs l x_8) != QtU l x_8) KG (Be (Z0<=(↑x_8:Int)/\(↑x_8:Int)<XW l) (Be (Z0<=(↑x_8:Int)/\(↑x_8:Int)<Js l) (ifB (Tok.num (Qfs l x_8) != QtV l x_8) KG (Be (Z0<=(↑x_8:Int)/\(↑x_8:Int)<XW l) (Be (Z0<=(↑x_8:Int)/\(↑x_8:Int)<Js l) (ifB (Tok.text (Qfs l x_8) != QtW l x_8) KG ((SM (Qw7 l)/\QtX l)/\QtZ l x_8 x_7 x_4 x)))))))))) JP))))) (ifB (K7 l != Js l) KG (QtT l x_7 x_4 x/\∀(x_8:Nat),QaH x_8 l->ifB (decide ((↑x_8:Int)<K7 l)) (Be (Z0<=(↑x_8:Int)/\(↑x_8:Int)<K7 l) (Be (Z0<=(↑x_8:Int)/\(↑x_8:Int)<Js l) (ifB (Tok.kind (Qfu l x_8) != QtU l x_8) KG (Be (Z0<=(↑x_8:Int)/\(↑x_8:Int)<K7 l) (Be (Z0<=(↑x_8:Int)/\(↑x_8:Int)<Js l) (ifB (Tok.num (Qfu l x_8) != QtV l x_8) KG (Be (Z0<=(↑x_8:Int)/\(↑x_8:Int)<K7 l) (Be (Z0<=(↑x_8:Int)/\(↑x_8:Int)<Js l) (ifB (Tok.text (Qfu l x_8) != QtW l x_8) KG ((SM (Qw9 l)/\QtX l)/\QtZ l x_8 x_7 x_4 x)))))))))) JP)))))))))) (by kernel_rfl) ?_
 delta DA GI LN N0 N1 N4 NI SI SM Z0 Z1 ZI Qfm QaB QtL QtM Qfn Qfo JP Qfp QaE Qfq QaF KG VL QtN K7 VK XV QtO JQ QtP XW Qfr QaG Js QaH Qw5 QtQ QtR Qw6 QtS QtT Qfs Qft QtU QtV QtW XX Qw7 XY Qw8 QtX QtY QtZ Qfu XZ Qw9
 try simp only[<- dm]
 try simp only[<- dn]
 simp only[ne_eq,implies_true,Int.toNat_natCast,Bh,Bc,decide_eq_true_eq,decide_eq_false_iff_not,true_and,and_true,beq_iff_eq,bne_iff_ne,bne_eq_false_iff_eq,beq_eq_false_iff_ne,Bool.not_eq_true',Bool.not_eq_false',exists_const,forall_const]
 refine fun x=>⟨Bi _,fun y _=>⟨Bi _,?_⟩⟩
 have dt:({ kind:=0,at_:=0,len:=0,num:=0,text:=[] }:Tok)=default:=rfl
 simp only[dt]
 refine⟨Bfl l h.2.1,fun x4 _=>⟨Bi _,BhF l h.2.1,fun x7 _ e1 e2 e3 e4=>?_⟩⟩
 obtain ⟨z1,z2,z3,hk⟩:=Bj7 l h.2.1 e1 e2 e3 e4
 clear e1 e2 e3 e4
 generalize scL (BN (BT l))=a at hk ⊢
 generalize scL (BN (Cc l))=b at hk z3 ⊢
 refine⟨fun q=>absurd z1 q,fun _=>⟨fun q=>absurd z2 q,fun _=>⟨fun hp=>?_,fun hp=>?_⟩⟩⟩
 ·rcases hk with ⟨rfl,_⟩ | ⟨l1,l3,l4⟩
  ·exact absurd hp (by simp)
  have w:IntKind.i64.wrap ((a.length:Int)-1)=((b.length:Nat):Int):=by rw[Bb (by omega) (by omega)];omega
  rw[w]
  simp only[Int.toNat_natCast,Nat.sub_zero,Nat.zero_add]
  refine⟨by omega,fun q=>absurd l3 q,fun _=>⟨by omega,fun q=>absurd trivial q,fun _=>⟨⟨0,Nat.zero_le _,rfl⟩,fun i _ hi=>?_⟩⟩⟩
  have hi':i<b.length:=by omega
  obtain ⟨k1,k2,k3⟩:=BqG (l4 i hi')
  exact⟨⟨by omega,hi⟩,⟨by omega,hi⟩,fun q=>absurd k1 q,fun _=>⟨⟨by omega,hi⟩,⟨by omega,hi⟩,fun q=>absurd k2 q,fun _=>⟨⟨by omega,hi⟩,⟨by omega,hi⟩,fun q=>absurd k3 q,fun _ =>
   ⟨i+1,hi',by omega,by rw[Bb (by omega) (by omega)];rfl⟩⟩⟩⟩
 ·rcases hk with ⟨rfl,rfl⟩ | ⟨l1,l3,l4⟩
  ·exact⟨fun q=>absurd rfl q,fun _=>⟨⟨0,Nat.le_refl _,rfl⟩,fun i _ hi=>absurd hi (by simp)⟩⟩
  ·exact absurd hp (by omega)
theorem Bfc(l:List Sm)(h:okS l):ACalls Tryz.prog 5 [.agg [lsl 34 (Ei l)]] ⟨[],[]⟩ (SpecR (sC [.agg [lsl 34 (Ei l)]] (.bool true)) ()) :=
 CD.isP (Bem l h) (Bi _)
def Rg(P:Program)(TS:List Nat)(t:Nat):Bool :=
 match P.underlying t with
 |some (.slice e)=>TS.contains e&&decide (P.bytesOf e<=4096)
 |some (.struct fs)=>fs.toList.all fun f=>TS.contains f.type
 |some (.pointer e)=>TS.contains e
 |some (.array _ e)=>TS.contains e
 |some (.map k e)=>TS.contains e&&decide (P.bytesOf k+P.bytesOf e<=4096)
 |_=>true
theorem Bck{H:Type}(d:DataW H):1<=Rows.uptoBulk d:=by
 cases d with
 |lit l=>cases l<;>simp[Rows.uptoBulk]
 |nil=>simp[Rows.uptoBulk]
 |ptr d=>simp[Rows.uptoBulk]
 |slice elems spare=>simp[Rows.uptoBulk]
 |agg parts=>simp[Rows.uptoBulk]
 |iface t d=>simp[Rows.uptoBulk]
 |map entries=>simp[Rows.uptoBulk]
 |held h=>simp[Rows.uptoBulk]
theorem W5{H:Type}:∀l:List (DataW H),l.length<=Rows.uptoBulkAll l
 | []=>by simp[Rows.uptoBulkAll]
 |x::r=>by
  have:=Bck x
  have:=W5 r
  simp only[Rows.uptoBulkAll,List.length_cons]
  omega
theorem Bci{H:Type}:∀l:List (Go.Lit×DataW H),l.length<=Rows.uptoBulkEntries l
 | []=>by simp[Rows.uptoBulkEntries]
 |(k,d)::r=>by
  have:=Bck d
  have:=Bci r
  have h:1<=Rows.uptoBulkEntry (k,d):=by cases k<;>simp[Rows.uptoBulkEntry]
  simp only[Rows.uptoBulkEntries,List.length_cons]
  omega
theorem Bcs{a b c:Nat}(h1:a<=c)(h2:b<=4096):a*b<=8192*c:=by
 calc a*b<=c*4096:=Nat.mul_le_mul h1 h2
  _<=8192*c:=by omega
mutual
theorem Bk5{P:Program}{TS:List Nat}(hT:∀t∈TS,Rg P TS t=true){H:Type}:∀(d:DataW H) (t:Nat),t∈TS->∀x∈d.weights P t,x<=8192*Rows.uptoBulk d
 |.lit l,t,_,x,hx=>by
  cases l with
  |string bytes =>
   simp only[DataW.weights,List.mem_singleton] at hx
   simp only[Rows.uptoBulk]
   omega
  |_=>simp[DataW.weights] at hx
 |.nil,t,_,x,hx=>by simp[DataW.weights] at hx
 |.ptr d,t,ht,x,hx=>by
  have ho:=hT t ht
  simp only[DataW.weights] at hx
  unfold Rg at ho
  split at hx
  ·rename_i e hu
   rw[hu] at ho
   have:=Bk5 hT d e (by simpa using ho) x hx
   simp only[Rows.uptoBulk]
   omega
  ·simp at hx
 |.slice elems spare,t,ht,x,hx=>by
  have ho:=hT t ht
  simp only[DataW.weights] at hx
  unfold Rg at ho
  split at hx
  ·rename_i e hu
   rw[hu] at ho
   simp only[Bool.and_eq_true,decide_eq_true_eq] at ho
   have he:e∈TS:=by simpa using ho.1
   simp only[Rows.uptoBulk]
   rcases List.mem_cons.1 hx with rfl | hx
   ·exact Nat.le_trans (Bcs (Nat.add_le_add (W5 elems) (W5 spare)) ho.2) (by omega)
   ·rcases List.mem_append.1 hx with hx | hx
    ·have:=UI hT elems e he x hx
     omega
    ·have:=UI hT spare e he x hx
     omega
  ·simp at hx
 |.agg parts,t,ht,x,hx=>by
  have ho:=hT t ht
  simp only[DataW.weights] at hx
  unfold Rg at ho
  split at hx
  ·rename_i fs hu
   rw[hu] at ho
   have:=WO hT (fs.toList.map (·.type)) parts (fun t h=>by
    obtain ⟨f,hf,rfl⟩:=List.mem_map.1 h
    simpa using List.all_eq_true.1 ho f hf) x hx
   simp only[Rows.uptoBulk]
   omega
  ·rename_i e hu
   rw[hu] at ho
   have:=UI hT parts e (by simpa using ho) x hx
   simp only[Rows.uptoBulk]
   omega
  ·simp at hx
 |.iface _ _,t,_,x,hx=>by simp[DataW.weights] at hx
 |.map entries,t,ht,x,hx=>by
  have ho:=hT t ht
  simp only[DataW.weights] at hx
  unfold Rg at ho
  split at hx
  ·rename_i k e hu
   rw[hu] at ho
   simp only[Bool.and_eq_true,decide_eq_true_eq] at ho
   simp only[Rows.uptoBulk]
   rcases List.mem_cons.1 hx with rfl | hx
   ·exact Nat.le_trans (Bcs (Bci entries) ho.2) (by omega)
   ·have:=BgN hT entries e (by simpa using ho.1) x hx
    omega
  ·simp at hx
 |.held _,t,_,x,hx=>by simp[DataW.weights] at hx
theorem UI{P:Program}{TS:List Nat}(hT:∀t∈TS,Rg P TS t=true){H:Type}:∀(l:List (DataW H)) (e:Nat),e∈TS->∀x∈DataW.weightsAll P e l,x<=8192*Rows.uptoBulkAll l
 | [],e,_,x,hx=>by simp[DataW.weightsAll] at hx
 |d::r,e,he,x,hx=>by
  simp only[DataW.weightsAll] at hx
  simp only[Rows.uptoBulkAll]
  rcases List.mem_append.1 hx with hx | hx
  ·have:=Bk5 hT d e he x hx;omega
  ·have:=UI hT r e he x hx;omega
theorem WO{P:Program}{TS:List Nat}(hT:∀t∈TS,Rg P TS t=true){H:Type}:∀(ts:List Nat) (l:List (DataW H)),(∀t∈ts,t∈TS)->∀x∈DataW.weightsEach P ts l,x<=8192*Rows.uptoBulkAll l
 | [],l,_,x,hx=>by simp[DataW.weightsEach] at hx
 |t::ts,[],_,x,hx=>by simp[DataW.weightsEach] at hx
 |t::ts,d::r,ht,x,hx=>by
  simp only[DataW.weightsEach] at hx
  simp only[Rows.uptoBulkAll]
  rcases List.mem_append.1 hx with hx | hx
  ·have:=Bk5 hT d t (ht t (by simp)) x hx;omega
  ·have:=WO hT ts r (fun u hu=>ht u (by simp[hu])) x hx;omega
theorem BgN{P:Program}{TS:List Nat}(hT:∀t∈TS,Rg P TS t=true){H:Type}:∀(l:List (Go.Lit×DataW H)) (e:Nat),e∈TS->∀x∈DataW.weightsEntries P e l,x<=8192*Rows.uptoBulkEntries l
 | [],e,_,x,hx=>by simp[DataW.weightsEntries] at hx
 |(k,d)::r,e,he,x,hx=>by
  simp only[DataW.weightsEntries] at hx
  simp only[Rows.uptoBulkEntries]
  rcases List.mem_append.1 hx with hx | hx
  ·cases k with
   |string bytes =>
    simp only[DataW.weightsEntry] at hx
    simp only[Rows.uptoBulkEntry]
    rcases List.mem_cons.1 hx with rfl | hx
    ·omega
    ·have:=Bk5 hT d e he x hx;omega
   |_ =>
    simp only[DataW.weightsEntry] at hx
    simp only[Rows.uptoBulkEntry]
    have:=Bk5 hT d e he x hx;omega
  ·have:=BgN hT r e he x hx;omega
end
theorem Bne{P:Program}{TS:List Nat}(hT:∀t∈TS,Rg P TS t=true){H:Type}{ts:List Nat}(hts:∀t∈ts,t∈TS){ds:List (DataW H)}(hk:Rows.uptoSmall H ds=true):(DataW.weightsEach P ts ds).all (·<=By)=true:=by
 have hb:Rows.uptoBulkAll ds<=1048576:=of_decide_eq_true hk
 refine List.all_eq_true.2 fun x hx=>?_
 have:=WO hT ts ds hts x hx
 unfold By
 simp only[decide_eq_true_eq]
 omega
open Go Go.Ab Go.RowKit Go.Lib Go.Shelf
theorem own:ownKnob Tryz.prog.godebug=none:=by kernel_rfl
theorem laid:laidOutB Tryz.prog=true:=by kernel_rfl
theorem gN0 : Tryz.prog.globalNamed "internal/strconv.uint64pow10" = some 6 := by kernel_rfl
theorem tN0:(Tryz.prog.globals[6]?).map (·.type)=some 232:=by kernel_rfl
theorem gN1 : Tryz.prog.globalNamed "math/bits.deBruijn64tab" = some 8 := by kernel_rfl
theorem tN1:(Tryz.prog.globals[8]?).map (·.type)=some 237:=by kernel_rfl
theorem gN2 : Tryz.prog.globalNamed "math/bits.deBruijn32tab" = some 7 := by kernel_rfl
theorem tN2:(Tryz.prog.globals[7]?).map (·.type)=some 236:=by kernel_rfl
theorem u8x:U8Extra Tryz.prog Tryz.lays260_ren:=⟨by kernel_rfl,by kernel_rfl,by kernel_rfl,by kernel_rfl,by kernel_rfl,by kernel_rfl,by kernel_rfl⟩
theorem csx:CaseExtra Tryz.prog Tryz.lays204_ren:=⟨by kernel_rfl,by kernel_rfl,by kernel_rfl,by kernel_rfl,by kernel_rfl,by kernel_rfl⟩
def BqK : List (String × DataW Unit) := [("math/bits.deBruijn32tab", Rows.laid_math_bits_deBruijn32tab), ("math/bits.deBruijn64tab", Rows.laid_math_bits_deBruijn64tab), ("internal/strconv.uint64pow10", Rows.laid_internal_strconv_uint64pow10), ("unicode/utf8.acceptRanges", Rows.laid_unicode_utf8_acceptRanges)]
def Bqq : List (String × DataW Unit) := [("strconv.ErrRange", Rows.laid_strconv_ErrRange), ("strconv.ErrSyntax", Rows.laid_strconv_ErrSyntax)]
def To : List (String × DataW Unit) := [("math/bits.deBruijn32tab", Rows.laid_math_bits_deBruijn32tab), ("math/bits.deBruijn64tab", Rows.laid_math_bits_deBruijn64tab), ("internal/strconv.uint64pow10", Rows.laid_internal_strconv_uint64pow10), ("unicode/utf8.acceptRanges", Rows.laid_unicode_utf8_acceptRanges), ("strconv.ErrRange", Rows.laid_strconv_ErrRange), ("strconv.ErrSyntax", Rows.laid_strconv_ErrSyntax), ("unicode.CaseRanges", Rows.laid_unicode_CaseRanges), ("unicode/utf8.first", Rows.laid_unicode_utf8_first)]
theorem Bdt:Rows.laid_unicode_utf8_first=firstData:=Pinned.utf8First_eq
theorem BmP:Rows.laid_unicode_CaseRanges=caseData:=Pinned.caseRanges_eq
theorem Bg1:(Rows.laid_unicode_utf8_acceptRanges:DataW Unit)=acceptData:=by kernel_rfl
theorem BmQ{W:World}(h:laidMetH Tryz.prog To W):G0 W:=by
 have h0:laidMet Tryz.prog To W:=h
 have m1 : ("unicode/utf8.first", firstData) ∈ To := by rw [← Bdt]; simp [To]
 have m2 : ("unicode/utf8.acceptRanges", acceptData) ∈ To := by rw [← Bg1]; simp [To]
 have hT:Lib.Utf8Tabs (Tryz.lays260_ren.g 3) (Tryz.lays260_ren.g 4) W:=utf8Tabs_of_readsT (U8Types.of260 Tryz.lays260) u8x (laidMet.reads h0 m1) (laidMet.reads h0 m2)
 have h1:=laidMet.tail h0
 have h2:=laidMet.tail h1
 exact⟨Lib.tabIs_of_head gN0 tN0 Tryz.underlying232 Tryz.underlying114 (by kernel_rfl) (by kernel_rfl) h2,
  Lib.tabIs_of_head gN1 tN1 Tryz.underlying237 Tryz.underlying5 (by kernel_rfl) (by kernel_rfl) h1,
  Lib.tabIs_of_head gN2 tN2 Tryz.underlying236 Tryz.underlying5 (by kernel_rfl) (by kernel_rfl) h0,hT⟩
noncomputable def Bc4(l:Array Value):Obj->Obj
 |.cells _ t frozen=>.cells l t frozen
 |o=>o
noncomputable abbrev BhT:Nat:=(World.settled Tryz.prog default).heap.size
noncomputable def Et(os:Os):World :=
 let N:=(World.settled Tryz.prog os).heap.size
 let w0:=World.holding Tryz.prog os ⟨#[.cells Lib.caseCells5 213,.cells #[.string ⟨#[118,97,108,117,101,32,111,117,116,32,111,102,32,114,97,110,103,101]⟩] 222,.cells #[.string ⟨#[105,110,118,97,108,105,100,32,115,121,110,116,97,120]⟩] 222],#[],[]⟩
 let h1:=w0.heap.modify 2 (Bc4 (Lib.firstTab.map fun z=>Value.int .u8 z).toArray)
 let h2:=h1.modify 3 (Bc4 ((List.range 16).flatMap fun i=>[Value.int .u8 (Lib.accLo i),Value.int .u8 (Lib.accHi i)]).toArray)
 let h3:=h2.modify 1 (Bc4 #[.slice (some ⟨N,0,none⟩) 336 336])
 let h4:=h3.modify 6 (Bc4 (Lib.pow10Tab.map fun z=>Value.int .u64 z).toArray)
 let h5:=h4.modify 4 (Bc4 #[.iface 220 (.pointer (some ⟨N+2,0,none⟩))])
 let h6:=h5.modify 5 (Bc4 #[.iface 220 (.pointer (some ⟨N+1,0,none⟩))])
 let h7:=h6.modify 7 (Bc4 (Lib.deBruijn32tab.map fun z=>Value.int .u8 (Int.ofNat z)).toArray)
 let h8:=h7.modify 8 (Bc4 (Lib.deBruijn64tab.map fun z=>Value.int .u8 (Int.ofNat z)).toArray)
 { w0 with heap:=h8 }
theorem Bmp{w : World}(R : Nat)(hvar : w.heap[1]? = some (.cells #[.slice (some ⟨R, 0, none⟩) 336 336] 182 (0, 0)))(hblk : w.heap[R]? = some (.cells Lib.caseCells5 213 (0, 0)))(hR : ([1, R] : List Nat).Nodup) : LaidIn Tryz.prog w [("unicode.CaseRanges", caseData)] [1, R] := by
 have hT:=caseTab_of_block hblk
 have hs:caseA.size=336:=caseA_size
 have hread:=case_slice_reads { Tryz.lays204 with } Tryz.underlying210 csx hT caseA_wf (by rw[hs];unfold maxLen;omega) 0
 rw[case_rows_data,hs] at hread
 have hv : w.var? Tryz.prog "unicode.CaseRanges" = some #[.slice (some ⟨R, 0, none⟩) 336 336] := by
  unfold World.var?
  have e:Tryz.lays204_ren.g 13=1:=rfl
  rw[csx.n13,Option.bind_some,e]
  simp only[hvar]
 have hshape:MemPlace.row ⟨1,0,none⟩ (#[Value.slice (some ⟨R,0,none⟩) 336 336]:Array Value).size++MemPlace.row ⟨R,0,none⟩ (336*5)=([((⟨1,0,none⟩:Addr),1),(⟨R,0,none⟩,336*5)]:List (Addr×Nat)).flatMap (fun r=>MemPlace.row r.1 r.2):=by simp
 refine LaidIn.one (g:=1) _ csx.n13 csx.y13 hv hread ?_ ?_ ?_
 ·rw[hshape]
  exact rows_nodup _ hR
 ·rw[hshape]
  intro b off hp
  simp only[List.flatMap_cons,List.flatMap_nil,List.append_nil,List.mem_append] at hp
  rcases hp with hp | hp
  ·obtain ⟨i,hi,e'⟩:=MemPlace.mem_row.1 hp
   cases e'
   refine⟨⟨_,_,hvar⟩,fun u v hc'=>?_⟩
   obtain rfl:i=0:=by omega
   rw[Lib.cell_of_heap hvar] at hc'
   simp at hc'
  ·obtain ⟨i,hi,e'⟩:=MemPlace.mem_row.1 hp
   cases e'
   refine⟨⟨_,_,hblk⟩,fun u v hc'=>?_⟩
   exfalso
   obtain ⟨c0,c1,c2,c3,c4⟩:=hT (i / 5) (by rw[hs];omega)
   rcases (by omega:i % 5=0\/i % 5=1\/i % 5=2\/i % 5=3\/i % 5=4) with h | h | h | h | h
   ·rw[show 0+i=0+i / 5*5 by omega,c0] at hc'; cases hc'
   ·rw[show 0+i=0+i / 5*5+1 by omega,c1] at hc'; cases hc'
   ·rw[show 0+i=0+i / 5*5+2 by omega,c2] at hc'; cases hc'
   ·rw[show 0+i=0+i / 5*5+3 by omega,c3] at hc'; cases hc'
   ·rw[show 0+i=0+i / 5*5+4 by omega,c4] at hc'; cases hc'
 ·rw[hshape]
  exact rows_block _
theorem BhM(os:Os)(args:Array Value):laidMet Tryz.prog To ((Et os).forCall (fun _ _=>0) ⟨#[],args,[]⟩).memory:=by
 have pA:LaidIn Tryz.prog ((Et os).forCall (fun _ _=>0) ⟨#[],args,[]⟩).memory BqK [7,8,6,3]:=LaidIn.of_run [7,8,6,3] 8 (by kernel_rfl) (by kernel_rfl) (by kernel_rfl) (by kernel_rfl)
 have pB:LaidIn Tryz.prog ((Et os).forCall (fun _ _=>0) ⟨#[],args,[]⟩).memory Bqq [5,BhT+1,4,BhT+2]:=LaidIn.of_run [5,BhT+1,4,BhT+2] 8 (by kernel_rfl) (by kernel_rfl) (by kernel_rfl) (by kernel_rfl)
 have pC : LaidIn Tryz.prog ((Et os).forCall (fun _ _ => 0) ⟨#[], args, []⟩).memory [("unicode.CaseRanges", caseData)] [1, BhT] := Bmp BhT (by kernel_rfl) (by kernel_rfl) (of_decide_eq_true (by kernel_rfl))
 have pD : LaidIn Tryz.prog ((Et os).forCall (fun _ _ => 0) ⟨#[], args, []⟩).memory [("unicode/utf8.first", firstData)] [2] := LaidIn.of_run [2] 8 (by kernel_rfl) (by kernel_rfl) (by kernel_rfl) (by kernel_rfl)
 have h:=(((pA.append pB (by kernel_rfl)).append pC (by kernel_rfl)).append pD (by kernel_rfl)).met
 rw[<- Bdt,<- BmP] at h
 exact h
def TSl:List Nat:=List.range 250
theorem BqO:∀t∈TSl,Rg Tryz.prog TSl t=true:=List.all_eq_true.1 (show TSl.all (Rg Tryz.prog TSl)=true by kernel_rfl)
theorem BhO{α:Type}{o:Option α}{p:α->Bool}(h:(match o with | some x=>p x | none=>false)=true):∃x,o=some x/\p x=true:=by
 cases o with
 |none=>cases h
 |some x=>exact⟨x,rfl,h⟩
def RPg:List D->Prop:=fun ds=>∃l:List Sm,okS l/\ds=[lsl 34 (Ei l)]
theorem BmC(W:World)(n:Nat):ReadAt Tryz.prog W n 24 RPg:=by
 cases n with
 |zero=>exact .zero _ _
 |succ m =>
  have hb:ReadAt Tryz.prog W m 22 (RSliceA 34 RSm):=by
   cases m with
   |zero=>exact .zero _ _
   |succ k=>exact E9 (w:=34) Tryz.underlying22 (by kernel_rfl) (by decide) (by decide +kernel) (BgX W k fun j _=>Bng W j)
  refine (Ik Tryz.underlying24 (by kernel_rfl) (Rs:=[RSliceA 34 RSm]) ⟨hb,trivial⟩).mono ?_
  rintro ds ⟨_,_,⟨l,h1,h2,rfl⟩,h3,rfl⟩
  obtain rfl:_=[]:=h3
  obtain ⟨bo,qb,rfl⟩:=Go.Ab.rows_of (g:=Sm.row) (Q:=fun a=>a.ok/\a.sm) (fun x hx=>hx) l h1
  refine⟨bo,⟨by simpa using h2,fun s hs=>(qb s hs).1,fun s hs=>(qb s hs).2⟩,?_⟩
  simp only[Ej,lsl,List.append_nil]
open Go Go.Ab Go.RowKit
noncomputable def BiI:Array Value:=#[.agg #[.slice none 0 0]]
theorem Bg4(os:Os):laidMet Tryz.prog To ((Et os).forCall (fun _ _=>0) ⟨#[],BiI,[]⟩).memory :=
 BhM os BiI
theorem BoF(os:Os){H:Type}(enc:TypeId×Value->H):∃x,DataW.whole enc Tryz.prog ((Et os).forCall (fun _ _=>0) ⟨#[],BiI,[]⟩).memory [24] [] false (BiI).toList 8=some x/\Rows.uptoSmall H (x.1++x.2.1)=true :=
 BhO (by kernel_rfl)
theorem Bg0{H : Type}{enc : TypeId×Value -> H}
  (W:World) (base:Nat) (args:Array Value) (ds gs:List (DataW H)) (before:List MemPlace)
  (hval:∀(j:Nat) t v,Tryz.f5.params[j]? =some t->args[j]? =some v->Value.okWide Tryz.prog W .any base t v)
  (hW:DataW.Whole enc Tryz.prog Tryz.f5.params.toList Rows.printerTokensSpec.vars false W args.toList ds gs before)
  (hsz:(DataW.weightsEach Tryz.prog (Tryz.f5.params.toList++Rows.printerTokensSpec.plain.varTypes Tryz.prog) (ds++gs)).all (·<=By)=true) (hL:laidMetH Tryz.prog To W) :
  Calls Tryz.prog 5 args W fun e W'=>∃v,e=.returned v/\Rows.printerTokensSpec.post enc Tryz.prog Tryz.f5 false true false false W args v W':=by
 refine BbZ (rs:=[(24,RPg)]) laid (by rw[Tryz.params5];kernel_rfl) rfl (fun ds hd=>?_) (rt:=4) rfl Tryz.underlying4 (by rw[Tryz.params5];rfl) ?_ W (BmQ hL) base args ds gs before hval hW hsz ?_
 ·rw[Tryz.params5] at hd
  match ds,hd with
  | [_],_=>exact⟨rfl,rfl,rfl⟩
 ·intro r hr
  simp only[List.mem_cons,List.not_mem_nil,or_false] at hr
  subst hr
  exact BmC
 ·intro Ds h
  obtain ⟨dx,_,rfl,hx,h⟩:=h.agg (by kernel_rfl)
  obtain rfl:=h.nil
  obtain ⟨x,hokx,rfl⟩:=hx
  exact (Bfc x hokx).mono fun r S' ⟨_,_,hr,_⟩=>hr
theorem BmX(os : Os)(started : os.Started)(H : Type)(enc : TypeId×Value -> H)(F : Stop.Interp) :
  ReturnsInHanded {} Tryz.checked os 5 .any ((Rows.OpenSpec.upto Rows.printerTokensSpec).preRow enc Tryz.prog Tryz.f5 Rows.printerTokensUptoRow.domain false Rows.printerTokensUptoRow.laid) (((Rows.OpenSpec.upto Rows.printerTokensSpec).at F).post enc Tryz.prog Tryz.f5 false true false false):=by
 obtain ⟨x,hx,hxk⟩:=BoF os enc
 refine returnsInHanded_of_row (C:=Tryz.checked) (s:=Rows.OpenSpec.upto Rows.printerTokensSpec) own started (by kernel_rfl) Tryz.func5
  (witness_row_atRef (enc:=enc) (C:=Tryz.checked) false (Et os) BiI rfl (by kernel_rfl) (by kernel_rfl) (by kernel_rfl)
   (OpenSpec.preRow_of_cond 8 hx rfl (fun k hk=>by cases hk;exact hxk) (by kernel_rfl) (Bg4 os))) ?_
 intro W base args ds gs before hval hW _ hk _ hL _ _
 refine Bg0 W base args ds gs before hval hW ?_ hL
 have e:Tryz.f5.params.toList++Rows.printerTokensSpec.plain.varTypes Tryz.prog=[24]:=by rw[Tryz.params5];kernel_rfl
 rw[e]
 exact Bne BqO (by decide +kernel) (hk _ rfl)
theorem BpZ:Rows.PrinterTokensUptoSaid :=
 OpenClaim.holds_of_cond 5 Tryz.f5 rfl rfl rfl rfl rfl rfl rfl ⟨rfl,rfl,rfl,rfl,rfl⟩ rfl rfl rfl rfl rfl (by kernel_rfl) Tryz.func5 (by kernel_rfl)
  (of_decide_eq_true (by kernel_rfl)) (by unfold Func.isWrapper;first | (rw[if_pos (by decide +kernel)];kernel_rfl) | (rw[if_neg (by decide +kernel)];exact⟨rfl,rfl⟩))
  (fun os started H enc _ F=>by rw[OpenClaim.pre_eq_preRow];exact BmX os started H enc F)
theorem Bps(f : FuncId)(fn : Func)(hf : Tryz.pinned.checked.prog.funcNamed "arraylang/arraylanglaw13.PrinterTokens" = some f)(hfn : Tryz.pinned.checked.prog.funcs[f]? = some fn) :
  true=Tryz.pinned.checked.prog.looks []/\∀(j:Nat) t,fn.params[j]? =some t->Tryz.pinned.checked.prog.wantsStandIn t=false:=by
 obtain rfl : f = 5 := Option.some.inj ((show Tryz.prog.funcNamed "arraylang/arraylanglaw13.PrinterTokens" = some 5 by kernel_rfl).symm.trans hf) |>.symm
 obtain rfl:fn=Tryz.f5:=(Option.some.inj (Tryz.func5.symm.trans hfn)).symm
 refine⟨by kernel_rfl,fun j t ht=>?_⟩
 rw[Tryz.params5] at ht
 have hm:t∈[24]:=by simpa using Array.mem_of_getElem? ht
 simp only[List.mem_cons,List.not_mem_nil,or_false] at hm
 subst hm
 exact (show Tryz.prog.wantsStandIn 24=false by kernel_rfl)
theorem provedPrinterTokens:Rows.PrinterTokensUptoCardSaid :=
 Claim7.holds_tied_plain_at .later [] _ _ _ _ BpZ (fun _ h=>by cases h) (by kernel_rfl) (fun _ h=>by cases h) printerTokensUpto_row_tie rfl ⟨rfl,rfl⟩ (by kernel_rfl) rfl Bps (by kernel_rfl)
end
end Go.Proofs.YtaagdbcaeokjkaaGreatDoor
