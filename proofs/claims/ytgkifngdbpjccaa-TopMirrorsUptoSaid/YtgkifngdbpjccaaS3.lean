/- Functions of the given program and what each of them computes: lemmas towards the statement, their conditions stated with each of them. -/
import Derived.Test.YtgkifngdbpjccaaS2
namespace Go.Proofs.Ytgkifngdbpjccaa
open Go Go.Ab
set_option maxRecDepth 100000
noncomputable section
def J4(a:Arr):Nat:=LN (Arr.sh a)
def Qbb(a:Arr)(b:List Int):Bool:=bif (NI (J4 a))==Z0 then (LI b)==(LI b) else false
def Xa(a:List Int)(b:Nat):List D:=[ZI (GI a b)]
def QhW(a:List Int):List D:=[D.sl N1 (LN a) (fun i=>Xa a i) Mode.any]
def QhX(a:List Int)(b:Nat):List D:=BA (fun i=>Xa a i) N0 [ZI Z1] b
def Qbc(a:D):Bool:=match a with | D.unk=>false | D.agg _cs=>false | D.tup _ds=>false | _x=>true
def Qbd(a:Arr):Prop:=SM (Arr.k a)
def QhY(a:Arr)(b:Nat):List D:=[ZI (GI (Arr.sh a) b)]
def Qbe(a:Arr):Prop:=SM (J4 a)/\(∀(i:Nat),i<J4 a->SM (QhY a i))/\True
def Qbf(a:Arr):Nat:=LN (Arr.nu a)
def QhZ(a:Arr)(b:Nat):List D:=[ZI (GI (Arr.nu a) b)]
def Qbg(a:Arr):Prop:=SM (Qbf a)/\(∀(i:Nat),i<Qbf a->SM (QhZ a i))/\True
def Qbh(a:Arr):Nat:=LN (Arr.it a)
def Qh0(a:Arr)(b:Nat):List D:=Arr.row (GA (Arr.it a) b)
def Qbi(a:Arr):Prop:=SM (Qbh a)/\(∀(i:Nat),i<Qbh a->SM (Qh0 a i))/\True
def Qbj(a:List Int)(b:Nat):List D:=[ZI (GI (Z1::List.tail a) b)]
def Qbk(a:Arr):D:=D.sl N1 (J4 a) (fun i=>QhY a i) Mode.any
def Qbl(a:Arr)(b:List Int):Prop:=[Qbk a]=QhW b/\b≠[]/\LN b<=1000000
def Qmm(a:Arr):D:=D.agg [ZI (Arr.k a),Qbk a,D.sl N1 (Qbf a) (fun i=>QhZ a i) Mode.any,D.sl N4 (Qbh a) (fun i=>Qh0 a i) Mode.any]
def Xb(a:Nat)(b:Arr):Prop:=SM a/\SM (Qmm b)
def Qh1(a:List Int)(b:Nat):List D:=Bp (LN a) (fun i=>Xa a i) (fun i=>List.getD [[ZI Z1]] i []) b
def Qh2(a:Nat)(b:Arr)(c:List Int)(d e f:Nat):Prop:=Xb a b/\Z0<=Z0/\Z0<=(LI c)/\Z0<(↑d:Int)/\ifB (Z0==(LI c)) (SM e/\SM d/\Bc (LN c<=LN c/\(LN c+N1)*8<=140737488355328/\LN c+N1<=9223372036854775807) (∀(y cap':Nat),LN c+N1<=cap'->True/\Xb a b/\SM f/\SM y/\SM cap'/\Bc (LN c+N1<=LN c+N1) ((∀(i:Nat),i<LN c+N1->(List.all (Qh1 c i) fun (x:D)=>Qbc x)=true)/\∀(_t:Nat),(SM f/\True)/\∃(_y:Unit),True/\(Qbd b/\Qbe b/\Qbg b/\Qbi b/\(LN c+N1=LN (Z1::List.tail c)/\(∀(i:Nat),i<LN c+N1->Qh1 c i=Qbj c i)/\True)/\True)/\True/\True))) False
theorem Be0(a:Arr)(like:List Int)(hs:a.sh=[])(hl:like≠[]/\like.length<=8):CD 37 [.agg a.row1,isl like .any,.int .i64 (like.length:Nat),.int .i64 0] (exD a (1::like.tail)):=by
 refine Bo (A:=sC _ _) (x:=()) (E:=Eex like) (eOk MR rfl) Try.func37 rfl (by kernel_rfl) rfl (by simp[sC,Eex,EC,E0]) ?_
 refine Bu (T :=
  ∀(x:Nat),True->∀(x_1:Nat),x≠x_1/\True->(SM x/\ifB ((NI (J4 a))==Z0) (((LI like)==(LI like))=Qbb a like/\True) (false=Qbb a like/\True))/\ifB (Qbb a like) ((SM (QhW like)/\like≠[]/\LN like<=1000000)/\∀(y:Nat×Nat),LN like<=y.2->Bc (Z0<=Z0/\Z0<(LI like)) (SM y.1/\Bc (N0<LN like) (SM x/\SM x_1/\SM y.1/\SM y.2/\Bc (LN like<=LN like) ((∀(i:Nat),i<LN like->(List.all (QhX like i) fun (x:D)=>Qbc x)=true)/\∀(t:Nat),(SM x_1/\True)/\∃(y:Unit),True/\(Qbd a/\Qbe a/\Qbg a/\Qbi a/\(LN like=LN (Z1::List.tail like)/\(∀(i:Nat),i<LN like->QhX like i=Qbj like i)/\True)/\True)/\True/\True)))) (SM x/\ifB (decide ((NI (J4 a))<(LI like))) (SM x/\SM x/\(Qbl a like/\∀(y:Nat×Nat),LN like<=y.2->Xb x a/\Qh2 x a like y.2 y.1 x_1)/\(SM x/\SM (Qbk a))/\Xb x a/\Qbl a like/\∀(y:Nat×Nat),LN like<=y.2->Qh2 x a like y.2 y.1 x_1) (SM x/\SM x/\Qbl a like/\∀(y:Nat×Nat),LN like<=y.2->Xb x a/\SM x_1/\SM y.1/\SM y.2/\Bc (LN like<=LN like) ((∀(i:Nat),i<LN like->(List.all (Xa like i) fun (x:D)=>Qbc x)=true)/\∀(t:Nat),(SM x_1/\True)/\∃(y:Unit),True/\(Qbd a/\Qbe a/\Qbg a/\Qbi a/\(LN like=LN (Z1::List.tail like)/\(∀(i:Nat),i<LN like->Xa like i=Qbj like i)/\True)/\True)/\True/\True)))) (by kernel_rfl) ?_
 delta DA GA GI LI LN N0 N1 N4 NI SM Z0 Z1 ZI J4 Qbb QhZ Qbg Qbh Qh0 Qbi Qbj Qbk Qbl Qmm Xb Xa Qh1 Qh2 QhW QhX Qbc Qbd QhY Qbe Qbf
 have da:(default:Arr)=Arr.mk 0 [] [] []:=rfl
 simp only[<- da]
 simp only[ne_eq,implies_true,Bl,Be,decide_eq_true_eq,decide_eq_false_iff_not,true_and,and_true,beq_iff_eq,beq_eq_false_iff_ne,exists_const,forall_const]
 have hsl:0<like.length:=List.length_pos_iff.2 hl.1
 have e0:((a.sh.length:Int)==0)=true:=by rw[hs];rfl
 simp only[e0,cond_true,beq_self_eq_true]
 refine fun _ _ _=>⟨⟨fun _=>trivial,fun e=>absurd (by rw[hs];rfl) e⟩,fun _=>⟨⟨hl.1,by omega⟩,fun y hy=>⟨⟨by omega,by omega⟩,hsl,Nat.le_refl _,fun i _=>?_,by rw[List.length_cons,List.length_tail];omega,fun i _=>Ge hl.1 _ i⟩⟩,fun e=>absurd e (by simp)⟩
 unfold BA;split<;>rfl
def BdF(s:List Int)(x n c x' n' c' vb vb' n2 c2:Nat)(f g:Nat->List D):Prop:=(vb'=vb/\n2=1/\c2=1/\x'=x/\n'=n/\c'=c/\n=s.length)/\(s≠[]/\s.length<=8)/\(g 0=[.int .i64 1]/\∀i,i<s.length->f i=[.int .i64 (s.getD i 0)])
theorem sw2{a b:Nat×Nat×AObj}{rest:List (Nat×Nat×AObj)}{ts:List (Nat×Nat)}:StTo ⟨a::b::rest,ts⟩ (St.add ⟨[b,a],[]⟩ ⟨rest,ts⟩):=by
 refine StTo.perm (r1:=[]) (r2:=[]) ?_ (by simp[St.add])
 simp only[St.add,List.map_cons,List.cons_append,List.nil_append,List.append_nil]
 exact List.Perm.swap _ _ _
theorem vec2{s : List Int}{x vb c k1 k2 : Nat}{f g : Nat -> List D}(hf : ∀i, i<s.length -> f i=[.int .i64 (s.getD i 0)])(hg : g 0=[.int .i64 1]) :
  StTo ⟨[(k2,x,.vec 1 s.length c f),(k1,vb,.vec 1 1 1 g)],[]⟩ ⟨[(0,x,BB s c),(1,vb,BB [1] 1)],[]⟩:=by
 refine StTo.posN ⟨⟨rfl,?_,rfl,?_,trivial⟩,trivial⟩
 ·simp only[BB,B4,Ba,decide_true,true_and]
  exact hf
 ·simp only[BB,B4,Ba,decide_true,true_and]
  refine⟨rfl,fun i hi=>?_⟩
  obtain rfl:i=0:=by omega
  exact hg
theorem vec1{vb k1 : Nat}{ts : List (Nat×Nat)}{g : Nat -> List D}(hg : g 0=[.int .i64 1]) :
  StTo ⟨[(k1,vb,.vec 1 1 1 g)],ts⟩ ⟨[(1,vb,BB [1] 1)],ts⟩:=by
 refine StTo.posN ⟨⟨rfl,?_,trivial⟩,?_⟩
 ·simp only[BB,B4,Ba,decide_true,true_and]
  refine⟨rfl,fun i hi=>?_⟩
  obtain rfl:i=0:=by omega
  exact hg
 ·have ht : ∀l : List (Nat×Nat), TV l l:=fun l=>by induction l with
   |nil=>trivial
   |cons p l ih=>exact⟨rfl,ih⟩
  exact ht ts
def _root_.Go.Ab.inlI(k:Nat)(ds:List D)(S:St)(R:AEnd->St->Prop):Prop :=
 match Nat.beq k 56 with
 |true=>match ds with
  | [.vs _ x n c 1,.int .i64 0,.vs kv vb 1 1 1]=>match S with
   |⟨(k1,b1,.vec 1 n1 c1 f1)::(_,b2,.vec 1 n2 c2 f2)::rest,ts⟩=>match Nat.beq k1 kv with
    |true=>∃s:List Int,BdF s x n c b2 n2 c2 vb b1 n1 c1 f2 f1/\∀y c3,n+1<=c3->R (.ret (.vs 99 y (n+1) c3 1)) ⟨(99,y,.vec 1 (n+1) c3 fun i=>[.int .i64 ((1::s).getD i 0)])::rest,ts⟩
    |false=>∃s:List Int,BdF s x n c b1 n1 c1 vb b2 n2 c2 f1 f2/\∀y c3,n+1<=c3->R (.ret (.vs 99 y (n+1) c3 1)) ⟨(99,y,.vec 1 (n+1) c3 fun i=>[.int .i64 ((1::s).getD i 0)])::rest,ts⟩
   |_=>False
  | [.sl 1 0 _ .nil,.int .i64 0,.vs _ vb 1 1 1]=>match S with
   |⟨(_,vb',.vec 1 1 1 g)::rest,ts⟩=>(vb'=vb/\g 0=[.int .i64 1])/\∀y c2,1<=c2->R (.ret (.vs 99 y 1 c2 1)) ⟨(99,y,.vec 1 1 c2 fun i=>[.int .i64 ([1].getD i 0)])::rest,ts⟩
   |_=>False
  | [.sl 1 0 _ (.tok 1 t),.int .i64 0,.vs _ vb 1 1 1]=>match S with
   |⟨(_,vb',.vec 1 1 1 g)::rest,(1,t')::tr⟩=>(vb'=vb/\t'=t/\g 0=[.int .i64 1])/\∀y c2,1<=c2->R (.ret (.vs 99 y 1 c2 1)) ⟨(99,y,.vec 1 1 c2 fun i=>[.int .i64 ([1].getD i 0)])::rest,tr⟩
   |_=>False
  |_=>False
 |false=>match Nat.beq k 29 with
  |true=>match ds with
   | [.sl 1 n _ .any]=>n=0/\R (.ret (.sl 1 0 (fun _=>[]) .nil)) S/\∀t,R (.ret (.sl 1 0 (fun _=>[]) (.tok 1 t))) ⟨S.objs,(1,t)::S.toks⟩
   |_=>False
  |false=>False
theorem BdP(k:Nat)(ds:List D)(S:St)(R:AEnd->St->Prop)(h:Go.Ab.inlI k ds S R):ACalls Try.prog k ds S R:=by
 unfold Go.Ab.inlI at h
 split at h
 ·rename_i hk
  obtain rfl:=Nat.eq_of_beq_eq_true hk
  split at h
  ·split at h
   ·split at h
    ·obtain ⟨s,⟨⟨rfl,rfl,rfl,rfl,rfl,rfl,rfl⟩,hs,hg,hf⟩,hR⟩:=h
     refine BX (G:=⟨_,_⟩) (Bet _ _ _ s hs) (by simp[wkL,wkD,Bf,Ba,kEq]) (StTo.trans (sw2) (StTo.framed (vec2 hf hg) _)) ?_
     rintro r S' ⟨y,c',hc,rfl,rfl⟩
     exact⟨_,fun _ _ _ H=>H,hR y c' hc⟩
    ·obtain ⟨s,⟨⟨rfl,rfl,rfl,rfl,rfl,rfl,rfl⟩,hs,hg,hf⟩,hR⟩:=h
     refine BX (G:=⟨_,_⟩) (Bet _ _ _ s hs) (by simp[wkL,wkD,Bf,Ba,kEq]) (StTo.framed (vec2 hf hg) ⟨_,_⟩) ?_
     rintro r S' ⟨y,c',hc,rfl,rfl⟩
     exact⟨_,fun _ _ _ H=>H,hR y c' hc⟩
   ·exact h.elim
  ·split at h
   ·obtain ⟨⟨rfl,hg⟩,hR⟩:=h
    refine BX (G:=⟨_,_⟩) (Bej _ (fun _=>[]) .nil [] (.inl ⟨rfl,rfl⟩)) (by simp[wkL,wkD,Bf,Ba,Bw,kEq]) (StTo.framed (vec1 (ts:=[]) hg) ⟨_,_⟩) ?_
    rintro r S' ⟨y,c',hc,rfl,rfl⟩
    exact⟨_,fun _ _ _ H=>H,hR y c' hc⟩
   ·exact h.elim
  ·split at h
   ·obtain ⟨⟨rfl,rfl,hg⟩,hR⟩:=h
    refine BX (G:=⟨_,_⟩) (Bej _ (fun _=>[]) _ _ (.inr ⟨_,rfl,rfl⟩)) (by simp[wkL,wkD,Bf,Ba,Bw,kEq]) (StTo.framed (vec1 (ts:=[(1,_)]) hg) ⟨_,_⟩) ?_
    rintro r S' ⟨y,c',hc,rfl,rfl⟩
    exact⟨_,fun _ _ _ H=>H,hR y c' hc⟩
   ·exact h.elim
  ·exact h.elim
 ·split at h
  ·rename_i hk
   obtain rfl:=Nat.eq_of_beq_eq_true hk
   split at h
   ·obtain ⟨rfl,h1,h2⟩:=h
    refine BX (G:=S) (BeM _) (Bg _) (fun _ _ _ H=>H) ?_
    rintro r S' (⟨rfl,rfl⟩ | ⟨t,rfl,rfl⟩)
    ·exact⟨_,fun _ _ _ H=>H,h1⟩
    ·exact⟨_,StTo.framed (S:=⟨[],[(0,t)]⟩) (S':=⟨[],[(1,t)]⟩) (StTo.posN ⟨trivial,rfl,trivial⟩) S,h2 t⟩
   ·exact h.elim
  ·exact h.elim
theorem evI{con:Con}(hc:ConOk Try.prog con){E:Senv}(h:E={ EC con E.n E.V E.cross E.ord with gh:=E.gh,gr:=E.gr,unr:=E.unr,cut:=E.cut,ann:=E.ann,cut2:=E.cut2,ann2:=E.ann2,own:=E.own,gz:=E.gz,mg:=E.mg,pvt:=E.pvt,bcut:=E.bcut,bd:=E.bd,lit:=E.lit,inl:=Go.Ab.inlI }):EnvOk E:=by
 rw[h]
 exact⟨Me,hc,mix,BdP,Mi⟩
noncomputable def Eei(s:List Int):Senv:={ EC (Bac s) 48 5 [8,9,10,29] (fun id=>match id with | 6=>([0,1,2,4,3,5,6,7,8],[3,5,6,8]) | 7=>([0,1,2,3,4,5],[3,5]) | _=>([],[])) with
 inl:=Go.Ab.inlI
 lit:=fun t=>Nat.beq t 23
 gr:=[.cell 1 4] }
def J5(a:Arr):List Int:=Arr.sh a
def QK(a:Arr):Nat:=LN (J5 a)
def Y5(a:Arr):Int:=(NI (QK a))
def Qbm(a:Arr)(b:List Int)(c:Nat):Bool:=bif Y5 a==Z0 then (LI b)==(↑c:Int) else false
def J6(a:Arr)(b:Nat):List D:=[ZI (GI (J5 a) b)]
def Qbn(a:Arr):D:=D.sl N1 (QK a) (fun i=>J6 a i) Mode.any
def Qh3(a:Arr):List D:=[Qbn a]
def Qh4(a:Arr):Prop:=J5 a≠[]/\QK a<=1000000
def Y6(a:Arr)(b:Nat):Prop:=QK a<=b
def Xc(a:Nat)(b:Arr):Prop:=a<QK b
def Qh5(a:Arr)(b:Nat):List D:=BA (fun i=>J6 a i) N0 [ZI Z1] b
def Qbo(a:D):Bool:=match a with | D.unk=>false | D.agg _cs=>false | D.tup _ds=>false | _x=>true
def Qbp(a:Arr):Prop:=SM (Arr.k a)
def Qbq(a:Arr):Prop:=SM (QK a)/\(∀(i:Nat),Xc i a->SM (J6 a i))/\True
def Qbr(a:Arr):Nat:=LN (Arr.nu a)
def Qh6(a:Arr)(b:Nat):List D:=[ZI (GI (Arr.nu a) b)]
def Qbs(a:Arr):Prop:=SM (Qbr a)/\(∀(i:Nat),i<Qbr a->SM (Qh6 a i))/\True
def Qbt(a:Arr):Nat:=LN (Arr.it a)
def Qh7(a:Arr)(b:Nat):List D:=Arr.row (GA (Arr.it a) b)
def Qbu(a:Arr):Prop:=SM (Qbt a)/\(∀(i:Nat),i<Qbt a->SM (Qh7 a i))/\True
def Qh8(a:Arr):Prop:=QK a=LN (Z1::J5 a)
def Qbv(a:Arr)(b:Nat):List D:=[ZI (GI (Z1::J5 a) b)]
def Qbw(a:Arr):Prop:=SM (Qh3 a)/\Qh4 a
def Qmn(a:Arr):D:=D.agg [ZI (Arr.k a),Qbn a,D.sl N1 (Qbr a) (fun i=>Qh6 a i) Mode.any,D.sl N4 (Qbt a) (fun i=>Qh7 a i) Mode.any]
def Xd(a:Nat)(b:Arr):Prop:=SM a/\SM (Qmn b)
def J7(a:Arr):Nat:=QK a+N1
def Qh9(a:Nat)(b:Arr)(c d e f:Nat):Prop:=Xd a b/\∃(s:List Int),(BdF s c (QK b) d c (QK b) d e e N1 N1 (fun i=>J6 b i) fun i=>List.getD [[ZI Z1]] i [])/\∀(y c3:Nat),J7 b<=c3->Xd a b/\SM f/\SM y/\SM c3/\Bc (J7 b<=J7 b) ((∀(i:Nat),i<J7 b->(List.all [ZI (GI (Z1::s) i)] fun (x:D)=>Qbo x)=true)/\∀(_t:Nat),(SM f/\True)/\∃(_y:Unit),True/\(Qbp b/\Qbq b/\Qbs b/\Qbu b/\(J7 b=LN (Z1::J5 b)/\(∀(i:Nat),i<J7 b->[ZI (GI (Z1::s) i)]=Qbv b i)/\True)/\True)/\True/\True)
theorem Be5(a:Arr)(like:List Int)(r:Nat)(hs:a.sh≠[]/\a.sh.length<=8)(hr:a.sh.length<r/\r<=8):CD 37 [.agg a.row1,isl like .any,.int .i64 r,.int .i64 0] (exD a (1::a.sh)):=by
 refine Bo (A:=sC _ _) (x:=()) (E:=Eei a.sh) (evI MR rfl) Try.func37 rfl (by kernel_rfl) rfl (by simp[sC,Eei,EC,E0]) ?_
 refine Bu (T :=
  ∀(x:Nat),True->∀(x_1:Nat),x≠x_1/\True->(SM x/\ifB (Y5 a==Z0) (((LI like)==(↑r:Int))=Qbm a like r/\True) (false=Qbm a like r/\True))/\ifB (Qbm a like r) (([SI like]=Qh3 a/\Qh4 a)/\∀(y:Nat×Nat),Y6 a y.2->Bc (Z0<=Z0/\Z0<Y5 a) (SM y.1/\Bc (N0<QK a) (SM x/\SM x_1/\SM y.1/\SM y.2/\Bc (QK a<=QK a) ((∀(i:Nat),Xc i a->(List.all (Qh5 a i) fun (x:D)=>Qbo x)=true)/\∀(t:Nat),(SM x_1/\True)/\∃(y:Unit),True/\(Qbp a/\Qbq a/\Qbs a/\Qbu a/\(Qh8 a/\(∀(i:Nat),Xc i a->Qh5 a i=Qbv a i)/\True)/\True)/\True/\True)))) (SM x/\ifB (decide (Y5 a<(↑r:Int))) (SM x/\SM x/\(Qbw a/\∀(y:Nat×Nat),Y6 a y.2->Xd x a/\∀(x_2:Nat),y.1≠x_2/\x_1≠x_2/\x≠x_2/\True->Qh9 x a y.1 y.2 x_2 x_1)/\∀(x_2:Nat),x_1≠x_2/\x≠x_2/\True->(SM x/\SM (Qbn a))/\Xd x a/\Qbw a/\∀(y:Nat×Nat),Y6 a y.2->Qh9 x a y.1 y.2 x_2 x_1) (SM x/\SM x/\Qbw a/\∀(y:Nat×Nat),Y6 a y.2->Xd x a/\SM x_1/\SM y.1/\SM y.2/\Bc (QK a<=QK a) ((∀(i:Nat),Xc i a->(List.all (J6 a i) fun (x:D)=>Qbo x)=true)/\∀(t:Nat),(SM x_1/\True)/\∃(y:Unit),True/\(Qbp a/\Qbq a/\Qbs a/\Qbu a/\(Qh8 a/\(∀(i:Nat),Xc i a->J6 a i=Qbv a i)/\True)/\True)/\True/\True)))) (by kernel_rfl) ?_
 delta DA GA GI LI LN N0 N1 N4 NI SI SM Z0 Z1 ZI J5 QK Qh5 Qbo Qbp Qbq Qbr Qh6 Qbs Qbt Qh7 Qbu Y5 Qh8 Qbv Qbw Qmn Xd J7 Qh9 Qbm J6 Qbn Qh3 Qh4 Y6 Xc
 have da:(default:Arr)=Arr.mk 0 [] [] []:=rfl
 simp only[<- da]
 simp only[ne_eq,implies_true,Bl,Be,decide_eq_true_eq,decide_eq_false_iff_not,true_and,and_true,beq_iff_eq,beq_eq_false_iff_ne,exists_const,forall_const]
 have hsl:0<a.sh.length:=List.length_pos_iff.2 hs.1
 have e0:((a.sh.length:Int)==0)=false:=beq_eq_false_iff_ne.2 (by omega)
 simp only[e0,cond_false]
 have L:∀ {y:Nat×Nat} {x2:Nat},BdF a.sh y.1 a.sh.length y.2 y.1 a.sh.length y.2 x2 x2 1 1 (fun i=>[.int .i64 (a.sh.getD i 0)]) fun i=>[[D.int .i64 1]].getD i []:=⟨⟨rfl,rfl,rfl,rfl,rfl,rfl,rfl⟩,hs,rfl,fun _ _=>rfl⟩
 have M:∀y:Nat×Nat,a.sh.length<=y.2->True:=fun _ _=>trivial
 refine fun _ _ _=>⟨⟨fun e=>absurd e (by omega),fun _=>trivial⟩,fun e=>absurd e (by simp),fun _=>⟨fun _=>⟨⟨⟨hs.1,by omega⟩,fun y hy x2 _=>⟨a.sh,L,fun c3 hc=>⟨Nat.le_refl _,fun _ _=>rfl,rfl,fun _ _=>rfl⟩⟩⟩,fun x2 _=>⟨⟨hs.1,by omega⟩,fun y hy=>⟨a.sh,L,fun c3 hc=>⟨Nat.le_refl _,fun _ _=>rfl,rfl,fun _ _=>rfl⟩⟩⟩⟩,fun e=>absurd hr.1 (by omega)⟩⟩
noncomputable def Eez:Senv:={ EC E5 48 5 [8,9,10,29] (fun id=>match id with | 6=>([0,1,2,4,3,5,6,7,8],[3,5,6,8]) | 7=>([0,1,2,3,4,5],[3,5]) | _=>([],[])) with
 inl:=Go.Ab.inlI
 lit:=fun t=>Nat.beq t 23
 gr:=[.cell 1 4] }
def Jx(a:Arr):Nat:=LN (Arr.sh a)
def Qia(a:Arr):Bool:=bif (NI (Jx a))==Z0 then false else false
def Qib(a:Arr):Prop:=false=Qia a/\True
def Qbx(a:Arr):Prop:=Jx a=N0
def Qic(a:Arr)(b:Nat):List D:=[ZI (GI (Arr.sh a) b)]
def Qid(a:Arr):D:=D.sl N1 (Jx a) (fun i=>Qic a i) Mode.any
def Qby(a:Arr):Nat:=LN (Arr.nu a)
def Qie(a:Arr)(b:Nat):List D:=[ZI (GI (Arr.nu a) b)]
def Qbz(a:Arr):Nat:=LN (Arr.it a)
def Qif(a:Arr)(b:Nat):List D:=Arr.row (GA (Arr.it a) b)
def Qmo(a:Arr):D:=D.agg [ZI (Arr.k a),Qid a,D.sl N1 (Qby a) (fun i=>Qie a i) Mode.any,D.sl N4 (Qbz a) (fun i=>Qif a i) Mode.any]
def KW(a:Nat)(b:Arr):Prop:=SM a/\SM (Qmo b)
def Qig(a:Nat):Prop:=SM a/\SM [ZI Z1]
def QbA(a:Nat):List D:=[ZI (GI [Z1] a)]
def Qih(a:Arr):Prop:=SM (Arr.k a)
def Qii(a:Arr):Prop:=SM (Jx a)/\(∀(i:Nat),i<Jx a->SM (Qic a i))/\True
def Qij(a:Arr):Prop:=SM (Qby a)/\(∀(i:Nat),i<Qby a->SM (Qie a i))/\True
def Qik(a:Arr):Prop:=SM (Qbz a)/\(∀(i:Nat),i<Qbz a->SM (Qif a i))/\True
def Qil(a:Nat)(b:Arr)(c:Nat):Prop:=∀(y c2:Nat),N1<=c2->KW a b/\SM c/\SM y/\SM c2/\(∀(i:Nat),i<N1->(List.all (QbA i) fun (x:D)=>match x with | D.unk=>false | D.agg _cs=>false | D.tup _ds=>false | _x=>true)=true)/\∀(_t:Nat),(SM c/\True)/\∃(_y:Unit),True/\(Qih b/\Qii b/\Qij b/\Qik b/\(SM N1/\(∀(i:Nat),i<N1->SM (QbA i))/\True)/\True)/\True/\True
def Qim(a:Nat)(b:Arr)(c d:Nat):Prop:=KW a b/\Qig c/\Qil a b d
def Qin(a:Nat)(b:Arr)(c d e:Nat):Prop:=KW a b/\(SM c/\Qig d)/\Qil a b e
theorem Be2(a:Arr)(hs:a.sh=[]):CD 37 [.agg a.row1,isl [] .any,.int .i64 1,.int .i64 0] (exD a [1]):=by
 refine Bo (A:=sC _ _) (x:=()) (E:=Eez) (evI BN rfl) Try.func37 rfl (by kernel_rfl) rfl (by simp[sC,Eez,EC,E0]) ?_
 refine Bu (T :=
  ∀(x:Nat),True->∀(x_1:Nat),x≠x_1/\True->(SM x/\ifB ((NI (Jx a))==Z0) (Qib a) (Qib a))/\ifB (Qia a) (SM N0/\False/\∀(t:Nat),False) (SM x/\ifB (decide ((NI (Jx a))<Z1)) (SM x/\SM x/\(Qbx a/\(KW x a/\∀(x_2:Nat),x_1≠x_2/\x≠x_2/\True->Qim x a x_2 x_1)/\∀(t:Nat),KW x a/\∀(x_2:Nat),x_1≠x_2/\x≠x_2/\True->Qin x a x_2 t x_1)/\∀(x_2:Nat),x_1≠x_2/\x≠x_2/\True->(SM x/\SM (Qid a))/\KW x a/\Qbx a/\Qim x a x_2 x_1/\∀(t:Nat),Qin x a x_2 t x_1) (SM x/\SM x/\Qbx a/\(KW x a/\SM x_1/\∀(t:Nat),(SM x_1/\True)/\∃(y:Unit),True/\(Qih a/\Qii a/\Qij a/\Qik a/\(N0=N1/\(∀(i:Nat),i<N0->Cr (List D) [] (QbA i))/\True)/\True)/\True/\True)/\∀(t:Nat),KW x a/\SM x_1/\False))) (by kernel_rfl) ?_
 delta DA GA GI LN N0 N1 N4 NI SM Z0 Z1 ZI Jx Qia Qib Qbx Qic Qid Qby Qie Qbz Qif Qmo KW Qig QbA Qih Qii Qij Qik Qil Qim Qin
 have da:(default:Arr)=Arr.mk 0 [] [] []:=rfl
 simp only[<- da]
 simp only[ne_eq,implies_true,Bl,decide_eq_true_eq,decide_eq_false_iff_not,true_and,and_true,beq_iff_eq,beq_eq_false_iff_ne,exists_const,forall_const]
 have hl:a.sh.length=0:=by rw[hs];rfl
 have e0:((a.sh.length:Int)==0)=true:=by rw[hs];rfl
 simp only[e0,cond_true]
 refine fun _ _ _=>⟨⟨fun _=>trivial,fun _=>trivial⟩,fun e=>absurd e (by simp),fun _=>⟨fun _=>?_,fun e=>absurd (by omega) e⟩⟩
 repeat' (first | exact hl | rfl | intro _ | refine And.intro ?_ ?_)
def exS(a:Arr)(like:List Int)(r:Nat):List Int:=if a.sh=[] then if like.length=r then 1::like.tail else [1] else if a.sh.length<r then 1::a.sh else a.sh
def rkN(x y:Arr):Nat:=max 1 (max x.sh.length y.sh.length)
structure RkP (x y:Arr):Prop where
 hx:x.sh.length<=8
 hy:y.sh.length<=8
 hr:x.sh≠[]->y.sh≠[]->x.sh.length<=y.sh.length+1/\y.sh.length<=x.sh.length+1
theorem Bb9(a b:Arr)(h:RkP a b):CD 37 [.agg a.row1,isl b.sh .any,.int .i64 (rkN a b:Nat),.int .i64 0] (exD a (exS a b.sh (rkN a b))):=by
 obtain ⟨ha,hb,hr⟩:=h
 unfold exS
 by_cases h1:a.sh=[]
 ·rw[if_pos h1]
  by_cases h2:b.sh=[]
  ·have e:rkN a b=1:=by unfold rkN;rw[h1,h2];rfl
   rw[e,h2,if_neg (by decide)]
   exact Be2 a h1
  ·have hb1:0<b.sh.length:=List.length_pos_iff.2 h2
   have e:rkN a b=b.sh.length:=by unfold rkN;rw[h1,List.length_nil];omega
   rw[e,if_pos rfl]
   exact Be0 a b.sh h1 ⟨h2,hb⟩
 ·rw[if_neg h1]
  have ha1:0<a.sh.length:=List.length_pos_iff.2 h1
  by_cases h3:a.sh.length<rkN a b
  ·rw[if_pos h3]
   exact Be5 a b.sh _ ⟨h1,ha⟩ ⟨h3,by unfold rkN;omega⟩
  ·rw[if_neg h3]
   have e:rkN a b=a.sh.length:=by unfold rkN at h3 ⊢; omega
   rw[e]
   exact Bcv a b.sh 0 ⟨h1,ha⟩
theorem Ban{a b:Arr}(h:RkP a b):(exS a b.sh (rkN a b)).length=rkN a b:=by
 obtain ⟨ha,hb,hr⟩:=h
 unfold exS
 by_cases h1:a.sh=[]
 ·rw[if_pos h1]
  by_cases h2:b.sh=[]
  ·have e:rkN a b=1:=by unfold rkN;rw[h1,h2];rfl
   rw[e,h2,if_neg (by decide)];rfl
  ·have hb1:0<b.sh.length:=List.length_pos_iff.2 h2
   have e:rkN a b=b.sh.length:=by unfold rkN;rw[h1,List.length_nil];omega
   rw[e,if_pos rfl,List.length_cons,List.length_tail];omega
 ·rw[if_neg h1]
  have ha1:0<a.sh.length:=List.length_pos_iff.2 h1
  split
  ·rename_i h3
   rw[List.length_cons]
   by_cases h2:b.sh=[]
   ·have e:rkN a b=a.sh.length:=by unfold rkN;rw[h2,List.length_nil];omega
    omega
   ·have:=hr h1 h2
    unfold rkN at h3 ⊢; omega
  ·rename_i h3
   unfold rkN at h3 ⊢; omega
theorem Tz{l:List Int}(h:Bi l=true)(hl:l.length<=7):Bi (1::l)=true:=by
 obtain ⟨h1,h2,h3⟩:=(Bk l).1 h
 refine (Bk _).2 ⟨by rw[List.length_cons];omega,fun d hd=>?_,?_⟩
 ·rcases List.mem_cons.1 hd with rfl | hd
  ·omega
  ·exact h2 d hd
 ·rw[pzL]
  split
  ·exact h3
  ·simpa using h3
theorem Tv{a b:Arr}(h:RkP a b)(ra:Bi a.sh=true)(rb:Bi b.sh=true):Bi (exS a b.sh (rkN a b))=true:=by
 have hl:=Ban h
 obtain ⟨ha,hb,hr⟩:=h
 have h8:rkN a b<=8:=by unfold rkN;omega
 unfold exS at hl ⊢
 by_cases h1:a.sh=[]
 ·rw[if_pos h1] at hl ⊢
  split at hl
  ·rename_i h2
   rw[if_pos h2]
   rw[List.length_cons] at hl
   have:=(GO rb 1).2
   rw[List.drop_one] at this
   exact Tz this (by omega)
  ·rename_i h2
   rw[if_neg h2];decide
 ·rw[if_neg h1] at hl ⊢
  split at hl
  ·rename_i h3
   rw[if_pos h3]
   rw[List.length_cons] at hl
   exact Tz ra (by omega)
  ·rename_i h3
   rw[if_neg h3];exact ra
def Xe(a:Arr):Nat:=LN (Arr.sh a)
def QbB(a:Arr)(b:Nat):Int:=GI (Arr.sh a) b
def Y7(a:Arr):Nat:=LN (Arr.nu a)
def QbC(a:Arr)(b:Nat):Int:=GI (Arr.nu a) b
def Y8(a:Arr):Nat:=LN (Arr.it a)
def QbD(a:Arr)(b:Nat):List D:=Arr.row (GA (Arr.it a) b)
def Qmp(a:Arr):D:=D.agg [ZI (Arr.k a),D.sl N1 (Xe a) (fun i=>[ZI (QbB a i)]) Mode.any,D.sl N1 (Y7 a) (fun i=>[ZI (QbC a i)]) Mode.any,D.sl N4 (Y8 a) (fun i=>QbD a i) Mode.any]
def Qio(a b:Arr):Prop:=((Arr.k a=Arr.k b/\(Xe a=Xe b/\(∀(i:Nat),i<Xe a->QbB a i=QbB b i/\True)/\True)/\(Y7 a=Y7 b/\(∀(i:Nat),i<Y7 a->QbC a i=QbC b i/\True)/\True)/\(Y8 a=Y8 b/\(∀(i:Nat),i<Y8 a->wkL (QbD a i) (QbD b i))/\True)/\True)/\True)/\Arr.ok b
def QbE(a:List Int)(b:Arr):Int:=(NI (prL (shN a)))*wtA b
theorem BeV(a:Arr)(s:List Int)(h:a.ok)(hs:a.sh=[])(hr:Bi s=true):CD 39 [exD a s] (.int .i64 ((prL (shN s):Nat)*wtA a)):=by
 refine Bo (A:=sC _ _) (x:=()) (E:=Esw) (eOk WO rfl) Try.func39 rfl (by kernel_rfl) rfl (by simp[sC,Esw,EC,E0]) ?_
 refine Bu (T :=
  ∀(x:Nat),True->SM x/\ifB ((NI (Xe a))==Z0) (SM x/\SM x/\∃(x_1:List Int),(((LN s=LN x_1/\(∀(i:Nat),i<LN s->GI s i=GI x_1 i/\True)/\True)/\True)/\Bi x_1=true)/\∀(y:Unit),True->(SM x/\SM (Qmp a))/\∃(x:Arr),Qio a x/\∀(y:Unit),True->RT (IntKind.wrap IntKind.i64 (QbE x_1 x)=QbE s a)) (SM x/\∃(x:Arr),Qio a x/\∀(y:Unit),True->RT (wtA x=QbE s a))) (by kernel_rfl) ?_
 delta DA GA GI LN N1 N4 NI SM Z0 ZI Xe QbB Y7 QbC Y8 QbD Qmp Qio QbE RT
 have da:(default:Arr)=Arr.mk 0 [] [] []:=rfl
 simp only[<- da]
 simp only[ne_eq,Bl,true_and,and_true,beq_iff_eq,beq_eq_false_iff_ne,exists_const,forall_const]
 have hl:a.sh.length=0:=by rw[hs];rfl
 refine⟨fun _=>⟨s,⟨⟨rfl,fun _ _=>rfl⟩,hr⟩,a,⟨⟨rfl,⟨rfl,fun _ _=>rfl⟩,⟨rfl,fun _ _=>rfl⟩,rfl,fun _ _=>Bg _⟩,h⟩,?_⟩,fun e=>absurd (by omega) e⟩
 have h1:=Ea hr
 have h2:=B0 a
 have h3:((prL (shN s):Nat):Int)*wtA a<=65536*262145:=Int.mul_le_mul (by omega) (by omega) (by omega) (by omega)
 have h4:(0:Int)<=((prL (shN s):Nat):Int)*wtA a:=Int.mul_nonneg (by omega) (by omega)
 exact Bb (by omega) (by omega)
def rnD(a:Arr)(o:Nat):Nat->List D:=if a.sh=[] then rpN (a.nu.headD 0) else nuS a.nu o
def riD(a:Arr)(o:Nat):Nat->List D:=if a.sh=[] then rpI (a.it.headD default) else itS a.it o
def adP(xs:List D)(q:Arr×List Int×Nat×Nat):Prop :=
 wkL [.agg xs] [.agg [.int .i64 q.1.k,isl q.1.sh .any,isl q.1.nu .any,gsl 4 Arr.row q.1.it,isl q.2.1 .any]]/\(∀b∈q.1.it,(Bj b).1=0)/\(q.1.sh=[]->(q.1.k≠3->q.1.nu≠[])/\(q.1.k=3->q.1.it≠[]))/\(q.1.sh≠[]->q.2.2.1*q.2.2.2+q.2.2.2<=(if q.1.k=3 then q.1.it.length else q.1.nu.length))/\(q.1.nu.length<=1000000/\q.1.it.length<=1000000/\q.2.2.2<=1000000)
def _root_.Go.Ab.inlS(k:Nat)(ds:List D)(S:St)(R:AEnd->St->Prop):Prop :=
 match Nat.beq k 41 with
 |true=>match ds with
  | [.agg xs,.ref _ x 0,.int .i64 i,.int .i64 n]=>match S with
   |⟨(k1,z,oz)::(_,y,.cells [kk,sd,.sl 1 p f (.tok kt t),itd])::rest,(ku,u)::tr⟩=>match itd with
    |.sl 1 0 _ .nil=>chk (Nat.beq kt 1&&Nat.beq ku 1) (∃q : Arr×List Int×Nat×Nat, (adP xs q /\ U4 q x y i n /\ u=t /\ p<=1000000) /\
      (q.1.k≠3->∀u',R (.ret (.tup [])) ⟨(k1,z,oz)::(17,y,.cells [kk,sd,.sl 1 (p+q.2.2.2) (Bp p f (rnD q.1 (q.2.2.1*q.2.2.2))) (.tok 1 u'),nlS])::rest,(1,u')::tr⟩) /\
      (q.1.k=3->q.2.2.2=0->R (.ret (.tup [])) ⟨(k1,z,oz)::(17,y,.cells [kk,sd,.sl 1 p f (.tok 1 t),nlS])::rest,(1,u)::tr⟩) /\
      (q.1.k=3->0<q.2.2.2->∀v c,q.2.2.2<=c->R (.ret (.tup [])) ⟨(k1,z,oz)::(17,y,.cells [kk,sd,.sl 1 p f (.tok 1 t),.vs 99 v q.2.2.2 c 4])::(99,v,.vec 4 q.2.2.2 c (riD q.1 (q.2.2.1*q.2.2.2)))::rest,(1,u)::tr⟩))
    |.vs _ v len cap 4=>match rest with
     |(_,v1,.vec 4 len1 cap1 g)::rest1=>chk (Nat.beq kt 1&&Nat.beq ku 1) (∃q:Arr×List Int×Nat×Nat,(adP xs q/\U4 q x y i n/\u=t/\v1=v/\len1=len/\cap1=cap/\len<=1000000/\len<=cap/\q.1.k=3) /\
      ∀v2 c,len+q.2.2.2<=c->R (.ret (.tup [])) ⟨(k1,z,oz)::(17,y,.cells [kk,sd,.sl 1 p f (.tok 1 t),.vs 99 v2 (len+q.2.2.2) c 4])::(99,v2,.vec 4 (len+q.2.2.2) c (Bp len g (riD q.1 (q.2.2.1*q.2.2.2))))::rest1,(1,u)::tr⟩)
     |_=>False
    |_=>False
   |_=>False
  |_=>False
 |false=>False
theorem BdY(k:Nat)(ds:List D)(S:St)(R:AEnd->St->Prop)(h:Go.Ab.inlS k ds S R):ACalls Try.prog k ds S R:=by
 unfold Go.Ab.inlS at h
 split at h
 ·rename_i hk
  obtain rfl:=Nat.eq_of_beq_eq_true hk
  split at h
  ·split at h
   ·split at h
    ·obtain ⟨hc,q,⟨⟨w1,w3,ws,w4,w5,w6,w7⟩,⟨e1,e2,e3⟩,e4,e5⟩,hN,h0,hB⟩:=Ba.1 h
     obtain ⟨a,s,i,n⟩:=q
     simp only at w1 w3 ws w4 w5 w6 w7 e2 e3 hN h0 hB
     subst e1 e2 e3 e4
     by_cases hsc:a.sh=[]
     ·obtain ⟨ws1,ws2⟩:=ws hsc
      simp only[rnD,riD,if_pos hsc] at hN hB
      by_cases h3:a.k=3
      ·by_cases hn:n=0
       ·subst hn
        refine BX ((Bfm a s _ _ _ i _ _ hsc).wkArgs (wk4 (CJ h3))) (wk4 (K2:=17) w1) (StTo.trans GG (StTo.framed (Gm (Bd _)) _)) ?_
        rintro r S' ⟨_,_,rfl,rfl⟩
        exact⟨_,StTo.trans (StTo.framed (Ig (by simp[Bf,Ba,Bw])) _) GB,h0 h3 rfl⟩
       ·refine BX ((BfD a s _ _ _ i n _ _ ⟨w3,hsc,ws2 h3,w7,by omega⟩).wkArgs (wk4 (CJ h3))) (wk4 (K2:=17) w1) (StTo.trans GG (StTo.framed (Gm (Bd _)) _)) ?_
        rintro r S' ⟨y,hy,rfl,rfl⟩
        exact⟨_,StTo.trans (StTo.framed (I1 (by simp[Bf,Ba,Bw])) _) Gq,hB h3 (by omega) y.1 y.2 hy⟩
      ·rename_i f kt rest ku u tr itd f0
       refine BX (BfB a s _ _ i n _ _ f u ⟨h3,hsc,ws1 h3,w7,e5⟩) (wk4 (K2:=17) w1) (StTo.trans GG (StTo.framed (Gm (by simp[Bf,Ba,Bw])) _)) ?_
       rintro r S' ⟨y,hy,rfl,rfl⟩
       exact⟨_,StTo.trans (StTo.framed (Ig (Bd _)) _) GB,hN h3 y⟩
     ·replace w4:=w4 hsc
      simp only[rnD,riD,if_neg hsc] at hN hB
      by_cases h3:a.k=3
      ·rw[if_pos h3] at w4
       by_cases hn:n=0
       ·subst hn
        refine BX ((Ben a s _ _ _ i _ _ hsc).wkArgs (wk4 (CJ h3))) (wk4 (K2:=17) w1) (StTo.trans GG (StTo.framed (Gm (Bd _)) _)) ?_
        rintro r S' ⟨_,_,rfl,rfl⟩
        exact⟨_,StTo.trans (StTo.framed (Ig (by simp[Bf,Ba,Bw])) _) GB,h0 h3 rfl⟩
       ·refine BX ((Beb a s _ _ _ i n _ _ ⟨w3,hsc,w4,w6,by omega⟩).wkArgs (wk4 (CJ h3))) (wk4 (K2:=17) w1) (StTo.trans GG (StTo.framed (Gm (Bd _)) _)) ?_
        rintro r S' ⟨y,hy,rfl,rfl⟩
        exact⟨_,StTo.trans (StTo.framed (I1 (by simp[Bf,Ba,Bw])) _) Gq,hB h3 (by omega) y.1 y.2 hy⟩
      ·rw[if_neg h3] at w4
       rename_i f kt rest ku u tr itd f0
       refine BX (Bef a s _ _ i n _ _ f u ⟨h3,hsc,w4,w5,e5⟩) (wk4 (K2:=17) w1) (StTo.trans GG (StTo.framed (Gm (by simp[Bf,Ba,Bw])) _)) ?_
       rintro r S' ⟨y,hy,rfl,rfl⟩
       exact⟨_,StTo.trans (StTo.framed (Ig (Bd _)) _) GB,hN h3 y⟩
    ·split at h
     ·obtain ⟨hc,q,⟨⟨w1,w3,ws,w4,w5,w6,w7⟩,⟨e1,e2,e3⟩,e4,e5,e6,e7,e8,e9,h3⟩,hB⟩:=Ba.1 h
      obtain ⟨a,s,i,n⟩:=q
      simp only at w1 w3 ws w4 w5 w6 w7 e2 e3 hB h3
      subst e1 e2 e3 e4 e5 e6 e7
      by_cases hsc:a.sh=[]
      ·obtain ⟨ws1,ws2⟩:=ws hsc
       simp only[riD,if_pos hsc] at hB
       refine BX ((Bfh a s _ _ _ i n _ _ _ _ _ _ ⟨w3,hsc,ws2 h3,w7,e8,e9⟩).wkArgs (wk4 (CJ h3))) (wk4 (K2:=17) w1) (StTo.trans Uj (StTo.framed (I1 (Bd _)) _)) ?_
       rintro r S' ⟨y,hy,rfl,rfl⟩
       exact⟨_,StTo.trans (StTo.framed (I1 (by simp[Bf,Ba,Bw])) _) Gq,hB y.1 y.2 hy⟩
      ·replace w4:=w4 hsc
       simp only[riD,if_neg hsc] at hB
       rw[if_pos h3] at w4
       refine BX ((Bd9 a s _ _ _ i n _ _ _ _ _ _ ⟨w3,hsc,w4,w6,e8,e9⟩).wkArgs (wk4 (CJ h3))) (wk4 (K2:=17) w1) (StTo.trans Uj (StTo.framed (I1 (Bd _)) _)) ?_
       rintro r S' ⟨y,hy,rfl,rfl⟩
       exact⟨_,StTo.trans (StTo.framed (I1 (by simp[Bf,Ba,Bw])) _) Gq,hB y.1 y.2 hy⟩
     ·exact h.elim
    ·exact h.elim
   ·exact h.elim
  ·exact h.elim
 ·exact h.elim
theorem evS{con:Con}(hc:ConOk Try.prog con){E:Senv}(h:E={ EC con E.n E.V E.cross E.ord with gh:=E.gh,gr:=E.gr,unr:=E.unr,cut:=E.cut,ann:=E.ann,cut2:=E.cut2,ann2:=E.ann2,own:=E.own,gz:=E.gz,mg:=E.mg,pvt:=E.pvt,bcut:=E.bcut,bd:=E.bd,inl:=Go.Ab.inlS }):EnvOk E:=by
 rw[h]
 exact⟨Me,hc,mix,BdY,Mi⟩
def sX(x y:Arr):List Int:=exS x y.sh (rkN x y)
def sZ(x y:Arr):List Int:=((sX x y).headD 0+(sX y x).headD 0)::(sX x y).tail
noncomputable def swW(a:Arr)(s:List Int):Int:=if a.sh=[] then (prL (shN s):Nat)*wtA a else wtA a
structure JgH (x y:Arr):Prop where
 hx:(Bj x).1=0
 hy:(Bj y).1=0
 ox:x.ok
 oy:y.ok
theorem Uw(x y:Arr):rkN x y=rkN y x:=by unfold rkN;omega
theorem RkP.symm{x y:Arr}(h:RkP x y):RkP y x:=⟨h.hy,h.hx,fun h1 h2=>⟨(h.hr h2 h1).2,(h.hr h2 h1).1⟩⟩
theorem JgH.r8{x y:Arr}(h:JgH x y):Bi x.sh=true/\Bi y.sh=true:=⟨(Bs.1 (By h.hx)).2.1,(Bs.1 (By h.hy)).2.1⟩
def rgP(x y:Arr)(ds:List D):Prop:=∃b,(b=x\/b=y)/\wkL ds [.agg b.row1]
def xgP(x y:Arr)(cs ds:List D)(q:Arr×Arr):Prop:=(q=(x,y)\/q=(y,x))/\cs=[.int .i64 q.1.k,isl q.1.sh .any,isl q.1.nu .any,gsl 4 Arr.row q.1.it]/\wkL ds [isl q.2.sh .any,.int .i64 (rkN x y:Nat),.int .i64 0]/\RkP x y
def wgP(x y:Arr)(ds:List D)(q:Arr×Arr):Prop:=(q=(x,y)\/q=(y,x))/\ds=[exD q.1 (sX q.1 q.2)]/\RkP x y
def rzP(x y:Arr)(d:D)(n:Nat)(fr:Int):Prop:=wkL [d] [isl (sZ x y) .any]/\Bi (sZ x y)=true/\fr=n
noncomputable def Bc6(x y:Arr):Con:=fun k ds S=>match k with
 |21=>some (pA ds S (.int .i64 0) (rgP x y ds))
 |37=>match ds with
  | [.agg [c0,c1,c2,c3],lk,rk,ax]=>some (pE (β:=Arr×Arr) ds S (fun q=>.agg [c0,c1,c2,c3,isl (sX q.1 q.2) .any]) (xgP x y [c0,c1,c2,c3] [lk,rk,ax]))
  |_=>none
 |29=>some ((sCi 17 (sX x y)).fits () (ds=[isl (sX x y) .any]))
 |38=>some (pE (β:=List Int) ds S (fun l=>.bool (Bi l)) (fun l=>wkL ds [isl l .any]))
 |39=>some (pE (β:=Arr×Arr) ds S (fun q=>.int .i64 (swW q.1 (sX q.1 q.2))) (wgP x y ds))
 |40=>match ds with
  | [d,.int .i64 fr]=>match Nat.beq fr.toNat 0 with
   |true=>some (pA ds S (.tup [.int .i64 1,.int .i64 (prL (shN (sZ x y)):Nat)]) (rzP x y d 0 fr))
   |false=>some (pA ds S (.tup [.int .i64 (prL (shN ((sZ x y).take 1)):Nat),.int .i64 (prL (shN ((sZ x y).drop 1)):Nat)]) (rzP x y d 1 fr))
  |_=>none
 |_=>none
theorem U7{x y:Arr}(h:JgH x y)(hr:RkP x y):Bi (sX x y)=true/\Bi (sX y x)=true:=by
 obtain ⟨rx,ry⟩:=h.r8
 exact⟨Tv hr rx ry,Tv hr.symm ry rx⟩
theorem BbA{x y:Arr}(hr:RkP x y):(sX x y).length=rkN x y:=Ban hr
theorem Bb5{x y:Arr}(h:JgH x y):ConOk Try.prog (Bc6 x y):=by
 intro k ds S A hh
 obtain ⟨rx,ry⟩:=h.r8
 unfold Bc6 at hh
 split at hh
 ·injection hh with hh;subst hh
  refine BD fun ⟨b,hb,e⟩=>CD.at_ (CD.wk ?_ e) _
  obtain rfl | rfl:=hb
  ·have:=GD _ h.ox
   rw[h.hx] at this;exact this
  ·have:=GD _ h.oy
   rw[h.hy] at this;exact this
 ·split at hh
  ·injection hh with hh;subst hh
   refine Ce ?_
   rintro q ⟨hq,e,hl,hr⟩
   injection e with e0 e
   injection e with e1 e
   injection e with e2 e
   injection e with e3 e
   subst e0 e1 e2 e3
   refine CD.at_ (CD.wk (us:=[.agg q.1.row1,isl q.2.sh .any,.int .i64 (rkN x y:Nat),.int .i64 0]) ?_ ?_) _
   ·obtain rfl | rfl:=hq
    ·exact Bb9 x y hr
    ·have:=Bb9 y x hr.symm
     rw[Uw] at this
     unfold sX
     rw[Uw y x]
     exact this
   ·simp only[wkL] at hl ⊢
    exact⟨BE _,hl⟩
  ·cases hh
 ·injection hh with hh;subst hh
  exact FnSpec.fits_ok (fun _ hy=>UV _ _ hy) fun e=>by rw[e];exact⟨Bh _,Eh S⟩
 ·injection hh with hh;subst hh
  exact Ce fun l e=>CD.at_ (CD.wk (Gb l) e) _
 ·injection hh with hh;subst hh
  refine Ce fun q ⟨hq,e,hr⟩=>CD.at_ ?_ _
  rw[e]
  have hs:=U7 h hr
  have ho:q.1.ok/\Bi (sX q.1 q.2)=true:=by
   obtain rfl | rfl:=hq
   ·exact⟨h.ox,hs.1⟩
   ·exact⟨h.oy,hs.2⟩
  unfold swW
  by_cases h0:q.1.sh=[]
  ·rw[if_pos h0]
   exact BeV _ _ ho.1 h0 ho.2
  ·rw[if_neg h0]
   exact Bdi _ _ ho.1 h0
 ·split at hh
  ·split at hh
   ·injection hh with hh;subst hh
    refine BD fun ⟨e,hr,e2⟩=>CD.at_ (CD.wk (Wn (sZ x y) 0 hr (Nat.zero_le _)) ?_) _
    rw[e2]
    simp only[wkL] at e ⊢
    exact⟨e.1,BE _,trivial⟩
   ·injection hh with hh;subst hh
    refine BD fun ⟨e,hr,e2⟩=>CD.at_ (CD.wk (Wn (sZ x y) 1 hr (by unfold sZ;simp)) ?_) _
    rw[e2]
    simp only[wkL] at e ⊢
    exact⟨e.1,BE _,trivial⟩
  ·cases hh
 ·cases hh
def nuL(a:Arr)(n:Nat):List Int:=if a.sh=[] then List.replicate n (a.nu.headD 0) else a.nu.take n
def itL(a:Arr)(n:Nat):List Arr:=if a.sh=[] then List.replicate n (a.it.headD default) else a.it.take n
theorem UI{a:Arr}{n:Nat}(h:a.sh≠[]->n<=a.nu.length):(nuL a n).length=n:=by
 unfold nuL
 split
 ·simp
 ·rename_i h0
  have:=h h0
  rw[List.length_take];omega
theorem MJ{a:Arr}{n:Nat}(h:a.sh≠[]->n<=a.it.length):(itL a n).length=n:=by
 unfold itL
 split
 ·simp
 ·rename_i h0
  have:=h h0
  rw[List.length_take];omega
theorem Baf{a:Arr}{n j:Nat}(hj:j<n):rnD a 0 j=[.int .i64 ((nuL a n).getD j 0)]:=by
 unfold rnD nuL
 split
 ·unfold rpN
  simp[List.getD_eq_getElem?_getD,hj]
 ·unfold nuS
  rw[Nat.zero_add,Ti _ hj]
theorem T5{a:Arr}{n j:Nat}(hj:j<n):riD a 0 j=((itL a n).getD j default).row1:=by
 unfold riD itL
 split
 ·unfold rpI
  simp[List.getD_eq_getElem?_getD,hj]
 ·unfold itS
  rw[Nat.zero_add,List.getD_eq_getElem?_getD,List.getD_eq_getElem?_getD,List.getElem?_take_of_lt hj]
theorem BdE{a b:Arr}{z:Nat->List D}{n m i:Nat}(h:a.sh≠[]->n<=a.nu.length)(hi:i<0+n+m):Bp (0+n) (Bp 0 z (rnD a (0*n))) (rnD b (0*m)) i=[.int .i64 ((nuL a n++nuL b m).getD i 0)]:=by
 have hl:=UI h
 rw[Nat.zero_mul,Nat.zero_mul,Nat.zero_add]
 unfold Bp
 by_cases h1:i<n
 ·rw[if_pos h1,if_neg (Nat.not_lt_zero i),Nat.sub_zero,Baf h1,List.getD_eq_getElem?_getD,List.getD_eq_getElem?_getD,List.getElem?_append_left (by omega)]
 ·rw[if_neg h1,Baf (show i-n<m by omega),List.getD_eq_getElem?_getD,List.getD_eq_getElem?_getD,List.getElem?_append_right (by omega),hl]
theorem Bdp{a b:Arr}{n m i:Nat}(h:a.sh≠[]->n<=a.it.length)(hi:i<n+m):Bp n (riD a (0*n)) (riD b (0*m)) i=((itL a n++itL b m).getD i default).row1:=by
 have hl:=MJ h
 rw[Nat.zero_mul,Nat.zero_mul]
 unfold Bp
 by_cases h1:i<n
 ·rw[if_pos h1,T5 h1,List.getD_eq_getElem?_getD,List.getD_eq_getElem?_getD,List.getElem?_append_left (by omega)]
 ·rw[if_neg h1,T5 (show i-n<m by omega),List.getD_eq_getElem?_getD,List.getD_eq_getElem?_getD,List.getElem?_append_right (by omega),hl]
theorem Bei{x y:Arr}(h:x.sh≠[]):prL (shN (sX x y))=prL (shN x.sh):=by
 unfold sX exS
 rw[if_neg h]
 split
 ·simp[shN,prL]
 ·rfl
theorem Beh{x y:Arr}(h:x.sh≠[])(he:x.sh.length=y.sh.length):sX x y=x.sh:=by
 have:=List.length_pos_iff.2 h
 unfold sX exS
 rw[if_neg h,if_neg (by unfold rkN;omega)]
theorem Tt{a:Arr}{s:List Int}(h:Bi s=true):0<=swW a s/\swW a s<=65536*262145:=by
 have h1:=Ea h
 have h2:=B0 a
 have h3:((prL (shN s):Nat):Int)*wtA a<=65536*262145:=Int.mul_le_mul (by omega) (by omega) (by omega) (by omega)
 have h4:(0:Int)<=((prL (shN s):Nat):Int)*wtA a:=Int.mul_nonneg (by omega) (by omega)
 unfold swW
 split<;>omega
def sJg(x y:Arr):FnSpec where
 β:=Unit
 α:=Arr×Int
 args:=fun _=>[.agg x.row1,.agg y.row1,.bool false]
 st:=fun _=>⟨[],[]⟩
 pre:=fun _=>True
 post:=fun _ z=>z.2=0->x.sh≠[]->x.sh.length=y.sh.length->∃s,JoH x y s
 res:=fun _ z=>.ret (.tup [.agg z.1.row2,.int .i64 z.2])
 out:=fun _ _=>⟨[],[]⟩
noncomputable def Ejg(x y:Arr):Senv:={ EC (Bc6 x y) 179 5 [6,7,8,9,10,11,12,13,14,15,16,17,18,19,20,21,22,30,38,45,68,86,87,88,105,129,163,164,165] (fun id=>match id with | 3=>([0,1,2,3,4,5,6,7],[]) | 12=>([0,1,2,3,4,6,7,8,9,10,5,11,12,13,14,15],[5,11,12,13,14,15]) | 17=>([0,1,2,3,4,5,6,7,8,9,10,11,12,13,14,15],[]) | 20=>([0,1,2,3,4,5,6,7,8,9,10,11],[11]) | 21=>([0,1,2,3,4,6,5,7,8,9,10],[1,5,7]) | 26=>([0,1,2,3,4,5,6,7,8,9,10,11,12,13,14,15,16],[15,16]) | _=>([],[])) with
 inl:=Go.Ab.inlS
 gz:=fun r=>match r with
  |21=>[.slot 14]
  |24=>[.cell 17 102]
  |_=>[]
 unr:=fun b=>match b with
  |3=>2
  |_=>0
 gr:=[.cell 2 403]
 cut:=fun id _env S=>match id with
  |12=>some { slots:=[12,13],keep:=[2,3,4,6,7,8,9,10,11],α:=Nat×Nat,st:=fun b=>([.ref 15 b.1 0,.ref 16 b.2 0],⟨(16,b.2,exO y (sX y x))::(15,b.1,exO x (sX x y))::S.objs,S.toks⟩),inv:=fun _=>RkP x y,mu:=fun _=>0 }
  |_=>none
 ann:=fun b _env S=>match b with
  |1=>some { slots:=[87],keep:=[2,3,4,6,7,8,9,10,11,12,13,14,86],α:=Nat,st:=fun i=>([.int .i64 i],S),inv:=fun i=>i<=rkN x y/\∀j,j<i->j≠0->(sX x y).getD j 0=(sX y x).getD j 0,mu:=fun i=>rkN x y-i }
  |_=>none }
def Kk(a:Arr):Int:=Arr.k a
def KX(a:Arr):Nat:=LN (Arr.sh a)
def Y9(a:Arr)(b:Nat):List D:=[ZI (GI (Arr.sh a) b)]
def Xf(a:Arr):D:=D.sl N1 (KX a) (fun i=>Y9 a i) Mode.any
def J8(a:Arr):Nat:=LN (Arr.nu a)
def Xg(a:Arr)(b:Nat):List D:=[ZI (GI (Arr.nu a) b)]
def Qip(a:Arr):D:=D.sl N1 (J8 a) (fun i=>Xg a i) Mode.any
def J9(a:Arr):Nat:=LN (Arr.it a)
def Qiq:Arr:=DA
def Xh(a:Arr)(b:Nat):Arr:=List.getD (Arr.it a) b Qiq
def Qir(a:Arr)(b:Nat):List D:=Arr.row (Xh a b)
def Qis(a:Arr):D:=D.sl N4 (J9 a) (fun i=>Qir a i) Mode.any
def QbF(a:Arr):List D:=[ZI (Kk a),Xf a,Qip a,Qis a]
def Qit(a:Arr):D:=D.agg (QbF a)
def Qiu(a:Arr):List D:=[Qit a]
def Kl(a:Nat):Prop:=SM a/\True
def Km(a:Int)(b c:Arr):Prop:=a=Z0->Arr.sh b≠[]->KX b=KX c->∃(s:List Int),JoH b c s
def QbG(a:Arr):Prop:=N0=J8 a/\(∀(i:Nat),i<N0->Cr (List D) [] (Xg a i))/\True
def Qmq(a:Arr)(b:Nat):List Int:=Arr.sh (Xh a b)
def Qmr(a:Arr)(b:Nat):List Int:=Arr.nu (Xh a b)
def Qiv(a:Arr)(b:Nat):List Arr:=Arr.it (Xh a b)
def QbH(a:Arr)(b:Nat):List D:=[ZI (Arr.k (Xh a b)),SI (Qmq a b),SI (Qmr a b),D.sl N4 (LN (Qiv a b)) (fun i=>Arr.row (List.getD (Qiv a b) i Qiq)) Mode.any]
def QbI(a:Arr):Prop:=(N0=J9 a/\(∀(i:Nat),i<N0->Cr (List D) [] (QbH a i))/\True)/\True
def Qiw(a:Arr):Prop:=QbG a/\QbI a
def Za(a:Arr):Prop:=Z0=Kk a/\(N0=KX a/\(∀(i:Nat),i<N0->Cr (List D) [] (Y9 a i))/\True)/\Qiw a
def KY(a:Arr):Int:=(NI (KX a))
def Zb(a:Arr):Bool:=decide (Z0<KY a)
def Zc(a b:Arr):Bool:=decide (IntKind.wrap IntKind.i64 (KY a+Z1)<KY b)
def Zd(a b:Arr):Bool:=bif bif Zb a then Zb b else false then bif Zc b a then true else Zc a b else false
def Qix(a b:Arr):Prop:=false=Zd a b/\True
def Qiy(a:Arr):Int:=if Z1<KY a then KY a else Z1
def Qiz(a b:Arr):Int:=if Qiy a<KY b then KY b else Qiy a
def QiA(a b:Arr):D:=ZI (Qiz a b)
def QiB(a b:Arr):List D:=[QiA a b,ZI Z0]
def Ze(a b:Arr)(c:Arr×Arr):Prop:=xgP a b (QbF a) (Xf b::QiB a b) c
def Kn(a:Nat)(b:Arr):Prop:=SM a/\SM (Xf b)
def Ko(a:Nat)(b:Arr):Prop:=SM a/\SM (Qit b)
def Zf(a b:Arr)(c:Arr×Arr):Prop:=xgP a b (QbF b) (Xf a::QiB a b) c
def Jy(a b c d:Nat):Prop:=a≠b/\c≠b/\d≠b/\True
def KZ(a b c d e:Nat):Prop:=a≠b/\Jy c b d e
def QbJ(a:Arr):Prop:=SM (Kk a)
def QbK(a:Arr):Prop:=SM (KX a)/\(∀(i:Nat),i<KX a->SM (Y9 a i))/\True
def QbL(a:Arr):Prop:=SM (J8 a)/\(∀(i:Nat),i<J8 a->SM (Xg a i))/\True
def QbM(a:Arr):Prop:=SM (J9 a)/\(∀(i:Nat),i<J9 a->SM (Qir a i))/\True
def Kp(a b:Arr):List Int:=sX a b
def QB(a b:Arr):Nat:=LN (Kp a b)
def Xi(a:Nat)(b c:Arr):Prop:=a<QB b c
def Va(a b:Arr)(c:Nat):List D:=[ZI (GI (Kp a b) c)]
def QiC(a b c d:Arr):Prop:=QbJ a/\QbK a/\QbL a/\QbM a/\(QB b c=QB a d/\(∀(i:Nat),Xi i b c->Va b c i=Va a d i)/\True)/\True
def QbN:Prop:=SM N0/\(∀(i:Nat),i<N0->Cr (List D) [] [])/\True
def QiD(a:Arr):Prop:=QbJ a/\QbK a/\QbL a/\QbM a/\True
def QiE(a b:Nat)(c:Arr)(d:Nat)(e:Arr):Prop:=SM a/\(SM Z0/\QbN/\QbN/\QbN/\True)/\SM b/\QiD c/\SM d/\QiD e/\True
def QbO(a b:Nat)(c d e f g h:Arr)(k l m:Nat):Prop:=SM a/\SM b/\∃(x:Nat×Nat),RkP c d/\(a=x.1/\b=x.2/\True)/\(b=x.2/\QiC d e f c/\a=x.1/\QiC c g h d/\QiE k l d m c)/\True
def QiF(a b c d:Nat)(e f g h k l:Arr):Prop:=∀(x:Nat),KZ a x b c d->QbO a x e f g h k l b c d
def QiG(a b c d:Nat)(e f g h k l:Arr):Prop:=∀(x:Nat),KZ a x b c d->QbO x a e f g h k l b c d
def QbP(a:Nat)(b:Arr)(c:Nat)(d:Arr)(e f:Nat)(g h:Arr)(k:Nat):Prop:=Kn a b/\Ko c d/\∃(x:Arr×Arr),Zf b d x/\∀(_y:Unit),True->QbO e f b d x.1 x.2 g h k c a
def QiH(a:Nat)(b:Arr)(c:Nat)(d:Arr)(e f:Nat)(g h:Arr):Prop:=Kn a b/\Ko c d/\(∃(x:Arr×Arr),Zf b d x/\∀(_y:Unit),True->QiF e f c a b d x.1 x.2 g h)/\∀(x:Nat),KZ e x f c a->QbP a b c d e x g h f
def QiI(a:Nat)(b:Arr)(c:Nat)(d:Arr)(e f:Nat)(g h:Arr):Prop:=Kn a b/\Ko c d/\(∃(x:Arr×Arr),Zf b d x/\∀(_y:Unit),True->QiG e f c a b d x.1 x.2 g h)/\∀(x:Nat),KZ e x f c a->QbP a b c d x e g h f
def QiJ(a:Nat)(b:Arr)(c:Nat)(d:Arr)(e f g:Nat):Prop:=Kn a b/\Ko c d/\Kn c d/\Ko a b/\∃(x:Arr×Arr),Ze b d x/\∀(_y:Unit),True->QbP a b c d e f x.1 x.2 g
def QiK(a b:Arr):D:=D.sl N1 (QB a b) (fun i=>Va a b i) Mode.any
def QiL(a b:Arr):List D:=[QiK a b]
def QbQ(a:Nat)(b c:Arr):Prop:=a<=rkN b c/\∀(j:Nat),j<a->j≠N0->GI (Kp b c) j=GI (Kp c b) j
def QiM(a b:Arr):Prop:=SM (QB a b)
def QiN(a b:Arr):Prop:=∀(i:Nat),Xi i a b->SM (Va a b i)
def QiO(a b:Arr):Prop:=QbJ a/\QbK a/\QbL a/\QbM a/\(QiM a b/\QiN a b/\True)/\True
def QiP(a:Nat)(b c:Arr)(d e f g h k:Nat):Prop:=(SM a/\(QiM b c/\SM d/\QiN b c)/\SM e/\QiO c b/\SM f/\QiO b c/\QiE g h c k b)/\True
def Jz(a b:Arr):Int:=(NI (QB a b))
def QiQ(a b:Arr)(c:Nat):Bool:=GI (Kp a b) (Int.toNat (↑c:Int)) != GI (Kp b a) (Int.toNat (↑c:Int))
def QbR(a:Nat)(b c:Arr):Bool:=bif (↑a:Int) != Z0 then QiQ b c a else false
def QiR(a:Arr):Prop:=SM (ZI (KY a))
def QiS(a b:Arr):Prop:=SM (QiA a b)
def Zg(a b:Arr):Int:=GI (Kp a b) N0
def QiT(a b:Arr):List D:=[ZI (IntKind.wrap IntKind.i64 (Zg a b+Zg b a))]
def QbS(a b:Arr)(c:Nat):List D:=BA (fun i=>Va a b i) N0 (QiT a b) c
def QbT(a:D):Bool:=match a with | D.unk=>false | D.agg _cs=>false | D.tup _ds=>false | _x=>true
def QiU(a:Nat)(b c:Arr):Prop:=SM a/\∀(_t:Nat),Kl a/\∃(y:Arr×Int),Km y.2 b c/\(Za y.1/\(21:Int)=y.2/\True)/\True/\True
def QiV(a b:Arr):List D:=ZI (Kk a)::Xf a::Qip a::Qis a::QiL a b
def QiW(a b:Arr):D:=D.agg (QiV a b)
def QiX(a b:Arr):List D:=[QiW a b]
def QiY(a b:Arr)(c:Nat):D:=D.sl N1 (QB a b) (BA (fun i=>Va a b i) N0 (QiT a b)) (Mode.tok N0 c)
def QiZ(a:Nat)(b c:Arr):Prop:=SM a/\SM (QiK b c)
def Zh(a b:Arr)(c:Arr×List Int×Nat×Nat):Prop:=adP (QiV a b) c
def Qi0(a b:Arr):Int:=(NI (prL (shN (List.drop N1 (sZ a b)))))
def QbU(a:Arr):Prop:=Kk a≠3
def QbV(a:Arr×List Int×Nat×Nat)(b:Nat)(c d:Arr):Prop:=U4 a b b Z0 (IntKind.wrap IntKind.i64 (Zg c d*Qi0 d c))
def Vb(a b:Arr):Prop:=Kk a=Kk b
def Vc(a b c:Arr):Prop:=QB a b=KX c/\(∀(i:Nat),Xi i a b->QbS a b i=Y9 c i)/\True
def JA(a:Arr):Prop:=Kk a=3
def Qi1(a:Nat)(b c:Arr)(d:Nat):Prop:=N0+a=J8 b/\(∀(i:Nat),i<N0+a->Bp N0 (fun _x=>[]) (rnD c (d*a)) i=Xg b i)/\True
def Qi2(a b:Nat)(c d:Arr)(e:Nat)(f:Arr)(g:Nat):Prop:=SM a/\SM b/\∀(_t:Nat),Kl b/\∃(y:Arr×Int),Km y.2 c d/\((Vb c y.1/\Vc c d y.1/\Qi1 e y.1 f g/\QbI y.1)/\Z0=y.2/\True)/\True/\True
def Qi3(a:Nat)(b:Arr)(c:Nat):Prop:=∀(i:Nat),i<a->(List.all (riD b (c*a) i) fun (x:D)=>QbT x)=true
def Qi4(a:Nat)(b c:Arr)(d:Nat):Prop:=(a=J9 b/\(∀(i:Nat),i<a->riD c (d*a) i=QbH b i)/\True)/\True
theorem Bfj(x y:Arr)(h:JgH x y):ACalls Try.prog 20 ((sJg x y).args ()) ((sJg x y).st ()) (SpecR (sJg x y) ()):=by
 refine Bo (A:=sJg x y) (x:=()) (E:=Ejg x y) (evS (Bb5 h) rfl) Try.func20 rfl (by kernel_rfl) rfl (by simp[sJg,Ejg,EC,E0]) ?_
 refine Bu (T :=
  ∀(x_1:Nat),True->∀(x_2:Nat),x_1≠x_2/\True->∀(x_3:Nat),x_2≠x_3/\x_1≠x_3/\True->SM x_1/\∃(x_4:Unit),rgP x y (Qiu x)/\∀(y_1:Unit),True->SM x_2/\∃(x_5:Unit),rgP x y (Qiu y)/\∀(y_2:Unit),True->SM x_1/\SM x_2/\SM x_1/\SM x_2/\ifB (Kk x != Kk y) (SM x_3/\∀(t:Nat),Kl x_3/\∃(y_3:Arr×Int),Km y_3.2 x y/\(Za y_3.1/\(14:Int)=y_3.2/\True)/\True/\True) (ifB (Zb x) (ifB (Zb y) (ifB (Zc y x) (true=Zd x y/\True) (Zc x y=Zd x y/\True)) (Qix x y)) (Qix x y)/\ifB (Zd x y) (SM x_3/\∀(t:Nat),Kl x_3/\∃(y_3:Arr×Int),Km y_3.2 x y/\(Za y_3.1/\(15:Int)=y_3.2/\True)/\True/\True) ((SM x_1/\SM x_2/\SM x_2/\SM x_1/\(∃(x_6:Arr×Arr),Ze x y x_6/\∀(y_3:Unit),True->Kn x_1 x/\Ko x_2 y/\(∃(x_7:Arr×Arr),Zf x y x_7/\∀(y_4:Unit),True->(∀(x_8:Nat),Jy x_3 x_8 x_2 x_1->QiF x_8 x_3 x_2 x_1 x y x_7.1 x_7.2 x_6.1 x_6.2)/\∀(x_8:Nat),Jy x_3 x_8 x_2 x_1->QiG x_8 x_3 x_2 x_1 x y x_7.1 x_7.2 x_6.1 x_6.2)/\(∀(x_7:Nat),Jy x_3 x_7 x_2 x_1->QiH x_1 x x_2 y x_7 x_3 x_6.1 x_6.2)/\∀(x_7:Nat),Jy x_3 x_7 x_2 x_1->QiI x_1 x x_2 y x_7 x_3 x_6.1 x_6.2)/\(∀(x_6:Nat),Jy x_3 x_6 x_2 x_1->Kn x_1 x/\Ko x_2 y/\Kn x_2 y/\Ko x_1 x/\(∃(x_7:Arr×Arr),Ze x y x_7/\∀(y_3:Unit),True->QiH x_1 x x_2 y x_6 x_3 x_7.1 x_7.2)/\∀(x_7:Nat),KZ x_6 x_7 x_3 x_2 x_1->QiJ x_1 x x_2 y x_6 x_7 x_3)/\∀(x_6:Nat),Jy x_3 x_6 x_2 x_1->Kn x_1 x/\Ko x_2 y/\Kn x_2 y/\Ko x_1 x/\(∃(x_7:Arr×Arr),Ze x y x_7/\∀(y_3:Unit),True->QiI x_1 x x_2 y x_6 x_3 x_7.1 x_7.2)/\∀(x_7:Nat),KZ x_6 x_7 x_3 x_2 x_1->QiJ x_1 x x_2 y x_7 x_6 x_3)/\∀(x_6:Nat×Nat),RkP x y->SM x_6.1/\(SM (QiL x y)/\Kp x y≠[]/\QB x y<=1000000)/\∀(y_3:Nat×Nat),QB x y<=y_3.2->(∃(x_7:Nat),QbQ x_7 x y/\(Z0=(↑x_7:Int)/\True)/\QiP y_3.1 x y y_3.2 x_6.2 x_6.1 x_3 x_2 x_1)/\∀(x_7:Nat),QbQ x_7 x y->ifB (decide ((↑x_7:Int)<Qiz x y)) (ifB ((↑x_7:Int) != Z0) (SM x_6.1/\Bc (Z0<=(↑x_7:Int)/\(↑x_7:Int)<Jz x y) (SM x_6.2/\Bc (Z0<=(↑x_7:Int)/\(↑x_7:Int)<Jz y x) (QiQ x y x_7=QbR x_7 x y/\True))) (false=QbR x_7 x y/\True)/\ifB (QbR x_7 x y) (SM x_3/\∀(t:Nat),Kl x_3/\∃(y_4:Arr×Int),Km y_4.2 x y/\(Za y_4.1/\(16:Int)=y_4.2/\True)/\True/\True) ((SM (D.bool false)/\SM (D.ref N0 x_1 N0)/\SM (D.ref (max (N0+N1) N0) x_2 N0)/\SM (D.ref (max (N1+N1) (max (N0+N1) N0)) x_3 N0)/\SM (ZI Z0)/\QiR x/\QiR y/\QiS x y/\SM (ZI Z0)/\SM (D.ref (15:Nat) x_6.1 N0)/\SM (D.ref (16:Nat) x_6.2 N0)/\SM (D.vs (17:Nat) y_3.1 (QB x y) y_3.2 N1)/\QiS x y/\True)/\∃(y_4:Nat),QbQ y_4 x y/\rkN x y-y_4<rkN x y-x_7/\(IntKind.wrap IntKind.i64 ((↑x_7:Int)+Z1)=(↑y_4:Int)/\True)/\QiP y_3.1 x y y_3.2 x_6.2 x_6.1 x_3 x_2 x_1)) (Bc (Z0<=Z0/\Z0<Jz x y) (SM y_3.1/\Bc (N0<QB x y) (SM x_6.2/\Bc (Z0<=Z0/\Z0<Jz y x) (Bc (Z0<=Z0/\Z0<Jz x y) (SM y_3.1/\Bc (N0<QB x y) (SM y_3.1/\SM y_3.2/\Bc (QB x y<=QB x y) ((∀(i:Nat),Xi i x y->(List.all (QbS x y i) fun (x:D)=>QbT x)=true)/\∀(t:Nat),∃(x_8:List Int),((QB x y=LN x_8/\(∀(i:Nat),Xi i x y->wkL (QbS x y i) [ZI (GI x_8 i)])/\True)/\True)/\∀(y_4:Unit),True->ifB (!Bi x_8) (QiU x_3 x y) (SM x_6.1/\SM x_6.2/\∃(x_9:Arr×Arr),wgP x y (QiX x y) x_9/\∀(y_5:Unit),True->(SM x_6.2/\SM (QiW y x))/\∃(x_10:Arr×Arr),wgP x y (QiX y x) x_10/\∀(y_6:Unit),True->ifB (decide ((262144:Int)<IntKind.wrap IntKind.i64 (swW x_9.1 (Kp x_9.1 x_9.2)+swW x_10.1 (Kp x_10.1 x_10.2)))) (QiU x_3 x y) (SM x_1/\∀(x_11:Nat),x_6.2≠x_11/\KZ x_6.1 x_11 x_3 x_2 x_1->SM x_11/\∀(t_1:Nat),∃(x_12:Unit),rzP x y (QiY x y t) N0 Z0/\∀(y_7:Unit),True->∃(x_13:Unit),rzP x y (QiY x y t) N1 Z1/\∀(y_8:Unit),True->SM x_6.1/\Bc (Z0<=Z0/\Z0<Jz x y) (SM x_6.2/\Bc (Z0<=Z0/\Z0<Jz y x) (∀(x_14:Nat),x_11≠x_14/\x_6.2≠x_14/\KZ x_6.1 x_14 x_3 x_2 x_1->QiZ x_6.2 y x/\QiZ x_6.1 x y/\SM x_14/\SM x_6.1/\SM x_14/\∃(q:Arr×List Int×Nat×Nat),(Zh x y q/\U4 q x_11 x_11 Z0 (IntKind.wrap IntKind.i64 (Zg x y*Qi0 x y))/\SM t_1/\N0<=1000000)/\(QbU q.1->∀(u':Nat),SM x_6.2/\SM x_14/\∃(q_1:Arr×List Int×Nat×Nat),(Zh y x q_1/\QbV q_1 x_11 y x/\SM u'/\N0+q.2.2.2<=1000000)/\(QbU q_1.1->∀(u':Nat),SM x_11/\SM x_3/\∀(t:Nat),Kl x_3/\∃(y_9:Arr×Int),Km y_9.2 x y/\((Vb x y_9.1/\Vc x y y_9.1/\(N0+q.2.2.2+q_1.2.2.2=J8 y_9.1/\(∀(i:Nat),i<N0+q.2.2.2+q_1.2.2.2->Bp (N0+q.2.2.2) (Bp N0 (fun x=>[]) (rnD q.1 (q.2.2.1*q.2.2.2))) (rnD q_1.1 (q_1.2.2.1*q_1.2.2.2)) i=Xg y_9.1 i)/\True)/\QbI y_9.1)/\Z0=y_9.2/\True)/\True/\True)/\(JA q_1.1->q_1.2.2.2=N0->Qi2 x_11 x_3 x y q.2.2.2 q.1 q.2.2.1)/\(JA q_1.1->N0<q_1.2.2.2->∀(v c:Nat),q_1.2.2.2<=c->SM x_11/\SM x_3/\SM v/\SM c/\Bc (q_1.2.2.2<=q_1.2.2.2) (Qi3 q_1.2.2.2 q_1.1 q_1.2.2.1/\∀(t:Nat),Kl x_3/\∃(y_9:Arr×Int),Km y_9.2 x y/\((Vb x y_9.1/\Vc x y y_9.1/\Qi1 q.2.2.2 y_9.1 q.1 q.2.2.1/\Qi4 q_1.2.2.2 y_9.1 q_1.1 q_1.2.2.1)/\Z0=y_9.2/\True)/\True/\True)))/\(JA q.1->q.2.2.2=N0->SM x_6.2/\SM x_14/\∃(q:Arr×List Int×Nat×Nat),(Zh y x q/\QbV q x_11 y x/\SM t_1/\N0<=1000000)/\(QbU q.1->∀(u':Nat),Qi2 x_11 x_3 x y q.2.2.2 q.1 q.2.2.1)/\(JA q.1->q.2.2.2=N0->SM x_11/\SM x_3/\∀(t:Nat),Kl x_3/\∃(y_9:Arr×Int),Km y_9.2 x y/\((Vb x y_9.1/\Vc x y y_9.1/\Qiw y_9.1)/\Z0=y_9.2/\True)/\True/\True)/\(JA q.1->N0<q.2.2.2->∀(v c:Nat),q.2.2.2<=c->SM x_11/\SM x_3/\SM v/\SM c/\Bc (q.2.2.2<=q.2.2.2) (Qi3 q.2.2.2 q.1 q.2.2.1/\∀(t:Nat),Kl x_3/\∃(y_9:Arr×Int),Km y_9.2 x y/\((Vb x y_9.1/\Vc x y y_9.1/\QbG y_9.1/\Qi4 q.2.2.2 y_9.1 q.1 q.2.2.1)/\Z0=y_9.2/\True)/\True/\True)))/\(JA q.1->N0<q.2.2.2->∀(v c:Nat),q.2.2.2<=c->SM x_6.2/\SM x_14/\∃(q_1:Arr×List Int×Nat×Nat),(Zh y x q_1/\QbV q_1 x_11 y x/\SM t_1/\SM v/\SM q.2.2.2/\SM c/\q.2.2.2<=1000000/\q.2.2.2<=c/\JA q_1.1)/\∀(v2 c:Nat),q.2.2.2+q_1.2.2.2<=c->SM x_11/\SM x_3/\SM v2/\SM c/\Bc (q.2.2.2+q_1.2.2.2<=q.2.2.2+q_1.2.2.2) ((∀(i:Nat),i<q.2.2.2+q_1.2.2.2->(List.all (Bp q.2.2.2 (riD q.1 (q.2.2.1*q.2.2.2)) (riD q_1.1 (q_1.2.2.1*q_1.2.2.2)) i) fun (x:D)=>QbT x)=true)/\∀(t:Nat),Kl x_3/\∃(y_9:Arr×Int),Km y_9.2 x y/\((Vb x y_9.1/\Vc x y y_9.1/\QbG y_9.1/\(q.2.2.2+q_1.2.2.2=J9 y_9.1/\(∀(i:Nat),i<q.2.2.2+q_1.2.2.2->Bp q.2.2.2 (riD q.1 (q.2.2.1*q.2.2.2)) (riD q_1.1 (q_1.2.2.1*q_1.2.2.2)) i=QbH y_9.1 i)/\True)/\True)/\Z0=y_9.2/\True)/\True/\True)))))))))))))))) (by kernel_rfl) ?_
 delta DA GI LN N0 N1 N4 NI SI SM Z0 Z1 ZI Kk KX Qir Qis QbF Qit Qiu Kl Km QbG Qmq Qmr Y9 Qiv QbH QbI Qiw Za KY Zb Zc Zd Qix Xf Qiy Qiz QiA QiB Ze Kn Ko Zf Jy KZ J8 QbJ QbK QbL QbM Kp QB Xi Va QiC QbN Xg QiD QiE QbO QiF QiG QbP QiH QiI QiJ QiK Qip QiL QbQ QiM QiN QiO QiP Jz QiQ QbR QiR J9 QiS Zg QiT QbS QbT QiU QiV QiW QiX QiY Qiq QiZ Zh Qi0 QbU QbV Vb Vc JA Qi1 Qi2 Xh Qi3 Qi4
 have da:(default:Arr)=Arr.mk 0 [] [] []:=rfl
 simp only[<- da]
 simp only[ne_eq,implies_true,Int.toNat_natCast,Bl,Be,decide_eq_true_eq,decide_eq_false_iff_not,true_and,and_true,bne_iff_ne,bne_eq_false_iff_eq,Bool.not_eq_true',Bool.not_eq_false',exists_const,forall_const,Prod.exists]
 obtain ⟨rx,ry⟩:=h.r8
 have lx:=((Bk _).1 rx).1
 have ly:=((Bk _).1 ry).1
 have nn:∀ {p:Nat->Prop} (i:Nat),i<0->p i:=fun i hi=>absurd hi (Nat.not_lt_zero i)
 have w1:IntKind.i64.wrap ((y.sh.length:Int)+1)=(y.sh.length:Int)+1:=Bb (by omega) (by omega)
 have w2:IntKind.i64.wrap ((x.sh.length:Int)+1)=(x.sh.length:Int)+1:=Bb (by omega) (by omega)
 simp only[w1,w2]
 have hrk:(if (if (1:Int)<(x.sh.length:Int) then (x.sh.length:Int) else 1)<(y.sh.length:Int) then (y.sh.length:Int) else if (1:Int)<(x.sh.length:Int) then (x.sh.length:Int) else 1)=(rkN x y:Nat):=by
  unfold rkN
  split<;>split<;>omega
 simp only[hrk]
 have ER:∀z:Int,z≠0->∃(a:Arr) (b:Int),(b=0->¬x.sh=[]->x.sh.length=y.sh.length->∃s,JoH x y s)/\(0=a.k/\(0=a.sh.length/\∀i:Nat,i<0->Cr (List D) [] [.int .i64 (a.sh.getD i 0)])/\(0=a.nu.length/\∀i:Nat,i<0->Cr (List D) [] [.int .i64 (a.nu.getD i 0)])/\0=a.it.length/\∀i:Nat,i<0->Cr (List D) [] (a.it.getD i default).row1)/\z=b:=fun z hz=>⟨.mk 0 [] [] [],z,fun e=>absurd e hz,⟨rfl,⟨rfl,nn⟩,⟨rfl,nn⟩,rfl,nn⟩,rfl⟩
 have p1:rkN x y<=8:=by unfold rkN;omega
 have p0:1<=rkN x y:=by unfold rkN;omega
 refine fun b1 b2 _ b3 _=>⟨⟨x,.inl rfl,Bg _⟩,⟨y,.inr rfl,Bg _⟩,fun _=>ER 14 (by decide),fun hk=>⟨?_,fun _=>ER 15 (by decide),fun hb=>⟨?_,?_⟩⟩⟩
 ·refine⟨fun c1=>⟨fun c2=>⟨fun c3=>?_,fun c3=>?_⟩,fun c2=>?_⟩,fun c1=>?_⟩
  ·rw[decide_eq_true c1,decide_eq_true c2,decide_eq_true c3];rfl
  ·rw[decide_eq_true c1,decide_eq_true c2,decide_eq_false c3];rfl
  ·rw[decide_eq_false c2,decide_eq_true c1];rfl
  ·rw[decide_eq_false c1];rfl
 ·have hr:RkP x y:=by
   refine⟨lx,ly,fun h1 h2=>?_⟩
   have q1:0<x.sh.length:=List.length_pos_iff.2 h1
   have q2:0<y.sh.length:=List.length_pos_iff.2 h2
   rw[decide_eq_true (show (0:Int)<(x.sh.length:Nat) by omega),decide_eq_true (show (0:Int)<(y.sh.length:Nat) by omega)] at hb
   simp only[cond_true] at hb
   by_cases c3:(y.sh.length:Int)+1<x.sh.length
   ·rw[decide_eq_true c3] at hb
    simp at hb
   ·rw[decide_eq_false c3,cond_false,decide_eq_false_iff_not] at hb
    omega
  have HX:xgP x y [.int .i64 x.k,isl x.sh .any,isl x.nu .any,gsl 4 Arr.row x.it] [isl y.sh .any,.int .i64 (rkN x y:Nat),.int .i64 0] (x,y):=⟨.inl rfl,rfl,Bg _,hr⟩
  have HY:xgP x y [.int .i64 y.k,isl y.sh .any,isl y.nu .any,gsl 4 Arr.row y.it] [isl x.sh .any,.int .i64 (rkN x y:Nat),.int .i64 0] (y,x):=⟨.inr rfl,rfl,Bg _,hr⟩
  repeat' (first | exact hr | exact rfl | (refine⟨x,y,HX,?_⟩) | (refine⟨y,x,HY,?_⟩) | (refine⟨_,_,hr,⟨rfl,rfl⟩,rfl,?_⟩) | (intro _) | refine And.intro ?_ ?_)
 rintro ⟨u1,u2⟩ hr
 have L1:=BbA hr
 have L2:(sX y x).length=rkN x y:=by rw[Uw];exact BbA hr.symm
 have ne1:sX x y≠[]:=fun e=>by rw[e] at L1;simp at L1;omega
 refine⟨⟨ne1,by omega⟩,fun y3 hy3=>⟨⟨0,⟨Nat.zero_le _,fun j hj=>absurd hj (Nat.not_lt_zero j)⟩,rfl⟩,fun i hi=>⟨fun hlt=>⟨⟨fun hne=>⟨⟨by omega,by omega⟩,⟨by omega,by omega⟩,?_⟩,fun e=>?_⟩,fun _=>ER 16 (by decide),fun e=>⟨i+1,⟨by omega,fun j hj hj0=>?_⟩,by omega,Bb (by omega) (by omega)⟩⟩,fun hge=>?_⟩⟩⟩
 ·rw[show ((i:Int) != 0)=true from bne_iff_ne.2 hne];rfl
 ·rw[show ((i:Int) != 0)=false from bne_eq_false_iff_eq.2 e];rfl
 ·by_cases hji:j<i
  ·exact hi.2 j hji hj0
  ·obtain rfl:j=i:=by omega
   rw[show ((j:Int) != 0)=true from bne_iff_ne.2 (by omega),cond_true] at e
   exact bne_eq_false_iff_eq.1 e
 obtain ⟨r1,r2⟩:=U7 h hr
 have d1:=((Bk _).1 r1).2.1
 have d2:=((Bk _).1 r2).2.1
 have ne2:sX y x≠[]:=fun e=>by rw[e] at L2;simp at L2;omega
 have ht:(sX x y).tail=(sX y x).tail:=by
  refine List.ext_getElem (by rw[List.length_tail,List.length_tail,L1,L2]) fun j h1 h2=>?_
  rw[List.length_tail] at h1 h2
  have:=hi.2 (j+1) (by omega) (by omega)
  rw[List.getElem_tail,List.getElem_tail]
  rw[List.getD_eq_getElem?_getD,List.getD_eq_getElem?_getD,List.getElem?_eq_getElem (by omega),List.getElem?_eq_getElem (by omega)] at this
  exact this
 have bnd:∀ {l:List Int},l≠[]->(∀d∈l,0<=d/\d<=65536)->0<=l.headD 0/\l.headD 0<=65536:=fun {l} hl hd=>by
  cases l with
  |nil=>exact (hl rfl).elim
  |cons d r=>exact hd d (by simp)
 have bx:=bnd ne1 d1
 have by':=bnd ne2 d2
 have g0:∀l:List Int,l.getD 0 0=l.headD 0:=fun l=>by cases l<;>rfl
 rw[g0,g0]
 rw[Bb (n:=(sX x y).headD 0+(sX y x).headD 0) (by omega) (by omega)]
 have hsl:(sZ x y).length=(sX x y).length:=by unfold sZ;rw[List.length_cons,List.length_tail];omega
 have hsh:∀i,BA (fun i=>[D.int .i64 ((sX x y).getD i 0)]) 0 [.int .i64 ((sX x y).headD 0+(sX y x).headD 0)] i=[.int .i64 ((sZ x y).getD i 0)]:=fun i=>Ge ne1 _ i
 have hw2:∀m,wkL [D.sl 1 (sX x y).length (BA (fun i=>[D.int IntKind.i64 ((sX x y).getD i 0)]) 0 [D.int IntKind.i64 ((sX x y).headD 0+(sX y x).headD 0)]) m] [isl (sZ x y) .any]:=fun m=>by
  simp only[isl,wkL,wkD,Ba]
  refine⟨⟨by simp,hsl.symm,fun i _=>?_,by simp[Bw]⟩,trivial⟩
  rw[hsh]
  exact Bg _
 have s1:=Tt (a:=x) r1
 have s2:=Tt (a:=y) r2
 refine⟨⟨by omega,by omega⟩,by omega,⟨by omega,by omega⟩,⟨by omega,by omega⟩,by omega,Nat.le_refl _,fun i _=>by rw[hsh];rfl,fun t=>⟨sZ x y,⟨hsl.symm,fun i _=>by rw[hsh];exact Bg _⟩,fun _=>ER 21 (by decide),fun hz=>⟨x,y,⟨.inl rfl,rfl,hr⟩,y,x,⟨.inr rfl,rfl,hr⟩,fun _=>ER 21 (by decide),fun hwt b4 _=>⟨⟨hw2 _,hz,rfl⟩,⟨hw2 _,hz,rfl⟩,⟨by omega,by omega⟩,⟨by omega,by omega⟩,fun b5 _=>?_⟩⟩⟩⟩
 rw[Bb (by omega) (by omega)] at hwt
 have hd1:(sZ x y).drop 1=(sX x y).tail:=rfl
 have cx:sX x y=(sX x y).headD 0::(sX x y).tail:=by
  cases hh:sX x y with
  |nil=>exact (ne1 hh).elim
  |cons d r=>rfl
 have cy:sX y x=(sX y x).headD 0::(sX x y).tail:=by
  rw[ht]
  cases hh:sX y x with
  |nil=>exact (ne2 hh).elim
  |cons d r=>rfl
 obtain ⟨_,_,fx3,fx4⟩:=Bs.1 (By h.hx)
 obtain ⟨_,_,fy3,fy4⟩:=Bs.1 (By h.hy)
 have px:=Ea r1
 have py:=Ea r2
 have ex:prL (shN (sX x y))=((sX x y).headD 0).toNat*prL (shN (sX x y).tail):=by
  have:=congrArg (fun l=>prL (shN l)) cx
  simpa[shN,prL] using this
 have ey:prL (shN (sX y x))=((sX y x).headD 0).toNat*prL (shN (sX x y).tail):=by
  have:=congrArg (fun l=>prL (shN l)) cy
  simpa[shN,prL] using this
 have qx:x.sh≠[]->prL (shN (sX x y))=prL (shN x.sh):=Bei
 have qy:y.sh≠[]->prL (shN (sX y x))=prL (shN y.sh):=Bei
 have m1:IntKind.i64.wrap ((sX x y).headD 0*(prL (shN (sX x y).tail):Nat))=(prL (shN (sX x y)):Nat):=by
  have:(sX x y).headD 0*(prL (shN (sX x y).tail):Nat)=(prL (shN (sX x y)):Nat):=by rw[ex,Int.natCast_mul,Int.toNat_of_nonneg bx.1]
  rw[this]
  exact Bb (by omega) (by omega)
 have m2:IntKind.i64.wrap ((sX y x).headD 0*(prL (shN (sX x y).tail):Nat))=(prL (shN (sX y x)):Nat):=by
  have:(sX y x).headD 0*(prL (shN (sX x y).tail):Nat)=(prL (shN (sX y x)):Nat):=by rw[ey,Int.natCast_mul,Int.toNat_of_nonneg by'.1]
  rw[this]
  exact Bb (by omega) (by omega)
 have PO:(0:Int)=0->¬x.sh=[]->x.sh.length=y.sh.length->∃s,JoH x y s:=fun _ hn he=>by
  have hny:y.sh≠[]:=fun q=>by rw[q] at he;exact hn (List.eq_nil_of_length_eq_zero he)
  have t1:=Beh hn he
  have t2:=Beh hny he.symm
  rw[t1,t2] at ht
  refine⟨sZ x y,h.hx,h.hy,h.ox,h.oy,hk,hn,hny,ht,by unfold sZ;rw[t1,t2],hz,?_⟩
  unfold swW at hwt
  rw[if_neg hn,if_neg hny] at hwt
  omega
 rw[hd1,m1,m2]
 generalize prL (shN (sX x y))=n1 at *
 generalize prL (shN (sX y x))=n2 at *
 have pxr:=Ea rx
 have pyr:=Ea ry
 have bnx:x.nu.length<=65536/\x.it.length<=65536:=by
  by_cases hk:x.k=3
  ·rw[if_pos hk] at fx3 fx4;omega
  ·rw[if_neg hk] at fx3 fx4;omega
 have bny:y.nu.length<=65536/\y.it.length<=65536:=by
  by_cases hk:y.k=3
  ·rw[if_pos hk] at fy3 fy4;omega
  ·rw[if_neg hk] at fy3 fy4;omega
 have zx:x.sh=[]->(x.k≠3->x.nu≠[])/\(x.k=3->x.it≠[]):=fun h0=>⟨fun hk e=>by rw[if_neg hk,h0,e] at fx3;simp[shN,prL] at fx3,fun hk e=>by rw[if_pos hk,h0,e] at fx3;simp[shN,prL] at fx3⟩
 have zy:y.sh=[]->(y.k≠3->y.nu≠[])/\(y.k=3->y.it≠[]):=fun h0=>⟨fun hk e=>by rw[if_neg hk,h0,e] at fy3;simp[shN,prL] at fy3,fun hk e=>by rw[if_pos hk,h0,e] at fy3;simp[shN,prL] at fy3⟩
 have PX:adP [D.int .i64 x.k,isl x.sh .any,isl x.nu .any,gsl 4 Arr.row x.it,isl (sX x y) .any] (x,sX x y,0,n1):=⟨Bg _,EI h.hx,zx,fun h0=>by show 0*n1+n1<=_;rw[Nat.zero_mul,Nat.zero_add,fx3,qx h0];exact Nat.le_refl _,by show x.nu.length<=_;omega,by show x.it.length<=_;omega,by show n1<=_;omega⟩
 have PY:adP [D.int .i64 y.k,isl y.sh .any,isl y.nu .any,gsl 4 Arr.row y.it,isl (sX y x) .any] (y,sX y x,0,n2):=⟨Bg _,EI h.hy,zy,fun h0=>by show 0*n2+n2<=_;rw[Nat.zero_mul,Nat.zero_add,fy3,qy h0];exact Nat.le_refl _,by show y.nu.length<=_;omega,by show y.it.length<=_;omega,by show n2<=_;omega⟩
 have hall:∀(a:Arr) (o i:Nat),((riD a o i).all fun d=>match d with | .unk=>false | .agg _=>false | .tup _=>false | _=>true)=true:=fun a o i=>by unfold riD;split<;>rfl
 refine⟨x,sX x y,0,n1,⟨PX,⟨rfl,rfl,rfl⟩,by omega⟩,fun hk3=>?_,fun hk3 hn=>?_,fun hk3 hn c hc=>?_⟩
 ·have hk2:¬y.k=3:=by rw[<- hk];exact hk3
  rw[if_neg hk3] at fx3
  rw[if_neg hk2] at fy3
  have ux:x.sh≠[]->n1<=x.nu.length:=fun h0=>by rw[fx3,qx h0];exact Nat.le_refl _
  have uy:y.sh≠[]->n2<=y.nu.length:=fun h0=>by rw[fy3,qy h0];exact Nat.le_refl _
  exact⟨y,sX y x,0,n2,⟨PY,⟨rfl,rfl,rfl⟩,by omega⟩,fun _=>⟨.mk x.k (sZ x y) (nuL x n1++nuL y n2) [],0,PO,⟨rfl,⟨hsl.symm,fun i _=>hsh i⟩,⟨by show _=(nuL x n1++nuL y n2).length;rw[List.length_append,UI ux,UI uy];omega,fun i hi=>BdE ux hi⟩,rfl,nn⟩,rfl⟩,fun e=>absurd e hk2,fun e=>absurd e hk2⟩
 ·have hk2:y.k=3:=by rw[<- hk];exact hk3
  rw[if_pos hk3] at fx3
  rw[if_pos hk2] at fy3
  have uy:y.sh≠[]->n2<=y.it.length:=fun h0=>by rw[fy3,qy h0];exact Nat.le_refl _
  exact⟨y,sX y x,0,n2,⟨PY,⟨rfl,rfl,rfl⟩,by omega⟩,fun e=>absurd hk2 e,fun _ hn2=>⟨.mk x.k (sZ x y) [] [],0,PO,⟨rfl,⟨hsl.symm,fun i _=>hsh i⟩,⟨rfl,nn⟩,rfl,nn⟩,rfl⟩,fun _ _ c hc=>⟨Nat.le_refl _,fun i _=>hall y _ i,.mk x.k (sZ x y) [] (itL y n2),0,PO,⟨rfl,⟨hsl.symm,fun i _=>hsh i⟩,⟨rfl,nn⟩,(MJ uy).symm,fun i hi=>by rw[Nat.zero_mul];exact T5 hi⟩,rfl⟩⟩
 ·have hk2:y.k=3:=by rw[<- hk];exact hk3
  rw[if_pos hk3] at fx3
  rw[if_pos hk2] at fy3
  have ux:x.sh≠[]->n1<=x.it.length:=fun h0=>by rw[fx3,qx h0];exact Nat.le_refl _
  have uy:y.sh≠[]->n2<=y.it.length:=fun h0=>by rw[fy3,qy h0];exact Nat.le_refl _
  refine⟨y,sX y x,0,n2,⟨PY,⟨rfl,rfl,rfl⟩,by omega,hc,hk2⟩,fun c2 hc2=>⟨Nat.le_refl _,fun i _=>?_,.mk x.k (sZ x y) [] (itL x n1++itL y n2),0,PO,⟨rfl,⟨hsl.symm,fun i _=>hsh i⟩,⟨rfl,nn⟩,by show _=(itL x n1++itL y n2).length;rw[List.length_append,MJ ux,MJ uy],fun i hi=>Bdp ux hi⟩,rfl⟩⟩
  unfold Bp
  split
  ·exact hall x _ i
  ·exact hall y _ _
def UU(d ax i:Nat):Nat:=if ax=0 then d-1-i else i
def CI(d R m:Nat):Nat:=(d-1-m / R)*R+m % R
section
variable {k d:Int} {r nu:List Int} {it:List Arr} (h:(Bj (.mk k (d::r) nu it)).1=0)
include h
theorem BeK:BH (.mk k (d::r) nu it) (d::r) (UU d.toNat) (CI d.toNat (prL (shN r))):=by
 obtain ⟨f1,f2,f3,f4⟩:=Bs.1 (By h)
 have f2:Bi (d::r)=true:=f2
 have f3:(if k=3 then it.length else nu.length)=prL (shN (d::r)):=f3
 have e2:shN (d::r)=d.toNat::shN r:=by simp[shN]
 have e3:prL (d.toNat::shN r)=d.toNat*prL (shN r):=rfl
 have hR:∀ {m},m<d.toNat*prL (shN r)->0<prL (shN r):=fun {m} hm=>Nat.pos_of_ne_zero fun e=>by rw[e,Nat.mul_zero] at hm;exact absurd hm (Nat.not_lt_zero _)
 have hD:∀ {m},m<d.toNat*prL (shN r)->0<d.toNat:=fun {m} hm=>Nat.pos_of_ne_zero fun e=>by rw[e,Nat.zero_mul] at hm;exact absurd hm (Nat.not_lt_zero _)
 refine⟨f1,f2,f2,rfl,fun m hm=>?_,fun m hm j hj=>?_,fun m hm=>?_,fun hm=>hm,(Cn h).2.2.2⟩
 ·rw[e2,e3] at hm
  show CI d.toNat (prL (shN r)) m<(if k=3 then it.length else nu.length)
  rw[f3,e2,e3]
  unfold CI
  have h1:=hD hm
  have h2:=Nat.mod_lt m (hR hm)
  calc _<(d.toNat-1-m / prL (shN r))*prL (shN r)+prL (shN r):=Nat.add_lt_add_left h2 _
   _=(d.toNat-1-m / prL (shN r)+1)*prL (shN r):=by rw[Nat.add_mul,Nat.one_mul]
   _<=d.toNat*prL (shN r):=Nat.mul_le_mul_right _ (by generalize m / prL (shN r)=q;omega)
 ·rw[e2] at hm ⊢
  show UU d.toNat j ((BK (d.toNat::shN r) m).getD j 0)<(shN (d::r)).getD j 0
  rw[e2]
  have hj2:j<(d.toNat::shN r).length:=by simpa[shN] using hj
  have:=G6 m (by omega) hj2
  unfold UU
  rcases j with _ | j
  ·rw[if_pos rfl]
   have h1:=hD (m:=m) (by rw[<- e3];exact hm)
   show _<d.toNat
   omega
  ·rw[if_neg (by omega)]
   exact this
 ·rw[e2,e3] at hm
  show hp (shN (d::r)) (fun j=>UU d.toNat j ((BK (shN (d::r)) m).getD j 0)) (r.length+1)=CI d.toNat (prL (shN r)) m
  rw[e2]
  have hl:((d.toNat-1-m / prL (shN r) % d.toNat)::BK (shN r) m).length=(d.toNat::shN r).length:=by simp[Ct]
  have:=RK hl
  rw[WK,Nat.mod_eq_of_lt (EP hm)] at this
  unfold CI
  rw[<- this]
  have hn:(d.toNat::shN r).length=r.length+1:=by simp[shN]
  rw[hn]
  refine GM _ fun i _=>?_
  unfold UU
  rcases i with _ | i
  ·rw[if_pos rfl]
   show d.toNat-1-m / prL (shN r) % d.toNat=_
   rw[Nat.mod_eq_of_lt (EP hm)];rfl
  ·rw[if_neg (by omega)];rfl
end
def reA(a:Arr):Arr:=Ef a a.sh (CI (a.sh.headD 0).toNat (prL (shN a.sh.tail)))
noncomputable def Erv:Senv:=EC E5 16 3 [5,7] (fun _=>([],[]))
def Zi(a:Arr):List Int:=Arr.sh a
def QbW(a:Arr):Nat:=LN (Zi a)
def Qi5(a:Arr)(b c:Nat):Int:=(NI (UU (Int.toNat (List.headD (Zi a) Z0)) b c))
def Qms(a:Arr)(b:Nat):List D:=Arr.row (GA (Arr.it a) b)
def Qi6(a:Nat)(b:List D)(c:Nat)(d:Arr):Prop:=(SM a/\Br b b/\SM c/\(SM (Arr.k d)/\(SM (QbW d)/\(∀(i:Nat),i<QbW d->SM [ZI (GI (Zi d) i)])/\True)/\(SM (LN (Arr.nu d))/\(∀(i:Nat),i<LN (Arr.nu d)->SM [ZI (GI (Arr.nu d) i)])/\True)/\(SM (LN (Arr.it d))/\(∀(i:Nat),i<LN (Arr.it d)->SM (Qms d i))/\True)/\True)/\True)/\True
theorem Bfv(a : Arr)(ds : List D)(ax i : Nat)(p q : Nat)(hs : Bi a.sh=true)(hax : ax<a.sh.length)(hi : i<(shN a.sh).getD ax 0) :
  CS 23 [.int .i64 ax,.int .i64 i,.ref 0 q 0] ⟨[(1,p,.cells ds),(0,q,.cells a.row1)],[]⟩ (.int .i64 (UU (a.sh.headD 0).toNat ax i:Nat)):=by
 refine CS.of (Bo (A:=sS _ _ _) (x:=()) (E:=Erv) (eOk BN rfl) Try.func23 rfl (by kernel_rfl) rfl (by simp[sS,Erv,EC,E0]) ?_)
 refine Bu (T :=
  ifB ((↑ax:Int)==Z0) (SM q/\Bc (Z0<=Z0/\Z0<(NI (QbW a))) (True/\∃(y:Unit),True/\IntKind.wrap IntKind.i64 (IntKind.wrap IntKind.i64 (GI (Zi a) N0-Z1)-(↑i:Int))=Qi5 a ax i/\Qi6 p ds q a)) (True/\∃(y:Unit),True/\(↑i:Int)=Qi5 a ax i/\Qi6 p ds q a)) (by kernel_rfl) ?_
 delta DA GA GI LN N0 NI SM Z0 Z1 ZI Zi QbW Qi5 Qms Qi6
 have da:(default:Arr)=Arr.mk 0 [] [] []:=rfl
 simp only[<- da]
 simp only[ne_eq,implies_true,Bh,Bl,Be,true_and,and_true,beq_iff_eq,beq_eq_false_iff_ne,exists_const]
 have h2:=((Bk a.sh).1 hs).2.1
 have hd:=C6 h2 0
 have hl:=TU hs ax
 have hl0:=TU hs 0
 have e:(a.sh.headD 0).toNat=(shN a.sh).getD 0 0:=by
  cases hh:a.sh with
  |nil=>rfl
  |cons d r=>simp[shN]
 rw[e,<- hd]
 unfold UU
 refine⟨fun h0=>?_,fun h0=>by rw[if_neg (by omega)]⟩
 obtain rfl:ax=0:=by omega
 have w1:IntKind.i64.wrap (((shN a.sh).getD 0 0:Nat)-1)=((shN a.sh).getD 0 0:Nat)-1:=Bb (by omega) (by omega)
 rw[if_pos rfl,w1,Bb (by omega) (by omega)]
 exact⟨⟨by omega,by omega⟩,by omega⟩
def zA4:List D:=[.int .i64 0,.sl 1 0 (fun _=>[]) .nil,.sl 1 0 (fun _=>[]) .nil,.sl 1 0 (fun _=>[]) .nil]
def BcM(a:Arr):Con:=fun k ds S=>match k with
 |21=>some (pA ds S (.int .i64 0) (wkL ds [.agg a.row1]))
 |22=>some (pA ds S (.agg (reA a).row1) (∃p q,wkL ds [.agg a.row1,.fn (.func 23) [] [.ref 0 q 0]]/\S=⟨[(1,p,.cells zA4),(0,q,.cells a.row1)],[]⟩))
 |_=>none
theorem BbW{a:Arr}(h:(Bj a).1=0)(ho:a.ok)(hr:a.sh≠[]):ConOk Try.prog (BcM a):=by
 intro k ds S A hh
 unfold BcM at hh
 split at hh
 ·injection hh with hh;subst hh
  refine BD fun e=>CD.at_ (CD.wk ?_ e) _
  have:=GD _ ho
  rw[h] at this;exact this
 ·injection hh with hh;subst hh
  refine BD ?_
  rintro ⟨p,q,hw,rfl⟩
  have hs:Bi a.sh=true:=(Bs.1 (By h)).2.1
  have hc:=fun ax i h1 h2=>Bfv a zA4 ax i p q hs h1 h2
  cases a with
  |mk k s nu it =>
   cases s with
   |nil=>exact (hr rfl).elim
   |cons d r =>
    have:=Bec _ _ _ _ _ p q _ _ (BeK h) hr hc
    exact this.wk hw
 ·cases hh
noncomputable def Erw2(a:Arr):Senv:=EC (BcM a) 10 3 [5] (fun _=>([],[]))
def QbX(a:Arr):Nat:=LN (Arr.sh a)
def Qi7(a:Arr)(b:Nat):Int:=GI (Arr.sh a) b
def QbY(a:Arr):Nat:=LN (Arr.nu a)
def Qi8(a:Arr)(b:Nat):Int:=GI (Arr.nu a) b
def QbZ(a:Arr):Nat:=LN (Arr.it a)
def Qi9:Arr:=DA
def Qb0(a:Arr)(b:Nat):List D:=Arr.row (List.getD (Arr.it a) b Qi9)
def Qja(a:Arr):Prop:=SM (Arr.k a)/\(SM (QbX a)/\(∀(i:Nat),i<QbX a->SM (Qi7 a i)/\True)/\True)/\(SM (QbY a)/\(∀(i:Nat),i<QbY a->SM (Qi8 a i)/\True)/\True)/\(SM (QbZ a)/\(∀(i:Nat),i<QbZ a->wkL (Qb0 a i) (Qb0 a i))/\True)/\True
def Qb1:D:=D.sl N1 N0 (fun _x=>[]) Mode.nil
def Qjb(a:Nat):Nat×AObj:=(a,AObj.cells [ZI Z0,Qb1,Qb1,Qb1])
def Qjc(a:Nat)(b:Arr):List (Nat×Nat×AObj):=[(N0,a,AObj.cells [ZI (Arr.k b),D.sl N1 (QbX b) (fun i=>[ZI (Qi7 b i)]) Mode.any,D.sl N1 (QbY b) (fun i=>[ZI (Qi8 b i)]) Mode.any,D.sl N4 (QbZ b) (fun i=>Qb0 b i) Mode.any])]
def JB(a:Arr):Arr:=reA a
def Qjd(a:Arr):Nat:=LN (Arr.sh (JB a))
def Qmt(a:Arr)(b:Nat):List D:=[ZI (GI (Arr.sh (JB a)) b)]
def Qje(a:Arr):Nat:=LN (Arr.nu (JB a))
def Qmu(a:Arr)(b:Nat):List D:=[ZI (GI (Arr.nu (JB a)) b)]
def Qjf(a:Arr):Nat:=LN (Arr.it (JB a))
def Qmv(a:Arr)(b:Nat):List D:=Arr.row (List.getD (Arr.it (JB a)) b Qi9)
theorem Bbu(a:Arr)(h:(Bj a).1=0)(ho:a.ok)(hr:a.sh≠[]):CD 8 [.agg a.row1] (.agg (reA a).row1):=by
 refine Bo (A:=sC _ _) (x:=()) (E:=Erw2 a) (eOk (BbW h ho hr) rfl) Try.func8 rfl (by kernel_rfl) rfl (by simp[sC,Erw2,EC,E0]) ?_
 refine Bu (T :=
  ∀(x:Nat),True->∀(x_1:Nat),x≠x_1/\True->SM x/\∃(x_2:Unit),(Qja a/\True)/\∀(y:Unit),True->SM x/\∃(x_3:Unit),(∃(p:Nat),∃(q:Nat),(Qja a/\D.fn (Fn.func (23:Nat)) [] [D.ref N0 x N0]=D.fn (Fn.func (23:Nat)) [] [D.ref N0 q N0]/\True)/\St.mk ((max (N0+N1) N0,Qjb x_1)::Qjc x a) []=St.mk ((N1,Qjb p)::Qjc q a) [])/\∀(y:Unit),True->SM x_1/\(SM x_1/\True)/\∃(y:Unit),True/\(SM (Arr.k (JB a))/\(SM (Qjd a)/\(∀(i:Nat),i<Qjd a->SM (Qmt a i))/\True)/\(SM (Qje a)/\(∀(i:Nat),i<Qje a->SM (Qmu a i))/\True)/\(SM (Qjf a)/\(∀(i:Nat),i<Qjf a->SM (Qmv a i))/\True)/\True)/\True/\True) (by kernel_rfl) ?_
 delta DA GI LN N0 N1 N4 SM Z0 ZI Qi9 Qb0 Qja Qb1 Qjb Qjc JB Qjd Qmt Qje Qmu Qjf Qmv QbX Qi7 QbY Qi8 QbZ
 have da:(default:Arr)=Arr.mk 0 [] [] []:=rfl
 simp only[<- da]
 simp only[ne_eq,implies_true,true_and,and_true,exists_const,forall_const]
 exact fun x y _=>⟨fun _ _=>Bg _,y,x,⟨fun _ _=>Bg _,rfl⟩,rfl⟩
theorem BbP(a:Arr)(h:a.ok):CD 11 [.agg a.row1,.agg a.row1] (.bool true):=by
 have h1:CD 11 [.agg a.row2,.agg a.row2] (.bool (B3 a a)):=BcL a a h h
 rw[Ca.2 rfl] at h1
 refine h1.wk ?_
 simp only[wkL,wkD]
 exact⟨Cy a,Cy a,trivial⟩
def v231:Arr:=vcA [2,3,1]
def knP(l:List Int)(ds:List D):Prop:=wkL ds [isl l .any]
def rtP(a:Arr)(n:Nat)(ds:List D):Prop:=wkL ds [.agg (nmA n).row1,.agg a.row1]
def fsP(a b:Arr)(ds:List D):Prop:=wkL ds [.agg a.row1,.agg b.row1]
def Bdh:Con:=fun k ds S=>match k with
 |14=>some (pA ds S (.agg (nmA 1).row1) (ds=[.int .i64 1]))
 |19=>match ds with
  | [.sl 1 n f _m]=>match n with
   |1=>some (pA ds S (.agg (vcA [1]).row1) (knP [1] ds))
   |2=>some (pA ds S (.agg (vcA [2,3]).row1) (knP [2,3] ds))
   |_=>match f 0 with
    | [.int _ z]=>match Int.decEq z 1 with
     |.isTrue _=>some (pA ds S (.agg (vcA [1,2,3]).row1) (knP [1,2,3] ds))
     |.isFalse _=>some (pA ds S (.agg v231.row1) (knP [2,3,1] ds))
    |_=>none
  |_=>none
 |16=>some (pA ds S (.tup [.agg v231.row1,.int .i64 0]) (rtP (vcA [1,2,3]) 1 ds))
 |7=>some (pA ds S (.tup [.agg v231.row1,.int .i64 0]) (fsP (vcA [2,3]) (vcA [1]) ds))
 |11=>some (pA ds S (.bool true) (fsP v231 v231 ds))
 |_=>none
theorem MZ{z:Int}(h:-100<=z/\z<=100):EV z:=by
 unfold EV;omega
theorem BaD{l:List Int}(h1:∀z∈l,-100<=z/\z<=100)(h2:l.length<=100):(vcA l).ok:=by
 refine⟨MZ (by decide),?_,fun z hz=>MZ (h1 z hz),by simp[maxLen],by simp only[maxLen];omega,by simp[maxLen],trivial⟩
 intro z hz
 rw[List.mem_singleton.1 hz]
 exact MZ (by omega)
theorem ok3:(vcA [1,2,3]).ok:=BaD (by decide) (by decide)
theorem chk3:(Bj (vcA [1,2,3])).1=0:=by decide
theorem roV:roA 1 (vcA [1,2,3])=v231:=rfl
theorem joV:joA (vcA [2,3]) (vcA [1])=v231:=rfl
theorem hV:JoH (vcA [2,3]) (vcA [1]) [3]:=⟨by decide,by decide,BaD (by decide) (by decide),BaD (by decide) (by decide),rfl,by decide,by decide,rfl,rfl,by decide,by decide⟩
theorem BbI:ConOk Try.prog Bdh:=by
 intro k ds S A hh
 unfold Bdh at hh
 split at hh
 ·injection hh with hh;subst hh
  refine BD fun e=>CD.at_ ?_ _
  rw[e]
  exact BfH 1
 ·split at hh
  ·split at hh
   ·injection hh with hh;subst hh
    exact BD fun e=>CD.at_ (CD.wk (Uf [1]) e) _
   ·injection hh with hh;subst hh
    exact BD fun e=>CD.at_ (CD.wk (Uf [2,3]) e) _
   ·split at hh
    ·split at hh
     ·injection hh with hh;subst hh
      exact BD fun e=>CD.at_ (CD.wk (Uf [1,2,3]) e) _
     ·injection hh with hh;subst hh
      exact BD fun e=>CD.at_ (CD.wk (Uf [2,3,1]) e) _
    ·cases hh
  ·cases hh
 ·injection hh with hh;subst hh
  refine BD fun e=>CD.at_ (CD.wk ?_ e) _
  have:=BfJ (vcA [1,2,3]) 1 (by decide) chk3 ok3 (by decide) (by decide)
  rw[roV] at this
  exact this
 ·injection hh with hh;subst hh
  refine BD fun e=>CD.at_ (CD.wk ?_ e) _
  have:=Bco (vcA [2,3]) (vcA [1]) [3] hV
  rw[joV] at this
  exact this
 ·injection hh with hh;subst hh
  exact BD fun e=>CD.at_ (CD.wk (BbP v231 (BaD (by decide) (by decide))) e) _
 ·cases hh
noncomputable def Ekn:Senv:=EC Bdh 35 5 [] (fun id=>match id with | 3=>([0,1,2,3,4,5,6,7,8,9,10,11,12,13,14,15],[7,11,12,13]) | _=>([],[]))
def Zj:List D:=[ZI Z1]
def Qjg:List (List D):=[[ZI 2],[ZI 3]]
def Xj:Arr:=vcA [Z1,(2:Int),(3:Int)]
def Zk:Arr:=nmA N1
def Qmw:List Int:=Arr.sh Zk
def Qmx:List Int:=Arr.nu Zk
def Xk:List D:=Arr.row DA
def Qmy:List Int:=Arr.sh Xj
def Qmz:List Int:=Arr.nu Xj
def Xl:Arr:=vcA [(2:Int),(3:Int)]
def Xm:Arr:=vcA [Z1]
def QmA:List Int:=Arr.sh Xl
def QmB:List Int:=Arr.nu Xl
def QmC:List Int:=Arr.sh Xm
def QmD:List Int:=Arr.nu Xm
def Qb2:D:=D.agg [ZI (Arr.k v231),SI (Arr.sh v231),SI (Arr.nu v231),D.sl N4 (LN (Arr.it v231)) (fun _i=>Xk) Mode.any]
def Qjh:Prop:=fsP v231 v231 [Qb2,Qb2]
def Qji(a:Nat):Prop:=SM a/\SM Qb2
theorem Bep:CD 6 [] (.bool true):=by
 refine Bo (A:=sC _ _) (x:=()) (E:=Ekn) (eOk BbI rfl) Try.func6 rfl (by kernel_rfl) rfl (by simp[sC,Ekn,EC,E0]) ?_
 refine Bu (T :=
  ∃(x:Unit),SM Zj/\∀(y:Unit),True->∃(x:Unit),knP [Z1,(2:Int),(3:Int)] [D.sl N1 (3:Nat) (fun i=>List.getD (Zj::Qjg) i []) Mode.full]/\∀(y:Unit),True->∃(x:Unit),rtP Xj N1 [D.agg [ZI (Arr.k Zk),SI Qmw,SI Qmx,D.sl N4 (LN (Arr.it Zk)) (fun i=>Xk) Mode.any],D.agg [ZI (Arr.k Xj),SI Qmy,SI Qmz,D.sl N4 (LN (Arr.it Xj)) (fun i=>Xk) Mode.any]]/\∀(y:Unit),True->∀(x:Nat),True->SM x/\∃(x_1:Unit),knP [(2:Int),(3:Int)] [D.sl N1 N2 (fun i=>List.getD Qjg i []) Mode.full]/\∀(y:Unit),True->∃(x_2:Unit),knP [Z1] [D.sl N1 N1 (fun i=>List.getD [Zj] i []) Mode.full]/\∀(y:Unit),True->∃(x_3:Unit),fsP Xl Xm [D.agg [ZI (Arr.k Xl),SI QmA,SI QmB,D.sl N4 (LN (Arr.it Xl)) (fun i=>Xk) Mode.any],D.agg [ZI (Arr.k Xm),SI QmC,SI QmD,D.sl N4 (LN (Arr.it Xm)) (fun i=>Xk) Mode.any]]/\∀(y:Unit),True->∀(x_4:Nat),x≠x_4/\True->SM x_4/\SM x/\SM x_4/\∃(x_5:Unit),Qjh/\∀(y:Unit),True->SM x/\Qji x/\∃(x_6:Unit),knP [(2:Int),(3:Int),Z1] [D.sl N1 (3:Nat) (fun i=>List.getD [[ZI 2],[ZI 3],Zj] i []) Mode.full]/\∀(y:Unit),True->Qji x/\∃(x:Unit),Qjh/\∀(y:Unit),True->RT (SM true)) (by kernel_rfl) ?_
 delta DA GI LN N1 N2 N4 SI SM Z0 Z1 ZI Zj Qjg Xm QmA QmB QmC QmD Qb2 Qjh Qji Xj Zk Qmw Qmx Xk Qmy Qmz Xl RT
 have da:(default:Arr)=Arr.mk 0 [] [] []:=rfl
 simp only[<- da]
 simp only[ne_eq,implies_true,true_and,and_true,exists_const,forall_const]
 have k3:∀ {a b c:Int},knP [a,b,c] [D.sl 1 3 (fun i=>[[D.int .i64 a],[D.int .i64 b],[D.int .i64 c]].getD i []) .full]:=fun {a b c}=>by
  simp only[knP,isl,wkL,wkD,Ba]
  refine⟨⟨by simp,by simp,fun i hi=>?_,by simp[Bw]⟩,trivial⟩
  rcases i with _ | _ | _ | i
  ·exact Bg _
  ·exact Bg _
  ·exact Bg _
  ·omega
 have k2:knP [2,3] [D.sl 1 2 (fun i=>[[D.int .i64 2],[D.int .i64 3]].getD i []) .full]:=by
  simp only[knP,isl,wkL,wkD,Ba]
  refine⟨⟨by simp,by simp,fun i hi=>?_,by simp[Bw]⟩,trivial⟩
  rcases i with _ | _ | i
  ·exact Bg _
  ·exact Bg _
  ·omega
 have k1:knP [1] [D.sl 1 1 (fun i=>[[D.int .i64 1]].getD i []) .full]:=by
  simp only[knP,isl,wkL,wkD,Ba]
  refine⟨⟨by simp,by simp,fun i hi=>?_,by simp[Bw]⟩,trivial⟩
  obtain rfl:i=0:=by omega
  exact Bg _
 exact⟨k3,Bg _,fun x=>⟨k2,k1,Bg _,fun y _=>⟨Bg _,k3,Bg _⟩⟩⟩
def wtS:List Arr->Int
 | []=>0
 |x::r=>wtA x+wtS r
theorem Uy:∀(a b:List Arr),wtS (a++b)=wtS a+wtS b
 | [],b=>by simp[wtS]
 |x::a,b=>by rw[List.cons_append,wtS,wtS,Uy a b];omega
theorem RO:∀(a:List Arr),0<=wtS a
 | []=>by simp[wtS]
 |x::a=>by
  have:=(B0 x).1
  have:=RO a
  rw[wtS];omega
theorem Bdb:∀(l:List Arr) (n:Int),wtL 3 l n<=262144->wtL 3 l n=n+wtS l
 | [],n,_=>by simp[wtL,wtS]
 |x::r,n,h=>by
  rw[wtL] at h ⊢
  rw[wtS]
  split
  ·rename_i h1
   rw[if_pos h1] at h
   rw[Bdb r _ h];omega
  ·rename_i h1
   rw[if_neg h1] at h
   exact absurd ⟨rfl,h⟩ h1
structure TH (y:Arr) (n:Nat):Prop where
 hc:(Bj y).1=0
 hr:y.sh≠[]
 hd:(n:Int)<=y.sh.headD 0
 hw:wtA y<=200
theorem Oe:∀(l:List Arr) (d w:Int) (r:Int×Int),Cd l d w=some r->d<=r.1/\∀b∈l,(Bj b).1=0/\(Bj b).2.1+1<=r.1
 | [],d,w,r,h=>by
  rw[Cd] at h;injection h with h;subst h
  exact⟨Int.le_refl _,fun b hb=>by cases hb⟩
 |x::l,d,w,r,h=>by
  rw[Cd] at h
  split at h
  ·cases h
  ·rename_i hx
   obtain ⟨h1,h2⟩:=Oe l _ _ r h
   refine⟨by split at h1<;>omega,fun b hb=>?_⟩
   rcases List.mem_cons.1 hb with rfl | hb
   ·exact⟨Decidable.not_not.1 hx,by split at h1<;>omega⟩
   ·exact h2 b hb
theorem Wp:∀(l:List Arr) (d w:Int),(∀b∈l,(Bj b).1=0/\(Bj b).2.1+1<=16)->d<=16->w+wtS l<=262144->∃r,Cd l d w=some r/\r.1<=16/\r.2<=262144
 | [],d,w,_,hd,hw=>⟨(d,w),by rw[Cd],hd,by simpa[wtS] using hw⟩
 |x::l,d,w,h,hd,hw=>by
  obtain ⟨h1,h2⟩:=h x (by simp)
  rw[wtS,T4 x h1] at hw
  have:=RO l
  rw[Cd,if_neg (by omega)]
  refine Wp l _ _ (fun b hb=>h b (by simp[hb])) ?_ ?_
  ·split<;>omega
  ·split<;>omega
theorem Wx{k:Int}{s nu:List Int}{it:List Arr}(hf:BC k s nu.length it.length=0)(hb:nu.any (CY k)=false)(hi:∀b∈it,(Bj b).1=0/\(Bj b).2.1+1<=16)(hw:(nu.length:Int)+it.length+wtS it<=262144):(Bj (.mk k s nu it)).1=0:=by
 obtain ⟨r,e1,e2,e3⟩:=Wp it 0 ((nu.length:Int)+it.length) hi (by omega) hw
 rw[Bj,if_neg (by rw[hf];decide),if_neg (by rw[hb];decide),e1]
 simp only
 rw[if_neg (by omega)]
theorem Cb{k:Int}{s nu:List Int}{it:List Arr}(h:(Bj (.mk k s nu it)).1=0):BC k s nu.length it.length=0/\nu.any (CY k)=false/\(∀b∈it,(Bj b).1=0/\(Bj b).2.1+1<=16)/\wtA (.mk k s nu it)=(nu.length:Int)+it.length+wtS it/\wtA (.mk k s nu it)<=262144:=by
 have hf:=By h
 have hw:=T4 _ h
 have hm:=h
 rw[Bj] at h hw
 rw[if_neg (by rw[show BC k s nu.length it.length=0 from hf];decide)] at h hw
 split at h
 ·simp at h
 ·rename_i hb
  rw[if_neg hb] at hw
  cases hc:Cd it 0 ((nu.length:Int)+it.length) with
  |none=>rw[hc] at h;simp at h
  |some r =>
   rw[hc] at h hw
   simp only at h hw
   split at h
   ·simp at h
   ·rename_i hr
    rw[if_neg hr] at hw
    simp only at hw
    obtain ⟨_,d2⟩:=Oe it _ _ r hc
    refine⟨hf,by simpa using hb,fun b hb=>⟨(d2 b hb).1,by have:=(d2 b hb).2;omega⟩,?_,by omega⟩
    obtain ⟨f1,_,f3,f4⟩:=Bs.1 hf
    have hwe:=UH (.mk k s nu it)
    have hwe:wtA (.mk k s nu it)=min (wtL k it (BJ k nu.length it.length)) 262145:=hwe
    have f4:(if k=3 then nu.length else it.length)=0:=f4
    have f1:k=1\/k=2\/k=3:=f1
    by_cases h3:k=3
    ·subst h3
     rw[if_pos rfl] at f4
     have z:BJ 3 nu.length it.length=it.length:=by simp[BJ]
     rw[z] at hwe
     have:=Bdb it it.length (by omega)
     rw[hwe] at hw ⊢
     omega
    ·rw[if_neg h3] at f4
     have z:BJ k nu.length it.length=nu.length:=by unfold BJ;rw[if_pos (by omega)]
     rw[z,WH h3] at hwe
     have hit:it=[]:=List.eq_nil_of_length_eq_zero f4
     rw[hit] at hwe ⊢
     simp only[wtS,List.length_nil]
     rw[hit] at hw
     omega
theorem Bbp{a b:List Arr}(h:a.Perm b):wtS a=wtS b:=by
 induction h with
 |nil=>rfl
 |cons x _ ih=>rw[wtS,wtS,ih]
 |swap x y l=>simp only[wtS];omega
 |trans _ _ i1 i2=>exact i1.trans i2
theorem UO{α:Type}[BEq α][LawfulBEq α]:∀(a b:List α),a.Nodup->(∀x∈a,x∈b)->b.length<=a.length->a.Perm b
 | [],b,_,_,hl=>by
  have:b=[]:=List.eq_nil_of_length_eq_zero (by simpa using hl)
  rw[this]
 |x::a,b,hn,hs,hl=>by
  have hx:x∈b:=hs x (by simp)
  have hp:=List.perm_cons_erase hx
  obtain ⟨n1,n2⟩:=List.nodup_cons.1 hn
  refine (List.Perm.cons x (UO a (b.erase x) n2 (fun y hy=>?_) ?_)).trans hp.symm
  ·exact (List.mem_erase_of_ne (fun e=>n1 (by rw[<- e];exact hy))).2 (hs y (by simp[hy]))
  ·have:=hp.length_eq
   rw[List.length_cons] at this hl
   omega
theorem WT{α:Type}{T:Nat->Nat}{n:Nat}(hT:∀m,m<n->T m<n)(hi:∀a b,a<n->b<n->T a=T b->a=b)(l:List α)(z:α)(hl:l.length=n):((List.range n).map fun m=>l.getD (T m) z).Perm l:=by
 have h1:((List.range n).map T).Perm (List.range n):=by
  refine UO _ _ ?_ (fun x hx=>?_) (by simp)
  ·refine List.pairwise_map.2 ((List.nodup_range (n:=n)).imp_of_mem fun {a b} ha hb hab e=>?_)
   exact hab (hi a b (List.mem_range.1 ha) (List.mem_range.1 hb) e)
  ·obtain ⟨m,hm,rfl⟩:=List.mem_map.1 hx
   exact List.mem_range.2 (hT m (List.mem_range.1 hm))
 have h2:=h1.map (fun i=>l.getD i z)
 rw[List.map_map] at h2
 have h3:(List.range n).map (fun i=>l.getD i z)=l:=by
  apply List.ext_getElem
  ·simp[hl]
  ·intro i _ h
   simp[List.getD_eq_getElem?_getD,h]
 rw[h3] at h2
 exact h2
theorem Oh{k:Int}{s nu:List Int}{it:List Arr}:(Arr.mk k s nu it).ok↔EV k/\(∀z∈s,EV z)/\(∀z∈nu,EV z)/\s.length<=maxLen/\nu.length<=maxLen/\it.length<=maxLen/\okL it:=by
 simp only[Arr.ok]
theorem Rc{k : Int}{s s' nu nu' : List Int}{it it' : List Arr}(h : (Bj (.mk k s nu it)).1=0)(ho : (Arr.mk k s nu it).ok)(hs : Bi s'=true)(hn : prL (shN s')=prL (shN s))(h1 : nu'.Perm nu)(h2 : it'.Perm it) :
  (Bj (.mk k s' nu' it')).1=0/\(Arr.mk k s' nu' it').ok/\wtA (.mk k s' nu' it')=wtA (.mk k s nu it):=by
 obtain ⟨f1,f2,f3,f4,f5⟩:=Cb h
 obtain ⟨g1,g2,g3,g4⟩:=Bs.1 f1
 have l1:=h1.length_eq
 have l2:=h2.length_eq
 have w:=Bbp h2
 have hc:(Bj (.mk k s' nu' it')).1=0:=by
  refine Wx (Bs.2 ⟨g1,hs,by rw[l1,l2,hn];exact g3,by rw[l1,l2];exact g4⟩) ?_ (fun b hb=>f3 b (h2.subset hb)) (by omega)
  rw[<- f2]
  exact Bool.eq_iff_iff.2 (by rw[List.any_eq_true,List.any_eq_true];exact⟨fun ⟨x,hx,e⟩=>⟨x,h1.subset hx,e⟩,fun ⟨x,hx,e⟩=>⟨x,h1.symm.subset hx,e⟩⟩)
 obtain ⟨q1,q2⟩:=Mv hs
 obtain ⟨o1,o2,o3,o4,o5,o6,o7⟩:=Oh.1 ho
 refine⟨hc,Oh.2 ⟨o1,q1,fun z hz=>o3 z (h1.subset hz),q2,by omega,by omega,(Cm _).2 fun b hb=>(Cm _).1 o7 b (h2.subset hb)⟩,?_⟩
 rw[(Cb hc).2.2.2.1,f4,l1,l2,w]
theorem TJ{a : Arr}{s' : List Int}{T : Nat -> Nat}(h : (Bj a).1=0)(ho : a.ok)(hs : Bi s'=true)(hn : prL (shN s')=prL (shN a.sh))(hT : ∀m, m<prL (shN s') -> T m<prL (shN s'))(hi : ∀p q, p<prL (shN s') -> q<prL (shN s') -> T p=T q -> p=q) :
  (Bj (Ef a s' T)).1=0/\(Ef a s' T).ok/\wtA (Ef a s' T)=wtA a:=by
 cases a with
 |mk k s nu it =>
  have hn:prL (shN s')=prL (shN s):=hn
  obtain ⟨g1,g2,g3,g4⟩:=Bs.1 (Cb h).1
  refine Rc (s:=s) h ho hs hn ?_ ?_
  ·show (if k=3 then [] else _:List Int).Perm nu
   by_cases hk:k=3
   ·rw[if_pos hk] at g4 ⊢
    rw[List.eq_nil_of_length_eq_zero g4]
   ·rw[if_neg hk] at g3 ⊢
    exact WT hT hi nu 0 (by rw[g3,hn])
  ·show (if k=3 then _ else []:List Arr).Perm it
   by_cases hk:k=3
   ·rw[if_pos hk] at g3 ⊢
    exact WT hT hi it default (by rw[g3,hn])
   ·rw[if_neg hk] at g4 ⊢
    rw[List.eq_nil_of_length_eq_zero g4]
theorem Bcm{x y:Arr}{s:List Int}(h:JoH x y s):(Bj (joA x y)).1=0/\(joA x y).ok/\wtA (joA x y)=wtA x+wtA y:=by
 obtain ⟨hx,hy,ox,oy,hk,nx,ny,ht,hs,hr,hw⟩:=h
 cases x with
 |mk k s1 nu1 it1 =>
  cases y with
  |mk k2 s2 nu2 it2 =>
   have hk:k=k2:=hk
   subst hk
   cases s1 with
   |nil=>exact (nx rfl).elim
   |cons d1 r =>
    cases s2 with
    |nil=>exact (ny rfl).elim
    |cons d2 r2 =>
     have ht:r=r2:=ht
     subst ht
     have hs:s=(d1+d2)::r:=hs
     subst hs
     obtain ⟨a1,a2,a3,a4,a5⟩:=Cb hx
     obtain ⟨b1,b2,b3,b4,b5⟩:=Cb hy
     obtain ⟨g1,g2,g3,g4⟩:=Bs.1 a1
     obtain ⟨j1,j2,j3,j4⟩:=Bs.1 b1
     have p1:=((Bk _).1 g2).2.1 d1 (by simp)
     have p2:=((Bk _).1 j2).2.1 d2 (by simp)
     have e1:prL (shN (d1::r))=d1.toNat*prL (shN r):=by simp[shN,prL]
     have e2:prL (shN (d2::r))=d2.toNat*prL (shN r):=by simp[shN,prL]
     have e3:prL (shN ((d1+d2)::r))=d1.toNat*prL (shN r)+d2.toNat*prL (shN r):=by
      simp only[shN,List.map_cons,prL]
      rw[<- Nat.add_mul,show (d1+d2).toNat=d1.toNat+d2.toNat by omega]
     have hc:(Bj (.mk k ((d1+d2)::r) (nu1++nu2) (it1++it2))).1=0:=by
      refine Wx (Bs.2 ⟨g1,hr,?_,?_⟩) ?_ (fun b hb=>?_) ?_
      ·rw[e3,List.length_append,List.length_append]
       by_cases hk:k=3
       ·rw[if_pos hk] at g3 j3 ⊢; omega
       ·rw[if_neg hk] at g3 j3 ⊢; omega
      ·rw[List.length_append,List.length_append]
       by_cases hk:k=3
       ·rw[if_pos hk] at g4 j4 ⊢; omega
       ·rw[if_neg hk] at g4 j4 ⊢; omega
      ·rw[List.any_append,a2,b2];rfl
      ·rcases List.mem_append.1 hb with hb | hb
       ·exact a3 b hb
       ·exact b3 b hb
      ·rw[List.length_append,List.length_append,Uy]
       push_cast
       omega
     obtain ⟨q1,q2⟩:=Mv hr
     obtain ⟨o1,o2,o3,o4,o5,o6,o7⟩:=Oh.1 ox
     obtain ⟨u1,u2,u3,u4,u5,u6,u7⟩:=Oh.1 oy
     have z1:=Cn hx
     have z2:=Cn hy
     refine⟨hc,Oh.2 ⟨o1,q1,fun z hz=>?_,q2,?_,?_,(Cm _).2 fun b hb=>?_⟩,?_⟩
     ·rcases List.mem_append.1 hz with hz | hz
      ·exact o3 z hz
      ·exact u3 z hz
     ·show (nu1++nu2).length<=maxLen
      rw[List.length_append];simp only[maxLen];omega
     ·show (it1++it2).length<=maxLen
      rw[List.length_append];simp only[maxLen];omega
     ·rcases List.mem_append.1 hb with hb | hb
      ·exact (Cm _).1 o7 b hb
      ·exact (Cm _).1 u7 b hb
     ·show wtA (.mk k ((d1+d2)::r) (nu1++nu2) (it1++it2))=_
      rw[(Cb hc).2.2.2.1,a4,b4,List.length_append,List.length_append,Uy]
      push_cast
      omega
theorem R6{d R m:Nat}(h:m<d*R):CI d R m<d*R:=by
 have hR:0<R:=Nat.pos_of_ne_zero fun e=>by rw[e,Nat.mul_zero] at h;exact absurd h (Nat.not_lt_zero _)
 have hq:=EP h
 have hm:=Nat.mod_lt m hR
 unfold CI
 generalize m / R=q at *
 calc (d-1-q)*R+m % R<(d-1-q)*R+R:=by omega
  _=(d-1-q+1)*R:=by rw[Nat.add_mul,Nat.one_mul]
  _<=d*R:=Nat.mul_le_mul_right _ (by omega)
theorem WA{d R m:Nat}(h:m<d*R):CI d R (CI d R m)=m:=by
 have hR:0<R:=Nat.pos_of_ne_zero fun e=>by rw[e,Nat.mul_zero] at h;exact absurd h (Nat.not_lt_zero _)
 have hq:=EP h
 have hm:=Nat.mod_lt m hR
 have hd:=Nat.div_add_mod m R
 unfold CI
 rw[Nat.mul_comm (d-1-m / R) R,Nat.mul_add_div hR,Nat.mul_add_mod,Nat.mod_mod,Nat.div_eq_of_lt hm,Nat.add_zero]
 rw[show d-1-(d-1-m / R)=m / R by generalize m / R=q at *; omega,Nat.mul_comm]
 exact hd
theorem BbQ{d R p q:Nat}(hp:p<d*R)(hq:q<d*R)(e:CI d R p=CI d R q):p=q:=by
 rw[<- WA hp,e,WA hq]
theorem Ov{a:Arr}(h:(Bj a).1=0)(ho:a.ok)(hr:a.sh≠[]):(Bj (reA a)).1=0/\(reA a).ok/\wtA (reA a)=wtA a:=by
 have hs:=(Bs.1 (By h)).2.1
 have e:prL (shN a.sh)=(a.sh.headD 0).toNat*prL (shN a.sh.tail):=by
  cases hh:a.sh with
  |nil=>exact (hr hh).elim
  |cons d r=>simp[shN,prL]
 refine TJ h ho hs rfl (fun m hm=>?_) fun p q hp hq=>?_
 ·rw[e] at hm ⊢; exact R6 hm
 ·rw[e] at hp hq;exact BbQ hp hq
theorem JoH.rev{x y:Arr}{s:List Int}(h:JoH x y s):JoH (reA y) (reA x) s:=by
 obtain ⟨hx,hy,ox,oy,hk,nx,ny,ht,hs,hr,hw⟩:=h
 obtain ⟨v1,v2,v3⟩:=Ov hx ox nx
 obtain ⟨w1,w2,w3⟩:=Ov hy oy ny
 refine⟨w1,v1,w2,v2,hk.symm,ny,nx,ht.symm,?_,hr,by rw[v3,w3];omega⟩
 rw[hs]
 show _=(y.sh.headD 0+x.sh.headD 0)::y.sh.tail
 rw[ht,Int.add_comm]
theorem Baz{α : Type}(z : α){l1 l2 : List α}{d1 d2 R : Nat}(h1 : l1.length=d1*R)(_h2 : l2.length=d2*R) :
  ((List.range ((d1+d2)*R)).map fun m=>(l1++l2).getD (CI (d1+d2) R m) z)=((List.range (d2*R)).map fun m=>l2.getD (CI d2 R m) z)++(List.range (d1*R)).map fun m=>l1.getD (CI d1 R m) z:=by
 have hlen:(d1+d2)*R=d2*R+d1*R:=by rw[Nat.add_mul,Nat.add_comm]
 apply List.ext_getElem
 ·simp[hlen]
 ·intro i hi _
  have hi:i<(d1+d2)*R:=by simpa using hi
  have hR:0<R:=Nat.pos_of_ne_zero fun e=>by rw[e,Nat.mul_zero] at hi;exact absurd hi (Nat.not_lt_zero _)
  have hm:=Nat.mod_lt i hR
  have hdm:=Nat.div_add_mod i R
  simp only[List.getElem_map,List.getElem_range]
  by_cases hlt:i<d2*R
  ·have hq:=EP hlt
   rw[List.getElem_append_left (by simpa using hlt)]
   simp only[List.getElem_map,List.getElem_range]
   have e:CI (d1+d2) R i=d1*R+CI d2 R i:=by
    unfold CI
    rw[show d1+d2-1-i / R=d1+(d2-1-i / R) by generalize i / R=q at *; omega,Nat.add_mul,Nat.add_assoc]
   rw[e,List.getD_eq_getElem?_getD,List.getD_eq_getElem?_getD,List.getElem?_append_right (by omega),h1,Nat.add_sub_cancel_left]
  ·rw[List.getElem_append_right (by simpa using hlt)]
   simp only[List.getElem_map,List.getElem_range,List.length_map,List.length_range]
   have e:CI (d1+d2) R i=CI d1 R (i-d2*R):=by
    have hq:d2<=i / R:=(Nat.le_div_iff_mul_le hR).2 (by omega)
    unfold CI
    have s1:(i-d2*R) / R=i / R-d2:=by rw[Nat.mul_comm d2 R,Nat.sub_mul_div]
    have s2:(i-d2*R) % R=i % R:=by
     have:=Nat.sub_mul_mod (x:=i) (n:=R) (k:=d2) (by rw[Nat.mul_comm];omega)
     rw[Nat.mul_comm d2 R]
     exact this
    rw[s1,s2,show d1+d2-1-i / R=d1-1-(i / R-d2) by generalize i / R=q at *; omega]
   have hlt2:CI d1 R (i-d2*R)<d1*R:=R6 (by omega)
   rw[e,List.getD_eq_getElem?_getD,List.getD_eq_getElem?_getD,List.getElem?_append_left (by omega)]
theorem Bfx{x y:Arr}{s:List Int}(h:JoH x y s):reA (joA x y)=joA (reA y) (reA x):=by
 obtain ⟨hx,hy,ox,oy,hk,nx,ny,ht,hs,hr,hw⟩:=h
 cases x with
 |mk k s1 nu1 it1 =>
  cases y with
  |mk k2 s2 nu2 it2 =>
   have hk:k=k2:=hk
   subst hk
   cases s1 with
   |nil=>exact (nx rfl).elim
   |cons d1 r =>
    cases s2 with
    |nil=>exact (ny rfl).elim
    |cons d2 r2 =>
     have ht:r=r2:=ht
     subst ht
     obtain ⟨g1,g2,g3,g4⟩:=Bs.1 (Cb hx).1
     obtain ⟨j1,j2,j3,j4⟩:=Bs.1 (Cb hy).1
     have p1:=((Bk _).1 g2).2.1 d1 (by simp)
     have p2:=((Bk _).1 j2).2.1 d2 (by simp)
     have e1:prL (shN (d1::r))=d1.toNat*prL (shN r):=by simp[shN,prL]
     have e2:prL (shN (d2::r))=d2.toNat*prL (shN r):=by simp[shN,prL]
     have e3:prL (shN ((d1+d2)::r))=(d1.toNat+d2.toNat)*prL (shN r):=by
      simp only[shN,List.map_cons,prL]
      rw[show (d1+d2).toNat=d1.toNat+d2.toNat by omega]
     have e4:(d1+d2).toNat=d1.toNat+d2.toNat:=by omega
     show Arr.mk k ((d1+d2)::r) (if k=3 then [] else (List.range (prL (shN ((d1+d2)::r)))).map fun m=>(nu1++nu2).getD (CI (d1+d2).toNat (prL (shN r)) m) 0) (if k=3 then (List.range (prL (shN ((d1+d2)::r)))).map fun m=>(it1++it2).getD (CI (d1+d2).toNat (prL (shN r)) m) default else [])
      = Arr.mk k ((d2+d1)::r) ((if k=3 then [] else (List.range (prL (shN (d2::r)))).map fun m=>nu2.getD (CI d2.toNat (prL (shN r)) m) 0)++(if k=3 then [] else (List.range (prL (shN (d1::r)))).map fun m=>nu1.getD (CI d1.toNat (prL (shN r)) m) 0)) ((if k=3 then (List.range (prL (shN (d2::r)))).map fun m=>it2.getD (CI d2.toNat (prL (shN r)) m) default else [])++(if k=3 then (List.range (prL (shN (d1::r)))).map fun m=>it1.getD (CI d1.toNat (prL (shN r)) m) default else []))
     rw[e1] at g3
     rw[e2] at j3
     rw[e1,e2,e3,e4,Int.add_comm d1 d2]
     by_cases hk:k=3
     ·rw[if_pos hk] at g3 j3
      simp only[if_pos hk]
      rw[Baz default g3 j3];rfl
     ·rw[if_neg hk] at g3 j3
      simp only[if_neg hk]
      rw[Baz 0 g3 j3];rfl
def ixM(s:List Int)(ax:List Nat)(m j:Nat):Nat:=(BK (shN s) m).getD (ax.getD j 0) 0
def hpM(a:Arr)(s:List Int)(ax:List Nat)(m j:Nat):Nat:=hp (shN a.sh) (ixM s ax m) j
structure BM (a:Arr) (s:List Int) (ax:List Nat) (T:Nat->Nat):Prop where
 hk:a.k=1\/a.k=2\/a.k=3
 hs:Bi s=true
 hy:Bi a.sh=true
 hl:s.length=a.sh.length
 ha:ax.length=s.length
 hx:∀j,j<s.length->ax.getD j 0<s.length
 hT:∀m,m<prL (shN s)->T m<(if a.k=3 then a.it.length else a.nu.length)
 hd:∀m,m<prL (shN s)->∀j,j<s.length->ixM s ax m j<(shN a.sh).getD j 0
 ht:∀m,m<prL (shN s)->hpM a s ax m s.length=T m
 hp0:0<prL (shN s)->0<prL (shN a.sh)
 hit:∀x∈a.it,(Bj x).1=0
def BbF(_a:Arr)(s:List Int):Con:=fun k ds S=>match k with
 |46=>some (pA ds S (.int .i64 (prL (shN s):Nat)) (wkL ds [isl s .any]/\Bi s=true))
 |49=>some (pE (β:=Arr) ds S (fun b=>.agg b.row1) (fun b=>ds=[.agg b.row]/\(Bj b).1=0))
 |_=>none
theorem Bdd{a:Arr}{s:List Int}:ConOk Try.prog (BbF a s):=by
 intro k ds S A hh
 unfold BbF at hh
 split at hh
 ·injection hh with hh;subst hh
  refine BD fun ⟨e,hs⟩=>CD.at_ (CD.wk ?_ e) _
  have:=MO s hs
  rw[G8 hs] at this
  exact this
 ·injection hh with hh;subst hh
  refine Ce fun b ⟨e,hb⟩=>CD.at_ ?_ _
  rw[e]
  refine CD.wk (us:=[.agg b.row1]) ?_ ?_
  ·exact (Ud b hb).mono fun _ _ ⟨y,q1,q2,q3⟩=>⟨(),trivial,q2,q3⟩
  ·simp only[wkL,wkD]
   exact⟨II b,trivial⟩
 ·cases hh
noncomputable def Emv(a:Arr)(s:List Int)(ax:List Nat)(T:Nat->Nat):Senv:={ EC (BbF a s) 97 3 [4,6,7,8,9,10,11,12,13,24,25,26,27,28,47,75,92] (fun id=>match id with | 9=>([0,1,2,3,4,5,6,7,8,9,10,11,12],[]) | 12=>([0,1,2,3,4,5,6,7,8,9,10,11],[7,8,9,11]) | 13=>([0,1,2,3,4,5,6,7,8,9,10],[7,8,10]) | 19=>([0,1,2,3,4,5,6,7,8],[]) | _=>([],[])) with
 gh:=fun b=>match b with
  |0=>[.cell 2 102,.cell 2 403]
  |_=>[]
 cut:=fun id env S=>match id with
  |18=>match Ab.look env 9,Ab.look env 13 with
   |.int _ w,.int _ z=>match Bz S.objs 3 with
    |some _=>some { slots:=[],keep:=[0,2,4,6,7,8,9,13],α:=List Nat,st:=fun l=>([],⟨Em S.objs 3 (.vec 1 s.length s.length (crR l)),S.toks⟩),inv:=fun l=>BdX s ((prL (shN s):Int)-w-1).toNat z.toNat l,mu:=fun _=>0 }
    |none=>none
   |_,_=>none
  |_=>none
 ann:=fun b env S=>match b with
  |0=>some
    { slots:=[9],keep:=[0,2,4,6,7,8],α:=Nat×Nat×Nat,st:=fun y=>([.int .i64 ((prL (shN s):Int)-y.1)],⟨Em (Em S.objs 3 (.vec 1 s.length s.length (dgR s y.1))) 2 (.cells [.int .i64 a.k,isl s .any,.sl 1 (cN a y.1) (nuR a T) (.tok 0 y.2.1),.sl 4 (cI a y.1) (fun i=>(itA a T i).row1) (.tok 1 y.2.2)]),[(0,y.2.1),(1,y.2.2)]⟩),inv:=fun y=>y.1<=prL (shN s),mu:=fun y=>prL (shN s)-y.1 }
  |2=>match Ab.look env 9 with
   |.int _ w=>some { slots:=[27,10],keep:=[0,2,4,6,7,8,9,25,26],α:=Nat,st:=fun j=>([.int .i64 j,.int .i64 (hpM a s ax ((prL (shN s):Int)-w).toNat j:Nat)],S),inv:=fun j=>j<=s.length,mu:=fun j=>s.length-j }
   |_=>none
  |4=>match Ab.look env 9 with
   |.int _ w=>some { slots:=[13],keep:=[0,2,4,6,7,8,9],α:=Nat×List Nat,st:=fun y=>([.int .i64 ((y.1:Int)-1)],⟨Em S.objs 3 (.vec 1 s.length s.length (crR y.2)),S.toks⟩),inv:=fun y=>Odo (shN s) ((prL (shN s):Int)-w-1).toNat y.1 y.2,mu:=fun y=>y.1 }
   |_=>none
  |_=>none }
theorem BeS{s:List Int}(hs:Bi s=true){m:Nat}(hm:m<prL (shN s))(j:Nat):(BK (shN s) m).getD j 0<=65536:=by
 by_cases hj:j<s.length
 ·have:=G6 m (by omega) (show j<(shN s).length by rw[BV];exact hj)
  have:=TU hs j
  omega
 ·rw[Bav m (by rw[BV];omega)];omega
theorem TF{s : List Int}(hs : Bi s=true){m : Nat}(hm : m<prL (shN s)){Z1 Z2 : Nat -> Nat -> Nat -> Prop}(hZ : ∃p q, Z1 (m+1) p q /\ Z2 (m+1) p q)(y : Nat×List Nat)(ho : Odo (shN s) m y.1 y.2) :
  (0<=(y.1 : Int)-1 -> ((0<=(y.1 : Int)-1 /\ (y.1 : Int)-1<s.length) /\ ((y.1 : Int)-1).toNat<s.length /\ (0<=(y.1 : Int)-1 /\ (y.1 : Int)-1<s.length) /\ ((y.1 : Int)-1).toNat<s.length /\
    ∃l,BdX s m ((y.1:Int)-1).toNat l/\∀i,i<s.length->BA (crR y.2) ((y.1:Int)-1).toNat [.int .i64 (IntKind.i64.wrap (((y.2.getD ((y.1:Int)-1).toNat 0:Nat):Int)+1))] i=crR l i) /\
   ∀l,BdX s m ((y.1:Int)-1).toNat l->(0<=(y.1:Int)-1/\(y.1:Int)-1<s.length)/\((y.1:Int)-1).toNat<s.length/\(0<=(y.1:Int)-1/\(y.1:Int)-1<s.length) /\
    (((l.getD ((y.1:Int)-1).toNat 0:Nat):Int)<s.getD ((y.1:Int)-1).toNat 0->∃p q r,p<=prL (shN s)/\prL (shN s)-p<prL (shN s)-m/\IntKind.i64.wrap ((prL (shN s):Int)-m-1)=(prL (shN s):Int)-p/\((∀i,i<s.length->crR l i=dgR s p i)/\Z1 p q r)/\Z2 p q r) /\
    (¬((l.getD ((y.1:Int)-1).toNat 0:Nat):Int)<s.getD ((y.1:Int)-1).toNat 0->(0<=(y.1:Int)-1/\(y.1:Int)-1<s.length)/\((y.1:Int)-1).toNat<s.length /\
     ∃j c,Odo (shN s) m j c/\j<y.1/\IntKind.i64.wrap ((y.1:Int)-1-1)=(j:Int)-1/\∀i,i<s.length->BA (crR l) ((y.1:Int)-1).toNat [.int .i64 0] i=crR c i)) /\
  (¬0<=(y.1:Int)-1->∃p q r,p<=prL (shN s)/\prL (shN s)-p<prL (shN s)-m/\IntKind.i64.wrap ((prL (shN s):Int)-m-1)=(prL (shN s):Int)-p/\((∀i,i<s.length->crR y.2 i=dgR s p i)/\Z1 p q r)/\Z2 p q r):=by
 obtain ⟨j,cur⟩:=y
 obtain ⟨p,q,hz1,hz2⟩:=hZ
 have h8:=((Bk s).1 hs).1
 have hP:=Ea hs
 have hsl:(shN s).length=s.length:=BV s
 have hp0:0<prL (shN s):=by omega
 have hw:IntKind.i64.wrap ((prL (shN s):Int)-m-1)=(prL (shN s):Int)-((m+1:Nat):Int):=by rw[Bb (by omega) (by omega)];push_cast;omega
 have h2:=((Bk s).1 hs).2.1
 simp only at ho ⊢
 refine⟨fun h0=>?_,fun h0=>?_⟩
 ·obtain ⟨j,rfl⟩:∃i,j=i+1:=⟨j-1,by omega⟩
  have hjs:j+1<=s.length:=by rw[<- hsl];exact ho.le
  have ej:(((j+1:Nat):Int)-1)=j:=by omega
  simp only[ej,Int.toNat_natCast]
  have cb:∀c,Odo (shN s) m (j+1) c->c.getD j 0<=65536:=fun c hc=>by
   rw[hc.low j (Nat.lt_succ_self j),<- E6 (shN s) m j (by omega)]
   exact BeS hs hm j
  refine⟨⟨⟨by omega,by omega⟩,by omega,⟨by omega,by omega⟩,by omega,cur.set j (cur.getD j 0+1),⟨cur,ho,rfl⟩,fun i _=>?_⟩,?_⟩
  ·have:=cb cur ho
   rw[Bb (by omega) (by omega)]
   exact Bax (by rw[ho.len];omega) i
  ·rintro _ ⟨c,hc,rfl⟩
   have hcl:j<c.length:=by rw[hc.len];omega
   have gj:(c.set j (c.getD j 0+1)).getD j 0=c.getD j 0+1:=by rw[GH j hcl,if_pos rfl]
   simp only[gj,<- C6 h2 j]
   refine⟨⟨by omega,by omega⟩,by omega,⟨by omega,by omega⟩,fun hlt=>⟨m+1,p,q,by omega,by omega,hw,⟨fun i _=>?_,hz1⟩,hz2⟩,fun hge=>⟨⟨by omega,by omega⟩,by omega,j,c.set j 0,hc.carry hp0 (by omega),by omega,Bb (by omega) (by omega),fun i _=>?_⟩⟩
   ·rw[hc.stop hp0 (by omega)];rfl
   ·have:=Bax (cur:=c.set j (c.getD j 0+1)) (v:=0) (by rw[List.length_set];exact hcl) i
    rw[List.set_set] at this
    exact this
 ·obtain rfl:j=0:=by omega
  exact⟨m+1,p,q,by omega,by omega,hw,⟨fun i _=>by rw[ho.last hp0];rfl,hz1⟩,hz2⟩
def Q4(a:List Int):Prop:=SM (LN a)
def Zl(a:List Int):Nat:=prL (shN a)
def Vd(a:Nat)(b:List Int):Prop:=a<=Zl b
def Zm(a:List Int):Int:=(NI (Zl a))
def Ve(a:List Int)(b:Nat):Int:=Zm a-(↑b:Int)
def Zn(a:Arr):Int:=Arr.k a
def KF(a:Arr):Prop:=SM (Zn a)
def Qb3(a:List Int)(b:Nat):List D:=[ZI (GI a b)]
def K0(a:List Int):Prop:=Q4 a/\(∀(i:Nat),i<LN a->SM (Qb3 a i))/\True
def QN(a:Arr)(b:Nat):Nat:=cN a b
def QO(a:Arr)(b:Nat):Nat:=cI a b
def Xn:Arr:=DA
def JC(a:Arr)(b:Nat->Nat)(c:Nat):List D:=[ZI (Arr.k (itA a b c)),SI (Arr.sh (itA a b c)),SI (Arr.nu (itA a b c)),D.sl N4 (LN (Arr.it (itA a b c))) (fun i=>Arr.row (List.getD (Arr.it (itA a b c)) i Xn)) Mode.any]
def Qb4:Prop:=SM N0/\(∀(i:Nat),i<N0->Cr (List D) [] [])/\True
def Zo(a:Arr):Nat:=LN (Arr.sh a)
def Qjj(a:Arr)(b:Nat):List D:=[ZI (GI (Arr.sh a) b)]
def Zp(a:Arr):Nat:=LN (Arr.nu a)
def Qjk(a:Arr)(b:Nat):List D:=[ZI (GI (Arr.nu a) b)]
def Zq(a:Arr):Nat:=LN (Arr.it a)
def Qjl(a:Arr)(b:Nat):List D:=Arr.row (List.getD (Arr.it a) b Xn)
def K1(a b:Nat)(c:Arr):Prop:=SM a/\(SM Z0/\Qb4/\Qb4/\Qb4/\True)/\SM b/\(KF c/\(SM (Zo c)/\(∀(i:Nat),i<Zo c->SM (Qjj c i))/\True)/\(SM (Zp c)/\(∀(i:Nat),i<Zp c->SM (Qjk c i))/\True)/\(SM (Zq c)/\(∀(i:Nat),i<Zq c->SM (Qjl c i))/\True)/\True)/\True
def K5(a:Arr)(b:List Int)(c:List Nat)(d e:Nat):Int:=(NI (hpM a b c (Int.toNat (Zm b-Ve b d)) e))
def Qb5(a:Arr)(b:Nat)(c:Nat->Nat):Prop:=∀(i:Nat),i<QN a b->SM (nuR a c i)
def Qjm(a:Arr)(b:Nat)(c:Nat->Nat)(d:Nat):Prop:=SM (QN a b)/\Qb5 a b c/\SM d
def Qb6(a:Arr)(b:Nat)(c:Nat->Nat):Prop:=∀(i:Nat),i<QO a b->SM (JC a c i)
def Qjn(a:Arr)(b:Nat)(c:Nat->Nat)(d:Nat):Prop:=(SM (QO a b)/\Qb6 a b c/\SM d)/\True
def JD(a b:Nat):Prop:=SM a/\SM b/\True
def Qjo(a:Nat)(b:List Int)(c d:Nat)(e:Arr)(f:Nat->Nat)(g h k l:Nat):Prop:=(SM a/\(Q4 b/\Q4 b/\∀(i:Nat),i<LN b->SM (dgR b c i))/\SM d/\(KF e/\K0 b/\Qjm e c f g/\Qjn e c f h)/\K1 k l e)/\JD g h
def Qb7(a:List Nat):Int:=(LI (Eo a))
def Zr(a:List Nat)(b:Nat):Int:=GI (Eo a) (Int.toNat (↑b:Int))
def Kq(a:List Int):Int:=(NI (TL a))
def QmE(a:List Nat):D:=SI (Eo a)
def Zs(a:List Nat):Prop:=SM (QmE a)
def QmF(a:List Int):D:=D.sl N1 (LN a) (fun i=>Qb3 a i) Mode.any
def Qb8(a:List Int):Prop:=SM (QmF a)
def Qb9(a:Nat):Prop:=SM (D.ref N0 a N0)
def Qca(a:Nat):Prop:=SM (D.ref (max (N0+N1) N0) a N0)
def Qcb(a:Nat):Prop:=SM (D.ref (max N2 (max (N0+N1) N0)) a N0)
def QmG(a:Nat)(b:List Int):D:=D.vs (max (N2+N1) (max N2 (max (N0+N1) N0))) a (TL b) (TL b) N1
def Qcc(a:Nat)(b:List Int):Prop:=SM (QmG a b)
def QmH(a:List Int)(b:Nat):D:=ZI (Ve a b)
def Qjp(a:Arr)(b:List Int)(c:List Nat)(d e:Nat):Nat:=Int.toNat (K5 a b c d e)
def Qjq(a:Arr)(b:List Int)(c:List Nat)(d e:Nat):List D:=Arr.row (List.getD (Arr.it a) (Qjp a b c d e) Xn)
def QmI(a:Arr)(b:Nat)(c:Nat->Nat)(d:Nat):D:=D.sl N4 (QO a b) (fun i=>JC a c i) (Mode.tok N1 d)
def Qjr(a:Nat)(b:Arr)(c:Nat)(d:Nat->Nat)(e:Nat):Prop:=SM a/\SM (QmI b c d e)
def K6(a:Arr)(b:Nat):Nat:=QO a b+N1
def Qcd(a:List Int)(b:Nat):Int:=IntKind.wrap IntKind.i64 (Ve a b-Z1)
def Qjs(a:List Int)(b:Nat):Nat:=Int.toNat (Zm a-Qcd a b-Z1)
def Vf(a:List Int)(b c:Nat)(d:List Nat):Prop:=Odo (shN a) (Qjs a b) c d
def Qk(a:Nat):Int:=(↑a:Int)-Z1
def Qjt(a:List Int)(b:Nat):Prop:=IntKind.wrap IntKind.i64 (Kq a-Z1)=Qk b/\True
def Qju(a:List Int)(b:Nat)(c:List Nat):Prop:=Q4 a/\Q4 a/\∀(i:Nat),i<LN a->dgR a b i=crR c i
def Qce(a:Arr)(b:Nat)(c:Nat->Nat)(d:Arr)(e:Nat):List D:=Bp (QO a b) (fun i=>JC a c i) (fun i=>List.getD [[ZI (Zn d),D.sl N1 (Zo d) (fun i=>Qjj d i) Mode.any,D.sl N1 (Zp d) (fun i=>Qjk d i) Mode.any,D.sl N4 (Zq d) (fun i=>Qjl d i) Mode.any]] i []) e
def Qcf(a:Nat)(b:Arr)(c:List Int)(d:Nat)(e:Nat->Nat)(f:Nat)(g:Arr)(h k l:Nat):Prop:=SM a/\(KF b/\K0 c/\Qjm b d e f/\(SM (K6 b d)/\(∀(i:Nat),i<K6 b d->SM (Qce b d e g i))/\SM h)/\True)/\K1 k l b
def QP(a:Nat):Nat:=Int.toNat (Qk a)
def Zt(a:List Int)(b c:Nat)(d:List Nat):Prop:=BdX a (Qjs a b) (QP c) d
def Qjv(a:List Int)(b:List Nat)(c:Nat)(d:List Nat):Prop:=Q4 a/\Q4 a/\∀(i:Nat),i<LN a->BA (crR b) (QP c) [ZI (IntKind.wrap IntKind.i64 ((NI (List.getD b (QP c) N0))+Z1))] i=crR d i
def Qjw(a:List Nat)(b:Nat)(c:List Int):Bool:=decide ((NI (List.getD a (QP b) N0))<GI c (QP b))
def Zu(a:List Nat)(b:List Int)(c d e f:Nat):Prop:=Zs a/\Qb8 b/\Qb9 c/\Qca d/\Qcb e/\Qcc f b/\True
def Zv(a:List Int)(b c:Nat):Prop:=Zl a-b<Zl a-c
def Zw(a:List Int)(b c:Nat):Prop:=Qcd a b=Ve a c/\True
def Zx(a:List Int)(b:List Nat)(c:Nat):Prop:=Q4 a/\Q4 a/\∀(i:Nat),i<LN a->crR b i=dgR a c i
def QmJ(a:List Int)(b:Nat):D:=ZI (Qcd a b)
def Qjx(a:List Nat)(b:List Int)(c d e f g:Nat):Prop:=Zs a/\Qb8 b/\Qb9 c/\Qca d/\Qcb e/\Qcc f b/\SM (QmJ b g)/\True
def Qjy(a b:Nat):Prop:=IntKind.wrap IntKind.i64 (Qk a-Z1)=Qk b/\True
def Qjz(a:List Int)(b:List Nat)(c:Nat)(d:List Nat):Prop:=Q4 a/\Q4 a/\∀(i:Nat),i<LN a->BA (crR b) (QP c) [ZI Z0] i=crR d i
def K7(a:Arr)(b:Nat):Nat:=QN a b+N1
def Qcg(a:Arr)(b:Nat)(c:Nat->Nat)(d:List Int)(e:List Nat)(f g:Nat):List D:=Bp (QN a b) (nuR a c) (fun i=>List.getD [[ZI (GI (Arr.nu a) (Qjp a d e b f))]] i []) g
def Qch(a:Nat)(b:Arr)(c:List Int)(d:Nat)(e:Nat->Nat)(f:List Nat)(g h k l m:Nat):Prop:=SM a/\(KF b/\K0 c/\(SM (K7 b d)/\(∀(i:Nat),i<K7 b d->SM (Qcg b d e c f g i))/\SM h)/\Qjn b d e k)/\K1 l m b
def Zy(a:Arr)(b:List Int)(c:Nat->Nat)(d:Nat):Arr:=List.getD (Arr.it (Ef a b c)) d Xn
def QmK(a:Arr)(b:List Int)(c:Nat->Nat)(d:Nat):List Int:=Arr.sh (Zy a b c d)
def QmL(a:Arr)(b:List Int)(c:Nat->Nat)(d:Nat):List Int:=Arr.nu (Zy a b c d)
def QjA(a:Arr)(b:List Int)(c:Nat->Nat)(d:Nat):List Arr:=Arr.it (Zy a b c d)
theorem BeR(a:Arr)(s:List Int)(ax:List Nat)(T:Nat->Nat)(h:BM a s ax T):CD 24 [isl (Eo ax) .any,.agg a.row1,isl s .any] (.agg (Ef a s T).row2):=by
 refine Bo (A:=sC _ _) (x:=()) (E:=Emv a s ax T) (eOk Bdd rfl) Try.func24 rfl (by kernel_rfl) rfl (by simp[sC,Emv,EC,E0]) ?_
 refine Bu (T :=
  ∀(x:Nat),True->∀(x_1:Nat),x≠x_1/\True->SM x/\∀(x_2:Nat),x_1≠x_2/\x≠x_2/\True->SM x_2/\Bc (Z0<=(LI s)/\(LI s)<=(LI s)/\(8:Int)*(LI s)<=281474976710656/\(LI s)<=9223372036854775807) (∀(x_3:Nat),x_2≠x_3/\x_1≠x_3/\x≠x_3/\True->∃(x_4:Unit),(((Q4 s/\(∀(i:Nat),i<LN s->SM (GI s i)/\True)/\True)/\True)/\Bi s=true)/\∀(y:Unit),True->∀(t t_1:Nat),(∃(x_5:Nat×Nat×Nat),Vd x_5.1 s/\(Zm s=Ve s x_5.1/\True)/\(SM x_3/\(TL s=LN s/\TL s=LN s/\∀(i:Nat),i<TL s->[ZI Z0]=dgR s x_5.1 i)/\SM x_2/\(KF a/\K0 s/\(N0=QN a x_5.1/\(∀(i:Nat),i<N0->Cr (List D) [] (nuR a T i))/\t=x_5.2.1)/\(N0=QO a x_5.1/\(∀(i:Nat),i<N0->Cr (List D) [] (JC a T i))/\t_1=x_5.2.2)/\True)/\K1 x_1 x a)/\t=x_5.2.1/\t_1=x_5.2.2/\True)/\∀(x_5:Nat×Nat×Nat),Vd x_5.1 s->ifB (decide (Z0<Ve s x_5.1)) ((∃(x_6:Nat),x_6<=LN s/\(Z0=(↑x_6:Int)/\Z0=K5 a s ax x_5.1 x_6/\True)/\Qjo x_3 s x_5.1 x_2 a T x_5.2.1 x_5.2.2 x_1 x)/\∀(x_6:Nat),x_6<=LN s->ifB (decide ((↑x_6:Int)<Qb7 ax)) (Bc (Z0<=(↑x_6:Int)/\(↑x_6:Int)<Qb7 ax) (SM x/\Bc (Z0<=(↑x_6:Int)/\(↑x_6:Int)<(NI (Zo a))) (Bc (Z0<=Zr ax x_6/\Zr ax x_6<Kq s) (SM x_3/\Bc (Int.toNat (Zr ax x_6)<LN s) ((Zs ax/\Qb8 s/\Qb9 x/\Qca x_1/\Qcb x_2/\Qcc x_3 s/\SM (QmH s x_5.1)/\Zs ax/\SM (ZI (Qb7 ax))/\True)/\∃(y:Nat),y<=LN s/\LN s-y<LN s-x_6/\(IntKind.wrap IntKind.i64 ((↑x_6:Int)+Z1)=(↑y:Int)/\IntKind.wrap IntKind.i64 (IntKind.wrap IntKind.i64 (K5 a s ax x_5.1 x_6*GI (Arr.sh a) (Int.toNat (↑x_6:Int)))+(NI (List.getD (BK (shN s) x_5.1) (Int.toNat (Zr ax x_6)) N0)))=K5 a s ax x_5.1 y/\True)/\Qjo x_3 s x_5.1 x_2 a T x_5.2.1 x_5.2.2 x_1 x))))) (SM x/\ifB (Zn a==3) (SM x_2/\SM x/\Bc (Z0<=K5 a s ax x_5.1 x_6/\K5 a s ax x_5.1 x_6<(NI (Zq a))) (Bc (N4<=LN (Qjq a s ax x_5.1 x_6)) (∃(x_7:Arr),([D.agg (List.take N4 (List.drop N0 (Qjq a s ax x_5.1 x_6)))]=[D.agg (Arr.row x_7)]/\Prod.fst (Bj x_7)=Z0)/\∀(y:Unit),True->Qjr x_2 a x_5.1 T x_5.2.2/\Qjr x_2 a x_5.1 T x_5.2.2/\SM x_5.2.2/\Bc (K6 a x_5.1*80<=140737488355328/\K6 a x_5.1<=9223372036854775807) (∀(t:Nat),SM x_2/\(∃(x_8:Nat×List Nat),Vf s x_5.1 x_8.1 x_8.2/\Qjt s x_8.1/\(SM x_3/\Qju s x_5.1 x_8.2/\Qcf x_2 a s x_5.1 T x_5.2.1 x_7 t x_1 x)/\JD t x_5.2.1)/\∀(x_8:Nat×List Nat),Vf s x_5.1 x_8.1 x_8.2->ifB (decide (Z0<=Qk x_8.1)) (Bc (Z0<=Qk x_8.1/\Qk x_8.1<Kq s) (SM x_3/\Bc (QP x_8.1<LN s) (Bc (Z0<=Qk x_8.1/\Qk x_8.1<Kq s) (SM x_3/\Bc (QP x_8.1<LN s) (∃(x_9:List Nat),Zt s x_5.1 x_8.1 x_9/\True/\(SM x_3/\Qjv s x_8.2 x_8.1 x_9/\Qcf x_2 a s x_5.1 T x_5.2.1 x_7 t x_1 x)/\JD t x_5.2.1))))/\∀(x_9:List Nat),Zt s x_5.1 x_8.1 x_9->Bc (Z0<=Qk x_8.1/\Qk x_8.1<Kq s) (SM x_3/\Bc (QP x_8.1<LN s) (Bc (Z0<=Qk x_8.1/\Qk x_8.1<(LI s)) (ifB (Qjw x_9 x_8.1 s) (Zu ax s x x_1 x_2 x_3/\∃(y:Nat×Nat×Nat),Vd y.1 s/\Zv s y.1 x_5.1/\Zw s x_5.1 y.1/\(SM x_3/\Zx s x_9 y.1/\SM x_2/\(KF a/\K0 s/\(QN a x_5.1=QN a y.1/\Qb5 a x_5.1 T/\x_5.2.1=y.2.1)/\(K6 a x_5.1=QO a y.1/\(∀(i:Nat),i<K6 a x_5.1->Qce a x_5.1 T x_7 i=JC a T i)/\t=y.2.2)/\True)/\K1 x_1 x a)/\x_5.2.1=y.2.1/\t=y.2.2/\True) (Bc (Z0<=Qk x_8.1/\Qk x_8.1<Kq s) (SM x_3/\Bc (QP x_8.1<LN s) (Qjx ax s x x_1 x_2 x_3 x_5.1/\∃(y:Nat×List Nat),Vf s x_5.1 y.1 y.2/\y.1<x_8.1/\Qjy x_8.1 y.1/\(SM x_3/\Qjz s x_9 x_8.1 y.2/\Qcf x_2 a s x_5.1 T x_5.2.1 x_7 t x_1 x)/\JD t x_5.2.1))))))) (Zu ax s x x_1 x_2 x_3/\∃(y:Nat×Nat×Nat),Vd y.1 s/\Zv s y.1 x_5.1/\Zw s x_5.1 y.1/\(SM x_3/\Zx s x_8.2 y.1/\SM x_2/\(KF a/\K0 s/\(QN a x_5.1=QN a y.1/\Qb5 a x_5.1 T/\x_5.2.1=y.2.1)/\(K6 a x_5.1=QO a y.1/\(∀(i:Nat),i<K6 a x_5.1->Qce a x_5.1 T x_7 i=JC a T i)/\t=y.2.2)/\True)/\K1 x_1 x a)/\x_5.2.1=y.2.1/\t=y.2.2/\True))))) (SM x_2/\SM x/\Bc (Z0<=K5 a s ax x_5.1 x_6/\K5 a s ax x_5.1 x_6<(NI (Zp a))) ((SM x_2/\SM (D.sl N1 (QN a x_5.1) (nuR a T) (Mode.tok N0 x_5.2.1)))/\SM x_5.2.1/\Bc (K7 a x_5.1*8<=140737488355328/\K7 a x_5.1<=9223372036854775807) (∀(t:Nat),SM x_2/\(∃(x_7:Nat×List Nat),Vf s x_5.1 x_7.1 x_7.2/\Qjt s x_7.1/\(SM x_3/\Qju s x_5.1 x_7.2/\Qch x_2 a s x_5.1 T ax x_6 t x_5.2.2 x_1 x)/\JD t x_5.2.2)/\∀(x_7:Nat×List Nat),Vf s x_5.1 x_7.1 x_7.2->ifB (decide (Z0<=Qk x_7.1)) (Bc (Z0<=Qk x_7.1/\Qk x_7.1<Kq s) (SM x_3/\Bc (QP x_7.1<LN s) (Bc (Z0<=Qk x_7.1/\Qk x_7.1<Kq s) (SM x_3/\Bc (QP x_7.1<LN s) (∃(x_8:List Nat),Zt s x_5.1 x_7.1 x_8/\True/\(SM x_3/\Qjv s x_7.2 x_7.1 x_8/\Qch x_2 a s x_5.1 T ax x_6 t x_5.2.2 x_1 x)/\JD t x_5.2.2))))/\∀(x_8:List Nat),Zt s x_5.1 x_7.1 x_8->Bc (Z0<=Qk x_7.1/\Qk x_7.1<Kq s) (SM x_3/\Bc (QP x_7.1<LN s) (Bc (Z0<=Qk x_7.1/\Qk x_7.1<(LI s)) (ifB (Qjw x_8 x_7.1 s) (Zu ax s x x_1 x_2 x_3/\∃(y:Nat×Nat×Nat),Vd y.1 s/\Zv s y.1 x_5.1/\Zw s x_5.1 y.1/\(SM x_3/\Zx s x_8 y.1/\SM x_2/\(KF a/\K0 s/\(K7 a x_5.1=QN a y.1/\(∀(i:Nat),i<K7 a x_5.1->Qcg a x_5.1 T s ax x_6 i=nuR a T i)/\t=y.2.1)/\(QO a x_5.1=QO a y.1/\Qb6 a x_5.1 T/\x_5.2.2=y.2.2)/\True)/\K1 x_1 x a)/\t=y.2.1/\x_5.2.2=y.2.2/\True) (Bc (Z0<=Qk x_7.1/\Qk x_7.1<Kq s) (SM x_3/\Bc (QP x_7.1<LN s) (Qjx ax s x x_1 x_2 x_3 x_5.1/\∃(y:Nat×List Nat),Vf s x_5.1 y.1 y.2/\y.1<x_7.1/\Qjy x_7.1 y.1/\(SM x_3/\Qjz s x_8 x_7.1 y.2/\Qch x_2 a s x_5.1 T ax x_6 t x_5.2.2 x_1 x)/\JD t x_5.2.2))))))) (Zu ax s x x_1 x_2 x_3/\∃(y:Nat×Nat×Nat),Vd y.1 s/\Zv s y.1 x_5.1/\Zw s x_5.1 y.1/\(SM x_3/\Zx s x_7.2 y.1/\SM x_2/\(KF a/\K0 s/\(K7 a x_5.1=QN a y.1/\(∀(i:Nat),i<K7 a x_5.1->Qcg a x_5.1 T s ax x_6 i=nuR a T i)/\t=y.2.1)/\(QO a x_5.1=QO a y.1/\Qb6 a x_5.1 T/\x_5.2.2=y.2.2)/\True)/\K1 x_1 x a)/\t=y.2.1/\x_5.2.2=y.2.2/\True)))))) (SM x_2/\SM x_1/\(SM x_1/\True)/\∃(y:Unit),True/\(Zn a=Arr.k (Ef a s T)/\(LN s=LN (Arr.sh (Ef a s T))/\(∀(i:Nat),i<LN s->Qb3 s i=[ZI (GI (Arr.sh (Ef a s T)) i)])/\True)/\(QN a x_5.1=LN (Arr.nu (Ef a s T))/\(∀(i:Nat),i<QN a x_5.1->nuR a T i=[ZI (GI (Arr.nu (Ef a s T)) i)])/\True)/\(QO a x_5.1=LN (Arr.it (Ef a s T))/\(∀(i:Nat),i<QO a x_5.1->JC a T i=[ZI (Arr.k (Zy a s T i)),SI (QmK a s T i),SI (QmL a s T i),D.sl N4 (LN (QjA a s T i)) (fun i_1=>Arr.row (List.getD (QjA a s T i) i_1 Xn)) Mode.any])/\True)/\True)/\True/\True))) (by kernel_rfl) ?_
 delta DA GI LI LN N0 N1 N2 N4 NI SI SM TL Z0 Z1 ZI Q4 Zl QO Xn JC Qb4 Zo Qjj Zp Qjk Zq Qjl Vd K1 K5 Qb5 Qjm Qb6 Qjn JD Qjo Qb7 Zr Zm Kq QmE Zs QmF Qb8 Qb9 Qca Qcb QmG Qcc Ve QmH Qjp Qjq QmI Qjr K6 Qcd Qjs Vf Qk Zn Qjt Qju Qce Qcf QP Zt Qjv Qjw Zu Zv KF Zw Zx QmJ Qjx Qjy Qjz K7 Qcg Qch Zy Qb3 QmK QmL QjA K0 QN
 have da:(default:Arr)=Arr.mk 0 [] [] []:=rfl
 simp only[<- da]
 simp only[eq_self,ne_eq,implies_true,Int.toNat_natCast,Bl,Be,decide_eq_true_eq,decide_eq_false_iff_not,true_and,and_true,beq_iff_eq,beq_eq_false_iff_ne,exists_const,forall_const,Prod.exists]
 have hs:=h.hs
 have hP:=Ea hs
 have h8:=((Bk s).1 hs).1
 have hsl:(shN s).length=s.length:=BV s
 have hnl:(Eo ax).length=s.length:=by rw[IT,h.ha]
 have hl:=h.hl
 have hal:(shN a.sh).length=s.length:=by rw[BV,h.hl]
 have hy2:=((Bk a.sh).1 h.hy).2.1
 simp only[hnl,IC,Int.toNat_natCast]
 refine fun x x1 _ x2 _=>⟨⟨by omega,by omega,by omega,by omega⟩,fun x3 _=>⟨hs,fun t t1=>⟨⟨0,t,t1,Nat.zero_le _,by omega,⟨fun i hi=>?_,⟨by simp[cN],fun i hi=>absurd hi (Nat.not_lt_zero i),rfl⟩,by simp[cI],fun i hi=>absurd hi (Nat.not_lt_zero i),rfl⟩,rfl,rfl⟩,?_⟩⟩⟩
 ·unfold dgR
  rw[Tj];rfl
 rintro ⟨m,u,v⟩ hm
 dsimp only at hm ⊢
 refine⟨fun hlt=>?_,fun hge=>?_⟩
 ·have hlt:m<prL (shN s):=by omega
  have e1:((prL (shN s):Int)-((prL (shN s):Int)-(m:Int))).toNat=m:=by omega
  have ew:IntKind.i64.wrap ((prL (shN s):Int)-(m:Int)-1)=(prL (shN s):Int)-m-1:=Bb (by omega) (by omega)
  have e2:((prL (shN s):Int)-IntKind.i64.wrap ((prL (shN s):Int)-(m:Int)-1)-1).toNat=m:=by rw[ew];omega
  simp only[e1,e2]
  refine⟨⟨0,Nat.zero_le _,rfl,rfl⟩,fun j hj=>⟨fun hj2=>?_,fun hj2=>?_⟩⟩
  ·have hj2:j<s.length:=by omega
   have hx:=h.hx j hj2
   refine⟨⟨by omega,by omega⟩,⟨by omega,by omega⟩,⟨by omega,by omega⟩,hx,j+1,by omega,by omega,Bb (by omega) (by omega),?_⟩
   have hb:=Bcn (s:=shN a.sh) (ix:=ixM s ax m) (fun j hj=>h.hd m hlt j (by omega)) (h.hp0 (by omega)) (j+1) (by omega)
   have hyP:=Ea h.hy
   rw[<- C6 hy2 j]
   have e:(hpM a s ax m (j+1):Int)=(hpM a s ax m j:Int)*((shN a.sh).getD j 0:Nat)+((BK (shN s) m).getD (ax.getD j 0) 0:Nat):=by
    simp only[hpM,hp,ixM];push_cast;rfl
   have hb2:hpM a s ax m (j+1)<=65536:=by unfold hpM;omega
   have hn:(0:Int)<=(hpM a s ax m j:Int)*((shN a.sh).getD j 0:Nat):=by
    have:((hpM a s ax m j*(shN a.sh).getD j 0:Nat):Int)=(hpM a s ax m j:Int)*((shN a.sh).getD j 0:Nat):=by push_cast;rfl
    omega
   rw[Bb (n:=(hpM a s ax m j:Int)*((shN a.sh).getD j 0:Nat)) (by omega) (by omega),Bb (by omega) (by omega),e]
  ·have:j=s.length:=by omega
   subst this
   have hT:=h.hT m hlt
   simp only[h.ht m hlt]
   refine⟨fun hk=>?_,fun hk=>?_⟩
   ·rw[if_pos hk] at hT
    have hc:cI a m=m:=if_pos hk
    refine⟨⟨by omega,by omega⟩,Nat.le_of_eq (IK _).symm,itA a T m,⟨?_,h.hit _ (Ch hT)⟩,⟨by omega,by omega⟩,fun w=>⟨⟨(shN s).length,BK (shN s) m,Odo.zero _ _,by rw[hsl];exact Bb (by omega) (by omega),fun i hi=>rfl⟩,?_⟩⟩
    ·rw[List.drop_zero,List.take_of_length_le (Nat.le_of_eq (IK _))];rfl
    refine TF hs hlt ⟨u,w,⟨⟨?_,rfl⟩,?_,fun i hi=>?_,rfl⟩,rfl,rfl⟩
    ·simp[cN,hk]
    ·simp[cI,hk]
    ·rw[hc] at hi ⊢
     unfold Bp
     by_cases ei:i<m
     ·rw[if_pos ei]
     ·obtain rfl:i=m:=by omega
      rw[if_neg ei,Nat.sub_self];rfl
   ·rw[if_neg hk] at hT
    have hc:cN a m=m:=if_neg hk
    refine⟨⟨by omega,by omega⟩,⟨by omega,by omega⟩,fun w=>⟨⟨(shN s).length,BK (shN s) m,Odo.zero _ _,by rw[hsl];exact Bb (by omega) (by omega),fun i hi=>rfl⟩,?_⟩⟩
    refine TF hs hlt ⟨w,v,⟨⟨?_,fun i hi=>?_,rfl⟩,?_,rfl⟩,rfl,rfl⟩
    ·simp[cN,hk]
    ·rw[hc] at hi ⊢
     unfold Bp
     by_cases ei:i<m
     ·rw[if_pos ei]
     ·obtain rfl:i=m:=by omega
      rw[if_neg ei,Nat.sub_self];rfl
    ·simp[cI,hk]
 ·obtain rfl:m=prL (shN s):=by omega
  exact⟨rfl,⟨rfl,fun _ _=>rfl⟩,⟨BbR,fun i hi=>by rw[BcB hi];rfl⟩,Bdg,fun i hi=>by rw[Bbo hi]⟩
theorem BfG(a:Arr)(s:List Int)(ax:List Nat)(T:Nat->Nat)(h:BM a s ax T):CD 24 [isl (Eo ax) .any,.agg a.row1,isl s .any] (.agg (Ef a s T).row1) :=
 (((BeR a s ax T h).at_ ⟨[],[]⟩).res (E8 _)).cd
def axR(r:Nat):List Nat:=(List.range r).map fun i=>r-1-i
def dmR(s:List Int)(i:Nat):Nat->List D:=fun a=>[.int .i64 (if s.length-i<=a then s.getD (s.length-1-a) 0 else -1)]
def mnR:Nat->List D:=fun _=>[.int .i64 (-1)]
theorem StTo.same(S:St):StTo S S:=fun _ _ _ H=>H
theorem stV{K K2 x w n n2 c:Nat}{f g:Nat->List D}(e:n=n2)(hg:∀i,i<n->f i=g i):StTo ⟨[(K,x,.vec w n c f)],[]⟩ ⟨[(K2,x,.vec w n2 c g)],[]⟩:=by
 subst e
 intro C F w' H
 refine Sat.pos H ⟨⟨rfl,?_,trivial⟩,trivial⟩
 simp only[B4,Ba,decide_true,true_and]
 exact hg
theorem Bar(r:Nat):(Eo (axR r)).length=r:=by simp[IT,axR]
theorem Uc{r j:Nat}(hj:j<r):(Eo (axR r)).getD j 0=((r-1-j:Nat):Int):=by
 rw[IC]
 unfold axR
 rw[List.getD_eq_getElem?_getD,List.getElem?_map,List.getElem?_range hj];rfl
theorem BbU{s:List Int}{i:Nat}(hi:i<s.length)(j:Nat)(hj:j<s.length):BA (dmR s i) (s.length-1-i) [.int .i64 (s.getD i 0)] j=dmR s (i+1) j:=by
 unfold BA dmR
 by_cases e:j=s.length-1-i
 ·rw[if_pos e,if_pos (by omega),show s.length-1-j=i by omega]
 ·rw[if_neg e]
  by_cases h:s.length-i<=j
  ·rw[if_pos h,if_pos (by omega)]
  ·rw[if_neg h,if_neg (by omega)]
theorem BdA{s:List Int}{j:Nat}(hj:j<s.length):s.reverse.getD j 0=s.getD (s.length-1-j) 0:=by
 rw[List.getD_eq_getElem?_getD,List.getD_eq_getElem?_getD,List.getElem?_reverse hj]
noncomputable def Edm(s:List Int):Senv:={ EC E5 47 2 [4,5,6,7,8,9,10,11,18,37] (fun id=>match id with | 7=>([0,1,2,3,4,5,6,7,8,9,10,11,12,13,14,15],[]) | _=>([],[])) with
 own:=fun t=>Nat.beq t 23
 gr:=[.slot 4]
 ann:=fun b env S=>match b with
  |2=>match Ab.look env 5 with
   |.vs _ _ _ _ _=>some { slots:=[],keep:=[1,5,6,7,8,9,10],α:=Unit,st:=fun _=>([],S),inv:=fun _=>True,mu:=fun _=>0 }
   |_=>none
  |_=>none
 ann2:=fun b env S=>match b with
  |0=>some (
    { slots:=[10,5],keep:=[1,8,9],α:=Unit,st:=fun _=>([.int .i64 0,.sl 1 0 (fun _=>[]) .nil],S),inv:=fun _=>True,mu:=fun _=>s.length+1 },
    { slots:=[10,5],keep:=[1,8,9],α:=Nat×Nat×Nat,st:=fun y=>([.int .i64 y.1,.vs 0 y.2.1 s.length y.2.2 1],⟨[(0,y.2.1,.vec 1 s.length y.2.2 (dmR s y.1))],[]⟩),inv:=fun y=>0<y.1/\y.1<=s.length/\s.length<=y.2.2,mu:=fun y=>s.length-y.1 })
  |2=>match Ab.look env 5 with
   |.sl _ _ _ _=>some (
     { slots:=[5],keep:=[1,6,7,8,9,10],α:=Unit,st:=fun _=>([.sl 1 0 (fun _=>[]) .nil],S),inv:=fun _=>True,mu:=fun _=>s.length+1 },
     { slots:=[5],keep:=[1,6,7,8,9,10],α:=Nat×Nat×Nat,st:=fun y=>([.vs 0 y.2.1 y.1 y.2.2 1],⟨[(0,y.2.1,.vec 1 y.1 y.2.2 mnR)],[]⟩),inv:=fun y=>0<y.1/\y.1<=s.length/\y.1<=y.2.2,mu:=fun y=>s.length-y.1 })
   |_=>none
  |_=>none }
def QjB:Prop:=(SM N0/\(∀(i:Nat),i<N0->Cr (List D) [] [])/\True)/\True
def QT:St:=St.mk [] []
def QjC:Prop:=StTo QT QT
def Xo(a:Nat)(b:List Int)(c:Nat):Prop:=N0<a/\a<=LN b/\LN b<=c
def JE:D:=D.sl N1 N0 (fun _x=>[]) Mode.nil
def Vg(a:Nat)(b:List Int)(c d:Nat):St:=St.mk [(N0,a,AObj.vec N1 (LN b) c (dmR b d))] []
def Zz(a:List Int):List Int:=Eo (axR (LN a))
def QjD(a:List Int):Nat:=LN (Zz a)
def Xp(a:List Int):Int:=(NI (QjD a))
def ZA(a:Nat)(b:List Int)(c:Nat):Prop:=N0<a/\a<=LN b/\a<=c
def Qci(a b c:Nat):St:=St.mk [(N0,a,AObj.vec N1 b c mnR)] []
def Kr(a:List Int):Int:=GI (Zz a) N0
def QmM(a:List Int):D:=SI a
def Qcj(a:List Int):Prop:=SM (QmM a)
def QmN(a:List Int):D:=ZI (Kr a)
def QmO(a:List Int):D:=D.sl N1 (QjD a) (fun i=>[ZI (GI (Zz a) i)]) Mode.any
def Qck(a:List Int):Prop:=SM (QmO a)
def QmP(a:List Int):D:=ZI (Xp a)
def Qcl(a:List Int):Prop:=SM (QmP a)
def QjE(a:List Int):Prop:=Qcj a/\SM (ZI Z0)/\SM (QmN a)/\Qck a/\Qcl a/\SM (ZI Z0)/\True
def QjF:List D:=[JE]
def ZB(a:List Int)(b:Unit):Nat:=LoopAnn.mu (LoopAnn.mk [(5:Nat)] [N1,N6,(7:Nat),(8:Nat),(9:Nat),(10:Nat)] Unit (fun (_x:Unit)=>(QjF,QT)) (fun (_x:Unit)=>True) (fun (_x:Unit)=>LN a+N1) false fun (_x:Unit)=>QT) b
def Qcm(a:Nat):List D:=List.getD [[ZI (-1:Int)]] a []
def QjG(a b:Nat):St:=St.mk [(N0,a,AObj.vec N1 N1 b fun i=>Qcm i)] []
def QjH(a b c:Nat):St:=St.mk [(N0,a,AObj.vec N1 (b+N1) c (Bp b mnR fun i=>Qcm i))] []
def Qcn(a:List Int):Nat:=Int.toNat (Kr a)
def Qco(a:List Int):Prop:=Qcj a/\Qck a/\Qcl a/\True
def ZC(a:List Int)(b:Unit):Nat:=LoopAnn.mu (LoopAnn.mk [(10:Nat),(5:Nat)] [N1,(8:Nat),(9:Nat)] Unit (fun (_x:Unit)=>(ZI Z0::QjF,QT)) (fun (_x:Unit)=>True) (fun (_x:Unit)=>LN a+N1) false fun (_x:Unit)=>QT) b
def QjI(a b c:Nat)(d:List Int):St:=St.mk [(N0,a,AObj.vec N1 b c (BA mnR (Qcn d) [ZI (GI d N0)]))] []
def KG(a:List Int)(b:Nat):Int:=GI (Zz a) (Int.toNat (↑b:Int))
def QmQ(a:List Int)(b:Nat):D:=ZI (KG a b)
def Vh(a:List Int)(b:Nat):Nat:=Int.toNat (KG a b)
def QjJ(a:List Int)(b:Nat):Int:=if LN a-b<=Vh a b then GI a (LN a-N1-Vh a b) else (-1:Int)
def QjK(a:List Int)(b:Nat):Bool:=decide (QjJ a b<Z0)
def QjL(a:List Int)(b:Nat):Bool:=decide (GI a (Int.toNat (↑b:Int))<QjJ a b)
def Qcp(a:List Int)(b:Nat):Bool:=bif QjK a b then true else QjL a b
def QjM(a:List Int)(b:Unit)(c:Nat):Prop:=ZC a b<LN a-c
def QjN(a b:Nat)(c:List Int)(d:Nat):Prop:=IntKind.wrap IntKind.i64 ((↑a:Int)+Z1)=Z0/\D.vs N0 b (LN c) d N1=JE/\True
def QjO(a:Nat)(b:List Int)(c d:Nat):St:=St.mk [(N0,a,AObj.vec N1 (LN b) c (BA (dmR b d) (Vh b d) [ZI (GI b (Int.toNat (↑d:Int)))]))] []
theorem BfL(s:List Int)(h8:s.length<=8)(hp:∀d∈s,0<=d):CD 25 [isl (Eo (axR s.length)) .any,isl s .any] (isl s.reverse .any):=by
 refine Bo (A:=sC _ _) (x:=()) (E:=Edm s) (eOk BN rfl) Try.func25 rfl (by kernel_rfl) rfl (by simp[sC,Edm,EC,E0]) ?_
 refine Bu (T :=
  ((∃(x:Unit),True/\True/\(SM Z0/\QjB)/\QjC)\/∃(x:Nat×Nat×Nat),Xo x.1 s x.2.2/\True/\(Z0=(NI x.1)/\JE=D.vs N0 x.2.1 (LN s) x.2.2 N1/\True)/\StTo QT (Vg x.2.1 s x.2.2 x.1))/\(∀(x:Unit),True->ifB (decide (Z0<Xp s)) (Bc (Z0<=Z0/\Z0<Xp s) (((∃(x:Unit),True/\True/\QjB/\QjC)\/∃(x:Nat×Nat×Nat),ZA x.1 s x.2.2/\True/\(JE=D.vs N0 x.2.1 x.1 x.2.2 N1/\True)/\StTo QT (Qci x.2.1 x.1 x.2.2))/\(∀(x:Unit),True->ifB (decide (Z0<=Kr s)) (∀(y cap':Nat),True->N1<=cap'->QjE s/\((∃(x_1:Unit),True/\ZB s x_1<ZB s x/\(D.vs N0 y N1 cap' N1=JE/\True)/\StTo (QjG y cap') QT)\/∃(x_1:Nat×Nat×Nat),ZA x_1.1 s x_1.2.2/\LN s-x_1.1<ZB s x/\((y=x_1.2.1/\N1=x_1.1/\cap'=x_1.2.2)/\True)/\StTo (QjG y cap') (Qci x_1.2.1 x_1.1 x_1.2.2))) (Bc (Z0<=Kr s/\Kr s<Z0) False/\False))/\∀(x_1:Nat×Nat×Nat),ZA x_1.1 s x_1.2.2->ifB (decide ((NI x_1.1)<=Kr s)) (SM x_1.2.1/\SM x_1.2.2/\Bc (x_1.1<=x_1.1/\(x_1.1+N1)*8<=140737488355328/\x_1.1+N1<=9223372036854775807) (∀(y cap':Nat),x_1.1+N1<=cap'->QjE s/\((∃(x:Unit),True/\ZB s x<LN s-x_1.1/\(D.vs N0 y (x_1.1+N1) cap' N1=JE/\True)/\StTo (QjH y x_1.1 cap') QT)\/∃(x:Nat×Nat×Nat),ZA x.1 s x.2.2/\LN s-x.1<LN s-x_1.1/\((y=x.2.1/\x_1.1+N1=x.1/\cap'=x.2.2)/\True)/\StTo (QjH y x_1.1 cap') (Qci x.2.1 x.1 x.2.2)))) (Bc (Z0<=Kr s/\Kr s<(NI x_1.1)) (SM x_1.2.1/\Bc (Qcn s<x_1.1) (SM true/\True))/\Bc (Z0<=Z0/\Z0<(LI s)) (Bc (Z0<=Kr s/\Kr s<(NI x_1.1)) (SM x_1.2.1/\Bc (Qcn s<x_1.1) (Qco s/\((∃(x_2:Unit),True/\ZC s x_2<ZC s x/\(Z1=Z0/\D.vs N0 x_1.2.1 x_1.1 x_1.2.2 N1=JE/\True)/\StTo (QjI x_1.2.1 x_1.1 x_1.2.2 s) QT)\/∃(x_2:Nat×Nat×Nat),Xo x_2.1 s x_2.2.2/\LN s-x_2.1<ZC s x/\(Z1=(NI x_2.1)/\(x_1.2.1=x_2.2.1/\x_1.1=LN s/\x_1.2.2=x_2.2.2)/\True)/\StTo (QjI x_1.2.1 x_1.1 x_1.2.2 s) (Vg x_2.2.1 s x_2.2.2 x_2.1)))))))) (∀(t:Nat),True/\∃(y:Unit),True/\(N0=LN (List.reverse s)/\(∀(i:Nat),i<N0->Cr (List D) [] [ZI (GI (List.reverse s) i)])/\True)/\True/\True))/\∀(x:Nat×Nat×Nat),Xo x.1 s x.2.2->ifB (decide ((NI x.1)<Xp s)) (Bc (Z0<=(NI x.1)/\(NI x.1)<Xp s) ((∃(x_1:Unit),True/\True/\(SM x.2.1/\(SM (LN s)/\SM x.2.2/\∀(i:Nat),i<LN s->SM (dmR s x.1 i))/\True)/\True)/\∀(x_1:Unit),True->ifB (decide ((LI s)<=KG s x.1)) (SM x.2.1/\SM x.2.2/\Bc (LN s<=LN s/\(LN s+N1)*8<=140737488355328/\LN s+N1<=9223372036854775807) (∀(y cap':Nat),LN s+N1<=cap'->(Qcj s/\D.vs N0 y (LN s+N1) cap' N1=D.vs N0 x.2.1 (LN s) x.2.2 N1/\SM (ZI (NI x.1))/\SM (QmQ s x.1)/\Qck s/\Qcl s/\SM (ZI (NI x.1))/\True)/\∃(y_1:Unit),True/\N0<N0/\True/\(y=x.2.1/\(LN s+N1=LN s/\cap'=x.2.2/\∀(i:Nat),i<LN s+N1->Bp (LN s) (dmR s x.1) (fun i=>Qcm i) i=dmR s x.1 i)/\True)/\True)) (Bc (Z0<=KG s x.1/\KG s x.1<(LI s)) (SM x.2.1/\Bc (Vh s x.1<LN s) (ifB (QjK s x.1) (true=Qcp s x.1/\True) (Bc (Z0<=(NI x.1)/\(NI x.1)<(LI s)) (Bc (Z0<=KG s x.1/\KG s x.1<(LI s)) (SM x.2.1/\Bc (Vh s x.1<LN s) (QjL s x.1=Qcp s x.1/\True))))))/\ifB (Qcp s x.1) (Bc (Z0<=(NI x.1)/\(NI x.1)<(LI s)) (Bc (Z0<=KG s x.1/\KG s x.1<(LI s)) (SM x.2.1/\Bc (Vh s x.1<LN s) (Qco s/\((∃(x_2:Unit),True/\QjM s x_2 x.1/\QjN x.1 x.2.1 s x.2.2/\StTo (QjO x.2.1 s x.2.2 x.1) QT)\/∃(x_2:Nat×Nat×Nat),Xo x_2.1 s x_2.2.2/\LN s-x_2.1<LN s-x.1/\(IntKind.wrap IntKind.i64 ((NI x.1)+Z1)=(NI x_2.1)/\(x.2.1=x_2.2.1/\SM (LN s)/\x.2.2=x_2.2.2)/\True)/\StTo (QjO x.2.1 s x.2.2 x.1) (Vg x_2.2.1 s x_2.2.2 x_2.1)))))) (Qco s/\((∃(x_2:Unit),True/\QjM s x_2 x.1/\QjN x.1 x.2.1 s x.2.2/\StTo (Vg x.2.1 s x.2.2 x.1) QT)\/∃(x_2:Nat×Nat×Nat),Xo x_2.1 s x_2.2.2/\LN s-x_2.1<LN s-x.1/\(IntKind.wrap IntKind.i64 ((NI x.1)+Z1)=(NI x_2.1)/\(x.2.1=x_2.2.1/\SM (LN s)/\x.2.2=x_2.2.2)/\True)/\StTo (Vg x.2.1 s x.2.2 x.1) (Vg x_2.2.1 s x_2.2.2 x_2.1)))))) (SM x.2.1/\SM x.2.2/\Bc (LN s<=LN s) ((∀(i:Nat),i<LN s->(List.all (dmR s x.1 i) fun (x:D)=>match x with | D.unk=>false | D.agg cs=>false | D.tup ds=>false | x=>true)=true)/\∀(t:Nat),True/\∃(y:Unit),True/\(LN s=LN (List.reverse s)/\(∀(i:Nat),i<LN s->dmR s x.1 i=[ZI (GI (List.reverse s) i)])/\True)/\True/\True))) (by kernel_rfl) ?_
 delta GI LI LN N0 N1 N6 NI SI SM Z0 Z1 ZI QjB QT Qci Kr QmM Qcj QmN QmO Qck QmP Qcl QjE QjC QjF ZB Qcm QjG QjH Qcn Qco ZC QjI KG Xo QmQ Vh QjJ QjK QjL Qcp QjM QjN QjO JE Vg Zz QjD Xp ZA
 simp only[eq_self,implies_true,Int.toNat_natCast,Bl,Be,decide_eq_true_eq,decide_eq_false_iff_not,true_and,and_true,exists_const,forall_const,Prod.exists]
 simp only[Bar]
 have g0:∀j,j<s.length->0<=s.getD j 0:=fun j hj=>hp _ (by rw[List.getD_eq_getElem?_getD,List.getElem?_eq_getElem hj];simp)
 refine⟨.inl (StTo.same _),⟨fun h0=>?_,fun h0=>⟨by rw[List.length_reverse];omega,fun i hi=>absurd hi (Nat.not_lt_zero i)⟩⟩,?_⟩
 ·have h0:0<s.length:=by omega
  have a0:=Uc h0
  rw[Nat.sub_zero] at a0
  rw[a0]
  refine⟨⟨by omega,by omega⟩,.inl (StTo.same _),⟨fun _ y c hc=>.inr ⟨1,y,c,⟨by omega,by omega,hc⟩,by omega,⟨rfl,rfl,rfl⟩,stV rfl fun i hi=>?_⟩,fun q=>absurd (Int.natCast_nonneg _) q⟩,?_⟩
  ·obtain rfl:i=0:=by omega
   rfl
  ·rintro ⟨m,v,c⟩ ⟨m1,m2,m3⟩
   dsimp only at m1 m2 m3 ⊢
   refine⟨fun hle=>⟨⟨Nat.le_refl _,by omega,by omega⟩,fun y c2 h2=>.inr ⟨m+1,y,c2,⟨by omega,by omega,h2⟩,by omega,⟨rfl,rfl,rfl⟩,stV rfl fun i hi=>?_⟩⟩,fun hgt=>⟨⟨⟨by omega,by omega⟩,by omega⟩,⟨by omega,by omega⟩,⟨by omega,by omega⟩,by omega,.inr ⟨1,v,c,⟨by omega,by omega,by omega⟩,by omega,⟨rfl,rfl,by omega,rfl⟩,?_⟩⟩⟩
   ·unfold Bp
    by_cases ei:i<m
    ·rw[if_pos ei]
    ·obtain rfl:i=m:=by omega
     rw[if_neg ei,Nat.sub_self];rfl
   ·obtain rfl:m=s.length:=by omega
    refine stV rfl fun j hj=>?_
    have:=BbU h0 j hj
    rw[<- this,Int.toNat_natCast,Nat.sub_zero]
    unfold BA
    split
    ·rfl
    ·unfold dmR mnR
     rw[if_neg (by omega)]
 ·rintro ⟨i,v,c⟩ ⟨i1,i2,i3⟩
  dsimp only at i1 i2 i3 ⊢
  refine⟨fun hlt=>?_,fun hge=>⟨Nat.le_refl _,fun _ _=>rfl,by rw[List.length_reverse],fun j hj=>?_⟩⟩
  ·have hlt:i<s.length:=by omega
   rw[Uc hlt]
   have hn:¬(s.length-i<=s.length-1-i):=by omega
   simp only[Int.toNat_natCast,if_neg hn]
   refine⟨⟨by omega,by omega⟩,fun q=>absurd q (by omega),fun _=>⟨⟨⟨by omega,by omega⟩,by omega,fun _=>rfl,fun q=>absurd (by decide) q⟩,fun _=>⟨⟨by omega,by omega⟩,⟨by omega,by omega⟩,by omega,.inr ⟨i+1,v,c,⟨by omega,by omega,i3⟩,by omega,⟨Bb (by omega) (by omega),rfl,rfl⟩,stV rfl fun j hj=>BbU hlt j hj⟩⟩,fun q=>absurd q (by simp)⟩⟩
  ·obtain rfl:i=s.length:=by omega
   rw[BdA hj]
   unfold dmR
   rw[if_pos (by omega)]
def trN(S:List Nat)(m:Nat):Nat:=hor 0 S (BK S.reverse m).reverse
theorem EY:∀S:List Nat,prL S.reverse=prL S
 | []=>rfl
 |d::S=>by rw[List.reverse_cons,Gr,EY S];simp[prL,Nat.mul_comm]
theorem Ta:∀(A:List Nat) (d m:Nat),BK (A++[d]) m=BK A (m / d)++[m % d]
 | [],d,m=>by simp[BK,prL]
 |e::A,d,m=>by
  rw[List.cons_append,BK,BK,Ta A d m,Gr]
  simp only[prL,Nat.mul_one,List.cons_append]
  rw[Nat.mul_comm (prL A) d,Nat.div_div_eq_div_mul]
theorem Uk:∀(S l:List Nat) (a:Nat),l.length=S.length->hor a S l=a*prL S+hor 0 S l
 | [],[],a,_=>by simp[hor,prL]
 |d::S,i::l,a,h=>by
  have h:l.length=S.length:=by simpa using h
  rw[hor,hor,Uk S l (a*d+i) h,Uk S l (0*d+i) h,prL,Nat.add_mul,Nat.zero_mul,Nat.zero_add,Nat.mul_assoc,Nat.add_assoc]
 | [],_::_,_,h=>by simp at h
 |_::_,[],_,h=>by simp at h
theorem GX(d:Nat)(R:List Nat)(m:Nat):trN (d::R) m=m % d*prL R+trN R (m / d):=by
 unfold trN
 rw[List.reverse_cons,Ta,List.reverse_append,List.reverse_singleton,List.singleton_append,hor,Nat.zero_mul,Nat.zero_add]
 exact Uk R _ _ (by simp[Ct])
theorem Mc:∀(S:List Nat) {m:Nat},m<prL S->trN S m<prL S
 | [],m,h=>by simp[trN,hor,prL]
 |d::R,m,h=>by
  have h:m<d*prL R:=h
  have hd:0<d:=Nat.pos_of_ne_zero fun e=>by rw[e,Nat.zero_mul] at h;exact absurd h (Nat.not_lt_zero _)
  have h1:m / d<prL R:=by rw[Nat.div_lt_iff_lt_mul hd,Nat.mul_comm];exact h
  have h2:=Mc R h1
  have h3:=Nat.mod_lt m hd
  rw[GX]
  calc m % d*prL R+trN R (m / d)<m % d*prL R+prL R:=by omega
   _=(m % d+1)*prL R:=by rw[Nat.add_mul,Nat.one_mul]
   _<=d*prL R:=Nat.mul_le_mul_right _ h3
theorem Baw:∀(S:List Nat) {p q:Nat},p<prL S->q<prL S->trN S p=trN S q->p=q
 | [],p,q,h1,h2,_=>by simp only[prL] at h1 h2;omega
 |d::R,p,q,h1,h2,e=>by
  have h1:p<d*prL R:=h1
  have h2:q<d*prL R:=h2
  have hd:0<d:=Nat.pos_of_ne_zero fun e=>by rw[e,Nat.zero_mul] at h1;exact absurd h1 (Nat.not_lt_zero _)
  have p1:p / d<prL R:=by rw[Nat.div_lt_iff_lt_mul hd,Nat.mul_comm];exact h1
  have q1:q / d<prL R:=by rw[Nat.div_lt_iff_lt_mul hd,Nat.mul_comm];exact h2
  have p2:=Mc R p1
  have q2:=Mc R q1
  rw[GX,GX,Nat.mul_comm (p % d),Nat.mul_comm (q % d)] at e
  have hR:0<prL R:=by omega
  have em:p % d=q % d:=by
   have:=congrArg (· / prL R) e
   simp only[Nat.mul_add_div hR,Nat.div_eq_of_lt p2,Nat.div_eq_of_lt q2,Nat.add_zero] at this
   exact this
  have er:trN R (p / d)=trN R (q / d):=by rw[em] at e;omega
  have:=Baw R p1 q1 er
  rw[<- Nat.div_add_mod p d,<- Nat.div_add_mod q d,this,em]
theorem Bcj:∀s:List Int,pzL s.reverse=pzL s
 | []=>rfl
 |d::s=>by
  rw[List.reverse_cons,Rz,Bcj s,pzL]
  simp only[pzL]
  split
  ·rw[Nat.mul_one]
  ·rw[Nat.mul_one,Nat.mul_comm]
theorem Ma{s:List Int}(h:Bi s=true):Bi s.reverse=true:=by
 obtain ⟨h1,h2,h3⟩:=(Bk s).1 h
 exact (Bk _).2 ⟨by rw[List.length_reverse];exact h1,fun d hd=>h2 d (List.mem_reverse.1 hd),by rw[Bcj];exact h3⟩
theorem Ep(s:List Int):shN s.reverse=(shN s).reverse:=by simp[shN]
def trA(a:Arr):Arr:=Ef a a.sh.reverse (trN (shN a.sh))
theorem On{a:Arr}(h:(Bj a).1=0)(ho:a.ok):(Bj (trA a)).1=0/\(trA a).ok/\wtA (trA a)=wtA a:=by
 have hs:=(Bs.1 (By h)).2.1
 have e:prL (shN a.sh.reverse)=prL (shN a.sh):=by rw[Ep,EY]
 exact TJ h ho (Ma hs) e (fun m hm=>by rw[e] at hm ⊢; exact Mc _ hm) fun p q hp hq=>by rw[e] at hp hq;exact Baw _ hp hq
theorem Bfn{a:Arr}(h:(Bj a).1=0):BM a a.sh.reverse (axR a.sh.length) (trN (shN a.sh)):=by
 obtain ⟨f1,f2,f3,f4⟩:=Bs.1 (By h)
 have e:prL (shN a.sh.reverse)=prL (shN a.sh):=by rw[Ep,EY]
 have hal:(axR a.sh.length).length=a.sh.reverse.length:=by simp[axR]
 have hag:∀j,j<a.sh.length->(axR a.sh.length).getD j 0=a.sh.length-1-j:=fun j hj=>by
  unfold axR
  rw[List.getD_eq_getElem?_getD,List.getElem?_map,List.getElem?_range hj];rfl
 have hix:∀m j,j<a.sh.length->ixM a.sh.reverse (axR a.sh.length) m j=(BK (shN a.sh).reverse m).reverse.getD j 0:=fun m j hj=>by
  unfold ixM
  rw[hag j hj,Ep,List.getD_eq_getElem?_getD,List.getD_eq_getElem?_getD,List.getElem?_reverse (by rw[Ct,List.length_reverse,BV];exact hj),Ct,List.length_reverse,BV]
 refine⟨f1,Ma f2,f2,List.length_reverse,hal,fun j hj=>?_,fun m hm=>?_,fun m hm j hj=>?_,fun m hm=>?_,fun hm=>by rw[e] at hm;exact hm,EI h⟩
 ·rw[List.length_reverse] at hj ⊢
  rw[hag j hj];omega
 ·rw[e] at hm
  rw[f3]
  exact Mc _ hm
 ·rw[List.length_reverse] at hj
  unfold ixM
  rw[hag j hj]
  have:=G6 m (by omega) (show a.sh.length-1-j<(shN a.sh.reverse).length by rw[BV,List.length_reverse];omega)
  have e2:(shN a.sh.reverse).getD (a.sh.length-1-j) 0=(shN a.sh).getD j 0:=by
   rw[Ep,List.getD_eq_getElem?_getD,List.getD_eq_getElem?_getD,List.getElem?_reverse (by rw[BV];omega),BV]
   congr 2
   omega
  rw[e2] at this
  exact this
 ·rw[List.length_reverse]
  unfold hpM trN
  have hl:(BK (shN a.sh).reverse m).reverse.length=(shN a.sh).length:=by simp[Ct]
  rw[<- RK hl,BV]
  exact GM _ fun j hj=>hix m j hj
theorem Bcr{α:Type}(l:List α)(z:α)(S:List Nat){m:Nat}(hm:m<prL S):((List.range (prL S)).map fun m=>l.getD (trN S m) z).getD m z=l.getD (trN S m) z:=by
 rw[List.getD_eq_getElem?_getD,List.getElem?_map,List.getElem?_range hm];rfl
def jeN(n1 n2:Nat)(b c:List Int)(j:Nat):Int:=if j % (n1+n2)<n1 then b.getD (j / (n1+n2)*n1+j % (n1+n2)) 0 else c.getD (j / (n1+n2)*n2+(j % (n1+n2)-n1)) 0
def jeI(n1 n2:Nat)(b c:List Arr)(j:Nat):Arr:=if j % (n1+n2)<n1 then b.getD (j / (n1+n2)*n1+j % (n1+n2)) default else c.getD (j / (n1+n2)*n2+(j % (n1+n2)-n1)) default
theorem BbL{z g:Nat->List D}{j:Nat}:Bp 0 z g j=g j:=by
 unfold Bp
 rw[if_neg (Nat.not_lt_zero j),Nat.sub_zero]
theorem Bes{q N j:Nat}(h1:q*N<=j)(h2:j<q*N+N):j / N=q/\j % N=j-q*N:=by
 have hN:0<N:=by omega
 have e:j=N*q+(j-q*N):=by rw[Nat.mul_comm N q];omega
 constructor
 ·rw[e,Nat.mul_add_div hN,Nat.div_eq_of_lt (by omega),Nat.add_zero]
 ·rw[e,Nat.mul_add_mod,Nat.mod_eq_of_lt (by omega)]
  rw[Nat.mul_comm N q];omega
theorem Bfq{n1 n2 q j:Nat}{b c:List Int}(h:j<q*(n1+n2)+n1+n2):Bp (q*(n1+n2)+n1) (Bp (q*(n1+n2)) (fun j=>[.int .i64 (jeN n1 n2 b c j)]) (nuS b (q*n1))) (nuS c (q*n2)) j=[D.int .i64 (jeN n1 n2 b c j)]:=by
 unfold Bp
 by_cases h1:j<q*(n1+n2)
 ·rw[if_pos (by omega),if_pos h1]
 ·obtain ⟨d,m⟩:=Bes (q:=q) (N:=n1+n2) (j:=j) (by omega) (by omega)
  unfold jeN nuS
  rw[d,m]
  by_cases h2:j<q*(n1+n2)+n1
  ·rw[if_pos h2,if_neg h1,if_pos (by omega)]
  ·rw[if_neg h2,if_neg (by omega)]
   congr 3
   omega
theorem Bct{n1 n2 q j:Nat}{b c:List Arr}(h:j<q*(n1+n2)+n1+n2):Bp (q*(n1+n2)+n1) (Bp (q*(n1+n2)) (fun j=>(jeI n1 n2 b c j).row1) (itS b (q*n1))) (itS c (q*n2)) j=(jeI n1 n2 b c j).row1:=by
 unfold Bp
 by_cases h1:j<q*(n1+n2)
 ·rw[if_pos (by omega),if_pos h1]
 ·obtain ⟨d,m⟩:=Bes (q:=q) (N:=n1+n2) (j:=j) (by omega) (by omega)
  unfold jeI itS
  rw[d,m]
  by_cases h2:j<q*(n1+n2)+n1
  ·rw[if_pos h2,if_neg h1,if_pos (by omega)]
  ·rw[if_neg h2,if_neg (by omega)]
   congr 3
   omega
theorem T7(i:List Int)(e:Nat):prL (shN (i++[(e:Int)]))=prL (shN i)*e:=by
 have:shN (i++[(e:Int)])=shN i++[e]:=by simp[shN]
 rw[this,Gr]
 simp[prL]
theorem Bed{a b b':Nat×Nat×AObj}{r:List (Nat×Nat×AObj)}{t t':Nat×Nat}(h:StTo ⟨[b],[t]⟩ ⟨[b'],[t']⟩):StTo ⟨a::b::r,[t]⟩ ⟨a::b'::r,[t']⟩ :=
 StTo.trans (StTo.trans GG (StTo.framed h _)) GB
theorem Bb6{a b c b' c':Nat×Nat×AObj}{r:List (Nat×Nat×AObj)}{t t':Nat×Nat}(h:StTo ⟨[b,c],[t]⟩ ⟨[b',c'],[t']⟩):StTo ⟨a::b::c::r,[t]⟩ ⟨a::b'::c'::r,[t']⟩ :=
 StTo.trans (StTo.trans Uj (StTo.framed h _)) Gq
theorem Bfu{a b c d e f g b':Nat×Nat×AObj}{t t':Nat×Nat}{tr:List (Nat×Nat)}(h:StTo ⟨[b],[t]⟩ ⟨[b'],[t']⟩):StTo ⟨[a,b,c,d,e,f,g],t::tr⟩ ⟨[a,b',c,d,e],[t']⟩:=by
 refine StTo.trans (StTo.trans (StTo.trans GG (StTo.framed h _)) GB) (StTo.perm (r1:=[f.2,g.2]) (r2:=tr.map (·.2)) ?_ ?_)
 ·simp
 ·simp
theorem Rg{K K2 x n m t k1:Nat}{kk sd:D}{f g h:Nat->List D}(e:n=m)(hf:∀j,j<n->f j=g j):StTo ⟨[(K,x,.cells [kk,sd,.sl 1 n f (.tok k1 t),.sl 1 0 h .nil])],[(K2,t)]⟩ ⟨[(17,x,.cells [kk,sd,.sl 1 m g (.tok 1 t),nlS])],[(1,t)]⟩:=by
 subst e
 refine StTo.posN ⟨⟨rfl,?_,trivial⟩,rfl,trivial⟩
 simp only[B4,Br,Bf,Ba,Bw,nlS,and_true]
 refine⟨Bd _,Bd _,⟨by simp,trivial,fun j hj=>hf j hj⟩,by simp⟩
theorem Rv{K K2 K3 K4 x t k1 k2 v len len2 cap:Nat}{g g2 f f2:Nat->List D}{kk sd:D}(e:len=len2)(hg:∀j,j<len->g j=g2 j):StTo ⟨[(K,x,.cells [kk,sd,.sl 1 0 f (.tok k1 t),.vs K3 v len cap 4]),(K2,v,.vec 4 len cap g)],[(k2,t)]⟩ ⟨[(17,x,.cells [kk,sd,.sl 1 0 f2 (.tok 1 t),.vs K4 v len2 cap 4]),(99,v,.vec 4 len2 cap g2)],[(1,t)]⟩:=by
 subst e
 refine StTo.posN ⟨⟨rfl,?_,rfl,?_,trivial⟩,rfl,trivial⟩
 ·simp only[B4,Br,Bf,Ba,Bw,and_true]
  exact⟨Bd _,Bd _,⟨by simp,trivial,fun j hj=>absurd hj (Nat.not_lt_zero j)⟩,by simp⟩
 ·simp only[B4,Ba,decide_true,true_and]
  exact hg
def jlA(x y:Arr)(i:List Int)(e1 e2:Nat):Arr:=.mk x.k (i++[((e1+e2:Nat):Int)]) (if x.k=3 then [] else (List.range (prL (shN i)*(e1+e2))).map (jeN e1 e2 x.nu y.nu)) (if x.k=3 then (List.range (prL (shN i)*(e1+e2))).map (jeI e1 e2 x.it y.it) else [])
structure JlH (x y:Arr) (i:List Int) (e1 e2:Nat):Prop where
 hx:(Bj x).1=0
 hy:(Bj y).1=0
 ox:x.ok
 oy:y.ok
 hk:x.k=y.k
 sx:x.sh=i++[(e1:Int)]
 sy:y.sh=i++[(e2:Int)]
 hr:Bi (i++[((e1+e2:Nat):Int)])=true
 hw:wtA x+wtA y<=262144
theorem JlH.r8{x y:Arr}{i:List Int}{e1 e2:Nat}(h:JlH x y i e1 e2):Bi x.sh=true/\Bi y.sh=true:=⟨(Bs.1 (By h.hx)).2.1,(Bs.1 (By h.hy)).2.1⟩
def rwQ(s:List Int)(d:D)(fr:Int):Prop:=wkL [d] [isl s .any]/\0<=fr/\fr<=s.length
def Bcp(x y:Arr)(s:List Int):Con:=fun k ds S=>match k with
 |40=>match ds with
  | [d,.int .i64 fr]=>some (pA ds S (.tup [.int .i64 (prL (shN (s.take fr.toNat)):Nat),.int .i64 (prL (shN (s.drop fr.toNat)):Nat)]) (rwQ s d fr))
  |_=>none
 |k=>Wj x y s k ds S
theorem Bcg{x y:Arr}{i:List Int}{e1 e2:Nat}(h:JlH x y i e1 e2):ConOk Try.prog (Bcp x y (i++[((e1+e2:Nat):Int)])):=by
 intro k ds S A hh
 obtain ⟨rx,ry⟩:=h.r8
 have lx:=((Bk _).1 rx).1
 have ly:=((Bk _).1 ry).1
 have nx:x.sh≠[]:=by rw[h.sx];simp
 have ny:y.sh≠[]:=by rw[h.sy];simp
 unfold Bcp at hh
 split at hh
 ·split at hh
  ·injection hh with hh;subst hh
   rename_i fr
   refine BD fun ⟨e,e2,e3⟩=>CD.at_ ?_ _
   obtain ⟨n,rfl⟩:=Int.eq_ofNat_of_zero_le e2
   refine CD.wk (Wn _ n h.hr (by omega)) ?_
   simp only[wkL] at e ⊢
   exact⟨e.1,BE _,trivial⟩
  ·cases hh
 unfold Wj at hh
 split at hh
 ·injection hh with hh;subst hh
  refine BD fun ⟨b,hb,e⟩=>CD.at_ (CD.wk ?_ e) _
  obtain rfl | rfl:=hb
  ·have:=GD _ h.ox
   rw[h.hx] at this;exact this
  ·have:=GD _ h.oy
   rw[h.hy] at this;exact this
 ·split at hh
  ·injection hh with hh;subst hh
   refine BD ?_
   rintro ⟨b,hb,e,⟨l,hl⟩,rfl,n,rfl⟩
   injection e with e0 e
   injection e with e1 e
   injection e with e2 e
   injection e with e3 e
   subst e0 e1 e2 e3
   refine CD.at_ (CD.wk (Bcv b l n ?_) ?_) _
   ·obtain rfl | rfl:=hb
    ·exact⟨nx,lx⟩
    ·exact⟨ny,ly⟩
   ·simp only[wkL] at hl ⊢
    exact⟨BE _,hl.1,BE _,BE _,trivial⟩
  ·cases hh
 ·injection hh with hh;subst hh
  exact FnSpec.fits_ok (fun _ hy=>UV _ _ hy) fun e=>by rw[e];exact⟨Bh _,Eh S⟩
 ·injection hh with hh;subst hh
  refine BD fun e=>CD.at_ (CD.wk ?_ e) _
  have:=Gb (i++[((e1+e2:Nat):Int)])
  rw[h.hr] at this;exact this
 ·injection hh with hh;subst hh
  refine Ce fun b ⟨e,hb⟩=>CD.at_ ?_ _
  rw[e]
  refine Bdi b b.sh ?_ ?_
  ·obtain rfl | rfl:=hb
   ·exact h.ox
   ·exact h.oy
  ·obtain rfl | rfl:=hb
   ·exact nx
   ·exact ny
 ·rename_i hne
  exact (hne rfl).elim
 ·cases hh
noncomputable def Ejl(x y:Arr)(i:List Int)(e1 e2:Nat):Senv:={ EC (Bcp x y (i++[((e1+e2:Nat):Int)])) 179 5 [6,7,8,9,10,11,12,13,14,15,16,17,18,19,20,21,22,30,38,45,68,86,87,88,105,129,163,164,165] (fun id=>match id with | 3=>([0,1,2,3,4,5,6,7],[]) | 12=>([0,1,2,3,4,6,7,8,9,10,5,11,12,13,14,15],[5,11,12,13,14,15]) | 17=>([0,1,2,3,4,5,6,7,8,9,10,11,12,13,14,15],[]) | 20=>([0,1,2,3,4,5,6,7,8,9,10,11],[11]) | 21=>([0,1,2,3,4,6,5,7,8,9,10],[1,5,7]) | 26=>([0,1,2,3,4,5,6,7,8,9,10,11,12,13,14,15,16],[15,16]) | _=>([],[])) with
 inl:=Go.Ab.inlA
 gz:=fun r=>match r with
  |21=>[.slot 14]
  |24=>[.cell 17 102]
  |_=>[]
 gr:=[.cell 2 403]
 cut:=fun id _env S=>match id with
  |8=>some { slots:=[10],keep:=[2,3,4,6,7,8,9],α:=Unit,st:=fun _=>([.int .i64 (x.sh.length:Nat)],S),inv:=fun _=>True,mu:=fun _=>0 }
  |11=>some { slots:=[11],keep:=[2,3,4,6,7,8,9,10],α:=Unit,st:=fun _=>([.int .i64 (i.length:Nat)],S),inv:=fun _=>True,mu:=fun _=>0 }
  |20=>match S.objs with
   |(17,v,.vec 1 n c _)::r=>some { slots:=[],keep:=[2,3,4,6,7,10,11,12,13,14],α:=Unit,st:=fun _=>([],⟨(17,v,.vec 1 n c fun j=>[.int .i64 ((i++[((e1+e2:Nat):Int)]).getD j 0)])::r,S.toks⟩),inv:=fun _=>True,mu:=fun _=>0 }
   |_=>none
  |12=>some { slots:=[12,13],keep:=[2,3,4,6,7,8,9,10,11],α:=Nat×Nat,st:=fun b=>([.ref 15 b.1 0,.ref 16 b.2 0],⟨(16,b.2,exO y y.sh)::(15,b.1,exO x x.sh)::S.objs,S.toks⟩),inv:=fun _=>True,mu:=fun _=>0 }
  |_=>none
 ann:=fun b _env S=>match b with
  |1=>some { slots:=[87],keep:=[2,3,4,6,7,8,9,10,11,12,13,14,86],α:=Nat,st:=fun i=>([.int .i64 i],S),inv:=fun i=>i<=x.sh.length,mu:=fun i=>x.sh.length-i }
  |_=>none
 ann2:=fun b _env S=>match b with
  |3=>match S with
   |⟨(k1, z, oz)::(_, xo, .cells [kk, sd, _, _])::o16::o15::o2::_, _::_⟩=>some (
     { slots:=[164],keep:=[6,7,12,13,16,21,163],α:=Nat×Nat,st:=fun q=>([.int .i64 q.1],⟨(k1,z,oz)::(17,xo,.cells [kk,sd,.sl 1 (cN x (q.1*(e1+e2))) (fun j=>[.int .i64 (jeN e1 e2 x.nu y.nu j)]) (.tok 1 q.2),nlS])::o16::o15::o2::[],[(1,q.2)]⟩),inv:=fun q=>q.1<=prL (shN i)/\(x.k=3->q.1*(e1+e2)=0),mu:=fun q=>prL (shN i)-q.1 },
     { slots:=[164],keep:=[6,7,12,13,16,21,163],α:=Nat×Nat×Nat×Nat,st:=fun q=>([.int .i64 q.1],⟨(k1,z,oz)::(17,xo,.cells [kk,sd,.sl 1 0 (fun _=>[]) (.tok 1 q.2.1),.vs 99 q.2.2.1 (q.1*(e1+e2)) q.2.2.2 4])::(99,q.2.2.1,.vec 4 (q.1*(e1+e2)) q.2.2.2 (fun j=>(jeI e1 e2 x.it y.it j).row1))::o16::o15::o2::[],[(1,q.2.1)]⟩),inv:=fun q=>q.1<=prL (shN i)/\x.k=3/\q.1*(e1+e2)<=q.2.2.2,mu:=fun q=>prL (shN i)-q.1 })
   |_=>none
  |_=>none }
def K8(a:Arr):Int:=Arr.k a
def Qg(a:Arr):D:=ZI (K8 a)
def Vi(a:Arr):List Int:=Arr.sh a
def Qs(a:Arr):Nat:=LN (Vi a)
def Qcq(a:Arr)(b:Nat):List D:=[ZI (GI (Vi a) b)]
def Vj(a:Arr):D:=D.sl N1 (Qs a) (fun i=>Qcq a i) Mode.any
def KH(a:Arr):List Int:=Arr.nu a
def Qcr(a:Arr):Nat:=LN (KH a)
def QjP(a:Arr)(b:Nat):List D:=[ZI (GI (KH a) b)]
def QjQ(a:Arr):D:=D.sl N1 (Qcr a) (fun i=>QjP a i) Mode.any
def QU(a:Arr):List Arr:=Arr.it a
def Qcs(a:Arr):Nat:=LN (QU a)
def ZD:Arr:=DA
def QjR(a:Arr)(b:Nat):List D:=Arr.row (List.getD (QU a) b ZD)
def QjS(a:Arr):D:=D.sl N4 (Qcs a) (fun i=>QjR a i) Mode.any
def ZE(a:Arr):List D:=[Qg a,Vj a,QjQ a,QjS a]
def QjT(a:Arr):D:=D.agg (ZE a)
def QjU(a:Arr):List D:=[QjT a]
def QjV(a b:Arr)(c:List Int)(d e:Nat):Prop:=N0=LN (Arr.nu (jlA a b c d e))/\(∀(i:Nat),i<N0->Cr (List D) [] [ZI (GI (Arr.nu (jlA a b c d e)) i)])/\True
def ZF(a b:Arr)(c:List Int)(d e f:Nat):Arr:=List.getD (Arr.it (jlA a b c d e)) f ZD
def QmR(a b:Arr)(c:List Int)(d e f:Nat):List Int:=Arr.sh (ZF a b c d e f)
def QmS(a b:Arr)(c:List Int)(d e f:Nat):List Int:=Arr.nu (ZF a b c d e f)
def QjW(a b:Arr)(c:List Int)(d e f:Nat):List Arr:=Arr.it (ZF a b c d e f)
def QjX(a b:Arr)(c:List Int)(d e f:Nat):List D:=[ZI (Arr.k (ZF a b c d e f)),SI (QmR a b c d e f),SI (QmS a b c d e f),D.sl N4 (LN (QjW a b c d e f)) (fun i=>Arr.row (List.getD (QjW a b c d e f) i ZD)) Mode.any]
def QjY(a b:Arr)(c:List Int)(d e:Nat):Prop:=(N0=LN (Arr.it (jlA a b c d e))/\(∀(i:Nat),i<N0->Cr (List D) [] (QjX a b c d e i))/\True)/\True
def ZG(a b:Arr)(c:List Int)(d e:Nat):Prop:=Z0=Arr.k (jlA a b c d e)/\(N0=LN (Arr.sh (jlA a b c d e))/\(∀(i:Nat),i<N0->Cr (List D) [] [ZI (GI (Arr.sh (jlA a b c d e)) i)])/\True)/\QjV a b c d e/\QjY a b c d e
def Qq(a:Arr):Int:=(NI (Qs a))
def ZH(a:Arr):Bool:=decide (Z0<Qq a)
def ZJ(a b:Arr):Bool:=decide (IntKind.wrap IntKind.i64 (Qq a+Z1)<Qq b)
def ZK(a b:Arr):Bool:=bif bif ZH a then ZH b else false then bif ZJ b a then true else ZJ a b else false
def QjZ(a b:Arr):Prop:=false=ZK a b/\True
def Qj0(a:Arr):Int:=if Z1<Qq a then Qq a else Z1
def Qct:Prop:=SM N0/\(∀(i:Nat),i<N0->Cr (List D) [] [])/\True
def Qj1(a:Arr):Prop:=SM (K8 a)
def Qcu(a:Arr):Prop:=SM (Qs a)
def ZL(a:Nat)(b:Arr):Prop:=a<Qs b
def Qj2(a:Arr):Prop:=∀(i:Nat),ZL i a->SM (Qcq a i)
def Qcv(a:Arr):Prop:=Qcu a/\Qj2 a/\True
def Qj3(a:Arr):Prop:=SM (Qcr a)/\(∀(i:Nat),i<Qcr a->SM (QjP a i))/\True
def Qj4(a:Arr):Prop:=SM (Qcs a)/\(∀(i:Nat),i<Qcs a->SM (QjR a i))/\True
def Qj5(a:Arr):Prop:=Qj1 a/\Qcv a/\Qj3 a/\Qj4 a/\True
def Qj6(a b:Nat)(c:Arr)(d:Nat)(e:Arr):Prop:=SM a/\(SM Z0/\Qct/\Qct/\Qct/\True)/\SM b/\Qj5 c/\SM d/\Qj5 e/\True
def Qj7(a b:Nat)(c:Arr)(d:Nat)(e:Arr):Prop:=Qj6 a b c d e/\True
def ZM(a b:Arr)(c:List Int):Prop:=exP a b (ZE a) (Vj b) (Qq a) (LI c)
def Q5(a:Nat)(b:Arr):Prop:=SM a/\SM (Vj b)
def Ks(a:Nat)(b:Arr):Prop:=SM a/\SM (QjT b)
def ZN(a b:Arr)(c:List Int):Prop:=exP a b (ZE b) (Vj a) (Qq a) (LI c)
def JF(a b c d:Nat):Prop:=a≠b/\c≠b/\d≠b/\True
def K9(a b c d e:Nat):Prop:=a≠b/\JF c b d e
def Qcw(a:Arr):Prop:=Qj1 a/\Qcv a/\Qj3 a/\Qj4 a/\Qcv a/\True
def Qj8(a:Arr)(b c:Nat)(d:Arr)(e:Nat):Prop:=Qcw a/\Qj6 b c d e a
def Qcx(a b:Nat)(c d:Arr)(e f g:Nat):Prop:=SM a/\SM b/\∃(x:Nat×Nat),True/\(a=x.1/\b=x.2/\True)/\(b=x.2/\Qcw c/\a=x.1/\Qj8 d e f c g)/\True
def Qj9(a b c d:Nat)(e f:Arr):Prop:=∀(x:Nat),K9 a x b c d->Qcx a x e f b c d
def Qka(a b c d:Nat)(e f:Arr):Prop:=∀(x:Nat),K9 a x b c d->Qcx x a e f b c d
def Qcy(a:Nat)(b:Arr)(c:Nat)(d:Arr)(e:List Int)(f g h:Nat):Prop:=Q5 a b/\Ks c d/\∃(_x:Unit),ZN b d e/\∀(_y:Unit),True->Qcx f g d b h c a
def Qkb(a:Nat)(b:Arr)(c:Nat)(d:Arr)(e:List Int)(f g:Nat):Prop:=Q5 a b/\Ks c d/\(∃(_x:Unit),ZN b d e/\∀(_y:Unit),True->Qj9 f g c a d b)/\∀(x:Nat),K9 f x g c a->Qcy a b c d e f x g
def Qkc(a:Nat)(b:Arr)(c:Nat)(d:Arr)(e:List Int)(f g:Nat):Prop:=Q5 a b/\Ks c d/\(∃(_x:Unit),ZN b d e/\∀(_y:Unit),True->Qka f g c a d b)/\∀(x:Nat),K9 f x g c a->Qcy a b c d e x f g
def Qkd(a:Nat)(b:Arr)(c:Nat)(d:Arr)(e:List Int)(f g h:Nat):Prop:=Q5 a b/\Ks c d/\Q5 c d/\Ks a b/\∃(_x:Unit),ZM b d e/\∀(_y:Unit),True->Qcy a b c d e f g h
def Qke(a:Arr):List D:=[Vj a]
def Qkf(a:Nat)(b:Arr)(c:Nat)(d:Arr)(e f g:Nat):Prop:=SM a/\Qcw b/\SM c/\Qj8 d e f b g
def Qkg(a:Nat)(b:Arr)(c d:Nat)(e:Arr)(f g h k:Nat):Prop:=(SM a/\(Qcu b/\SM c/\Qj2 b)/\Qkf d e f b g h k)/\True
def Qkh(a:Arr)(b:Nat)(c:Arr):Bool:=GI (Vi a) (Int.toNat (↑b:Int)) != GI (Vi c) (Int.toNat (↑b:Int))
def Qcz(a:Nat)(b:List Int)(c d:Arr):Bool:=bif (↑a:Int) != (LI b) then Qkh c a d else false
def QcA:Nat:=max (N1+N1) (max (N0+N1) N0)
def Qki(a:Nat):Prop:=SM (D.ref QcA a N0)
def ZO(a:Arr):Prop:=SM (ZI (Qq a))
def Qu(a b:Nat):Prop:=IntKind.wrap IntKind.i64 ((↑a:Int)+Z1)=(↑b:Int)/\True
def QcB(a:Arr)(b:List Int):Int:=GI (Vi a) (TL b)
def Vk(a:List Int)(b c:Nat):List Int:=a++[(NI (b+c))]
def ZP(a:List Int)(b c d:Nat):List D:=[ZI (GI (Vk a b c) d)]
def Qkj(a:D):Bool:=match a with | D.unk=>false | D.agg _cs=>false | D.tup _ds=>false | _x=>true
def Qf(a:Arr)(b:List Int)(c d e:Nat):D:=D.sl N1 (Qs a) (fun j=>ZP b c d j) (Mode.tok N0 e)
def QcC(a:Arr):List D:=Qg a::Vj a::QjQ a::QjS a::Qke a
def Qkk(a:Arr):D:=D.agg (QcC a)
def Qkl(a:Arr):List D:=[Qkk a]
def Qkm(a b:Arr):Prop:=Qkl a=Qkl b
def Kb(a:Arr):Prop:=K8 a=3
def Kt(a:Nat)(b:List Int)(c:Arr)(d e:Nat):Prop:=a<=prL (shN b)/\(Kb c->a*(d+e)=N0)
def ZQ:Nat:=max ((16:Nat)+N1) (max ((15:Nat)+N1) (max (3:Nat) QcA))
def Qkn:Nat:=max ((17:Nat)+N1) ZQ+nat_lit 15
def Qko(a:Arr)(b:List Int)(c d:Nat):Int:=IntKind.wrap IntKind.i64 (QcB a b*(NI (prL (shN (List.drop (Int.toNat (IntKind.wrap IntKind.i64 ((LI b)+Z1))) (Vk b c d))))))
def Qkp(a:Arr)(b:List Int)(c d:Nat):D:=ZI (Qko a b c d)
def Qh(a:Nat)(b:Arr)(c:List Int)(d e:Nat)(f:Arr):Nat×Nat×AObj:=(Qkn,a,AObj.cells [Qkp b c d e,Qkp f c d e])
def QV(a:Nat):D:=D.sl N1 N0 (fun _x=>[]) (Mode.tok N1 a)
def QcD:D:=D.sl N1 N0 (fun _x=>[]) Mode.nil
def Qr:List D:=[QcD]
def Qkq(a:Nat)(b:Arr):Nat×AObj:=(a,AObj.cells (QcC b))
def QcE(a:Nat)(b:Arr):Nat×Nat×AObj:=((16:Nat),Qkq a b)
def QcF(a:Nat)(b:Arr):Nat×Nat×AObj:=((15:Nat),Qkq a b)
def QcG(a:Nat):Nat×Nat×AObj:=(QcA,a,AObj.cells (ZI Z0::QcD::QcD::Qr))
def ZR(a:Nat)(b:Arr):Nat×AObj:=(a,AObj.cells (ZE b))
def KI(a:Arr)(b c d:Nat):Nat:=cN a (b*(c+d))
def Xq(a b:Nat)(c d:Arr)(e:Nat):List D:=[ZI (jeN a b (KH c) (KH d) e)]
def QL(a:Arr)(b c d:Nat)(e:Arr)(f:Nat):D:=D.sl N1 (KI a b c d) (fun j=>Xq c d a e j) (Mode.tok N1 f)
def Qj(a:Nat)(b:Arr)(c:Nat)(d:Arr)(e:Nat):List (Nat×Nat×AObj):=[QcE a b,QcF c d,QcG e]
def Qi(a:Nat):List (Nat×Nat):=[(N1,a)]
def Ku(a:Nat)(b:List Int)(c:Arr)(d e f:Nat):Prop:=a<=prL (shN b)/\Kb c/\a*(d+e)<=f
def ZS(a b:Nat)(c d:Arr)(e:Nat):Arr:=jeI a b (QU c) (QU d) e
def QmT(a b:Nat)(c d:Arr)(e:Nat):List Int:=Arr.sh (ZS a b c d e)
def QmU(a b:Nat)(c d:Arr)(e:Nat):List Int:=Arr.nu (ZS a b c d e)
def Qkr(a b:Nat)(c d:Arr)(e:Nat):List Arr:=Arr.it (ZS a b c d e)
def QW(a b:Nat)(c d:Arr)(e:Nat):List D:=[ZI (Arr.k (ZS a b c d e)),SI (QmT a b c d e),SI (QmU a b c d e),D.sl N4 (LN (Qkr a b c d e)) (fun i=>Arr.row (List.getD (Qkr a b c d e) i ZD)) Mode.any]
def Qks(a:List Int)(b c:Nat):Int:=(NI (prL (shN (List.take (TL a) (Vk a b c)))))
def Qkt(a:Nat)(b:List Int)(c d:Nat):Bool:=decide ((↑a:Int)<Qks b c d)
def Vl(a:Arr)(b:Arr×List Int×Nat×Nat):Prop:=Wz (QcC a) b
def Vm(a:Arr×List Int×Nat×Nat)(b c:Nat)(d:Arr)(e:List Int)(f g:Nat):Prop:=U4 a b b (↑c:Int) (Qko d e f g)
def QcH(a:Arr):Prop:=K8 a≠3
def Vn(a:Arr)(b c d e:Nat):Nat:=KI a b c d+e
def QmV(a:Nat):D:=D.ref ZQ a N0
def QmW(a:Nat):D:=D.ref Qkn a N0
def QmX(a:List Int)(b c:Nat):D:=ZI (Qks a b c)
def Ja(a b c d e:Nat)(f:List Int)(g h:Nat):Prop:=Qki a/\SM (ZI Z0)/\SM (D.ref (15:Nat) b N0)/\SM (D.ref (16:Nat) c N0)/\SM (QmV d)/\SM (QmW e)/\SM (QmX f g h)/\True
def QC(a:List Int)(b c:Nat):Prop:=prL (shN a)-b<prL (shN a)-c
def Vo(a:Arr)(b c d e:Nat)(f g:Arr)(h k:Nat):D:=D.sl N1 (Vn a b c d e) (Bp (KI a b c d) (fun j=>Xq c d a f j) (nuS (KH g) (h*e))) (Mode.tok N1 k)
def ZT(a b c:Nat)(d:Arr)(e f:Nat)(g:Arr)(h:Nat)(k:Arr)(l:Nat):List (Nat×Nat×AObj):=((99:Nat),a,AObj.vec N4 b c (itS (QU d) (e*b)))::Qj f g h k l
def Qku(a b:Arr)(c:List Int)(d e:Nat):Prop:=Qs a=LN (Arr.sh (jlA a b c d e))/\(∀(i:Nat),ZL i a->ZP c d e i=[ZI (GI (Arr.sh (jlA a b c d e)) i)])/\True
theorem Bfc(x y:Arr)(i:List Int)(e1 e2:Nat)(h:JlH x y i e1 e2):CD 20 [.agg x.row1,.agg y.row1,.bool true] (.tup [.agg (jlA x y i e1 e2).row2,.int .i64 0]):=by
 refine Bo (A:=sC _ _) (x:=()) (E:=Ejl x y i e1 e2) (evA (Bcg h) rfl) Try.func20 rfl (by kernel_rfl) rfl (by simp[sC,Ejl,EC,E0]) ?_
 refine Bu (T :=
  ∀(x_1:Nat),True->∀(x_2:Nat),x_1≠x_2/\True->∀(x_3:Nat),x_2≠x_3/\x_1≠x_3/\True->SM x_1/\∃(x_4:Unit),riP x y (QjU x)/\∀(y_1:Unit),True->SM x_2/\∃(x_5:Unit),riP x y (QjU y)/\∀(y_2:Unit),True->SM x_1/\SM x_2/\SM x_1/\SM x_2/\ifB (K8 x != K8 y) (SM x_3/\∀(t:Nat),(SM x_3/\True)/\∃(y_3:Unit),True/\(ZG x y i e1 e2/\(14:Int)=Z0/\True)/\True/\True) (ifB (ZH x) (ifB (ZH y) (ifB (ZJ y x) (true=ZK x y/\True) (ZJ x y=ZK x y/\True)) (QjZ x y)) (QjZ x y)/\ifB (ZK x y) (SM x_3/\∀(t:Nat),(SM x_3/\True)/\∃(y_3:Unit),True/\(ZG x y i e1 e2/\(15:Int)=Z0/\True)/\True/\True) ((∃(x_6:Unit),True/\((if Qj0 x<Qq y then Qq y else Qj0 x)=Qq x/\True)/\Qj7 x_3 x_2 y x_1 x)/\∀(x_6:Unit),True->(∃(x_7:Unit),True/\(IntKind.wrap IntKind.i64 (Qq x-Z1)=(LI i)/\True)/\Qj7 x_3 x_2 y x_1 x)/\∀(x_7:Unit),True->(SM x_1/\SM x_2/\SM x_2/\SM x_1/\(∃(x_8:Unit),ZM x y i/\∀(y_3:Unit),True->Q5 x_1 x/\Ks x_2 y/\(∃(x_9:Unit),ZN x y i/\∀(y_4:Unit),True->(∀(x_10:Nat),JF x_3 x_10 x_2 x_1->Qj9 x_10 x_3 x_2 x_1 y x)/\∀(x_10:Nat),JF x_3 x_10 x_2 x_1->Qka x_10 x_3 x_2 x_1 y x)/\(∀(x_9:Nat),JF x_3 x_9 x_2 x_1->Qkb x_1 x x_2 y i x_9 x_3)/\∀(x_9:Nat),JF x_3 x_9 x_2 x_1->Qkc x_1 x x_2 y i x_9 x_3)/\(∀(x_8:Nat),JF x_3 x_8 x_2 x_1->Q5 x_1 x/\Ks x_2 y/\Q5 x_2 y/\Ks x_1 x/\(∃(x_9:Unit),ZM x y i/\∀(y_3:Unit),True->Qkb x_1 x x_2 y i x_8 x_3)/\∀(x_9:Nat),K9 x_8 x_9 x_3 x_2 x_1->Qkd x_1 x x_2 y i x_8 x_9 x_3)/\∀(x_8:Nat),JF x_3 x_8 x_2 x_1->Q5 x_1 x/\Ks x_2 y/\Q5 x_2 y/\Ks x_1 x/\(∃(x_9:Unit),ZM x y i/\∀(y_3:Unit),True->Qkc x_1 x x_2 y i x_8 x_3)/\∀(x_9:Nat),K9 x_8 x_9 x_3 x_2 x_1->Qkd x_1 x x_2 y i x_9 x_8 x_3)/\∀(x_8:Nat×Nat),True->SM x_8.1/\(SM (Qke x)/\Vi x≠[]/\Qs x<=1000000)/\∀(y_3:Nat×Nat),Qs x<=y_3.2->(∃(x_9:Nat),x_9<=Qs x/\(Z0=(↑x_9:Int)/\True)/\Qkg y_3.1 x y_3.2 x_8.2 y x_8.1 x_3 x_2 x_1)/\∀(x_9:Nat),x_9<=Qs x->ifB (decide ((↑x_9:Int)<Qq x)) (ifB ((↑x_9:Int) != (LI i)) (SM x_8.1/\Bc (Z0<=(↑x_9:Int)/\(↑x_9:Int)<Qq x) (SM x_8.2/\Bc (Z0<=(↑x_9:Int)/\(↑x_9:Int)<Qq y) (Qkh x x_9 y=Qcz x_9 i x y/\True))) (false=Qcz x_9 i x y/\True)/\ifB (Qcz x_9 i x y) (SM x_3/\∀(t:Nat),(SM x_3/\True)/\∃(y_4:Unit),True/\(ZG x y i e1 e2/\(16:Int)=Z0/\True)/\True/\True) ((SM (D.bool true)/\SM (D.ref N0 x_1 N0)/\SM (D.ref (max (N0+N1) N0) x_2 N0)/\Qki x_3/\SM (ZI Z0)/\ZO x/\ZO y/\ZO x/\SM (ZI (LI i))/\SM (D.ref (15:Nat) x_8.1 N0)/\SM (D.ref (16:Nat) x_8.2 N0)/\SM (D.vs (17:Nat) y_3.1 (Qs x) y_3.2 N1)/\ZO x/\True)/\∃(y_4:Nat),y_4<=Qs x/\Qs x-y_4<Qs x-x_9/\Qu x_9 y_4/\Qkg y_3.1 x y_3.2 x_8.2 y x_8.1 x_3 x_2 x_1)) (Bc (Z0<=(LI i)/\(LI i)<Qq x) (SM y_3.1/\Bc (TL i<Qs x) (SM x_8.2/\Bc (Z0<=(LI i)/\(LI i)<Qq y) (Bc (Z0<=(LI i)/\(LI i)<Qq x) (SM y_3.1/\Bc (TL i<Qs x) (∃(x_10:Unit),True/\True/\(SM y_3.1/\(Qcu x/\SM y_3.2/\∀(i_1:Nat),ZL i_1 x->BA (fun i=>Qcq x i) (TL i) [ZI (IntKind.wrap IntKind.i64 (QcB x i+QcB y i))] i_1=ZP i e1 e2 i_1)/\Qkf x_8.2 y x_8.1 x x_3 x_2 x_1)/\True)))))/\∀(x_10:Unit),True->SM y_3.1/\SM y_3.2/\Bc (Qs x<=Qs x) ((∀(i_1:Nat),ZL i_1 x->(List.all (ZP i e1 e2 i_1) fun (x:D)=>Qkj x)=true)/\∀(t:Nat),∃(x_11:Unit),shP (Vk i e1 e2) [Qf x i e1 e2 t]/\∀(y_4:Unit),True->SM x_8.1/\SM x_8.2/\∃(x_12:Arr),(Qkm x x_12/\(x_12=x\/x_12=y))/\∀(y_5:Unit),True->(SM x_8.2/\SM (Qkk y))/\∃(x_13:Arr),(Qkm y x_13/\(x_13=x\/x_13=y))/\∀(y_6:Unit),True->ifB (decide ((262144:Int)<IntKind.wrap IntKind.i64 (wtA x_12+wtA x_13))) (SM x_3/\∀(t:Nat),(SM x_3/\True)/\∃(y_7:Unit),True/\(ZG x y i e1 e2/\(21:Int)=Z0/\True)/\True/\True) (SM x_1/\∀(x_14:Nat),x_8.2≠x_14/\K9 x_8.1 x_14 x_3 x_2 x_1->SM x_14/\∀(t_1:Nat),∃(x_15:Unit),rwQ (Vk i e1 e2) (Qf x i e1 e2 t) (LI i)/\∀(y_7:Unit),True->∃(x_16:Unit),rwQ (Vk i e1 e2) (Qf x i e1 e2 t) (IntKind.wrap IntKind.i64 ((LI i)+Z1))/\∀(y_8:Unit),True->SM x_8.1/\Bc (Z0<=(LI i)/\(LI i)<Qq x) (SM x_8.2/\Bc (Z0<=(LI i)/\(LI i)<Qq y) (∀(x_17:Nat),x_14≠x_17/\x_8.2≠x_17/\K9 x_8.1 x_17 x_3 x_2 x_1->Q5 x_8.2 y/\Q5 x_8.1 x/\SM x_17/\((∃(x_18:Nat×Nat),Kt x_18.1 i x e1 e2/\True/\(Z0=(NI x_18.1)/\True)/\StTo (St.mk [Qh x_17 x i e1 e2 y,(ZQ,x_14,AObj.cells (Qg x::Qf x i e1 e2 t::QV t_1::Qr)),QcE x_8.2 y,QcF x_8.1 x,QcG x_3,(max (N0+N1) N0,ZR x_2 y),(N0,ZR x_1 x)] [(N1,t_1),(N0,t)]) (St.mk (Qh x_17 x i e1 e2 y::((17:Nat),x_14,AObj.cells (Qg x::Qf x i e1 e2 t::QL x x_18.1 e1 e2 y x_18.2::Qr))::Qj x_8.2 y x_8.1 x x_3) (Qi x_18.2)))\/∃(x_18:Nat×Nat×Nat×Nat),Ku x_18.1 i x e1 e2 x_18.2.2.2/\True/\(Z0=(NI x_18.1)/\True)/\StTo (St.mk [Qh x_17 x i e1 e2 y,(ZQ,x_14,AObj.cells (Qg x::Qf x i e1 e2 t::QV t_1::Qr)),QcE x_8.2 y,QcF x_8.1 x,QcG x_3,(max (N0+N1) N0,ZR x_2 y),(N0,ZR x_1 x)] [(N1,t_1),(N0,t)]) (St.mk (Qh x_17 x i e1 e2 y::((17:Nat),x_14,AObj.cells [Qg x,Qf x i e1 e2 t,QV x_18.2.1,D.vs (99:Nat) x_18.2.2.1 (x_18.1*(e1+e2)) x_18.2.2.2 N4])::((99:Nat),x_18.2.2.1,AObj.vec N4 (x_18.1*(e1+e2)) x_18.2.2.2 fun j=>QW e1 e2 x y j)::Qj x_8.2 y x_8.1 x x_3) (Qi x_18.2.1)))/\(∀(x_18:Nat×Nat),Kt x_18.1 i x e1 e2->ifB (Qkt x_18.1 i e1 e2) (SM x_8.1/\SM x_17/\∃(q:Arr×List Int×Nat×Nat),(Vl x q/\Vm q x_14 x_18.1 x i e1 e2/\SM x_18.2/\KI x x_18.1 e1 e2<=1000000)/\(QcH q.1->∀(u':Nat),SM x_8.2/\SM x_17/\∃(q_1:Arr×List Int×Nat×Nat),(Vl y q_1/\Vm q_1 x_14 x_18.1 y i e1 e2/\SM u'/\Vn x x_18.1 e1 e2 q.2.2.2<=1000000)/\(QcH q_1.1->∀(u':Nat),Ja x_3 x_8.1 x_8.2 x_14 x_17 i e1 e2/\((∃(x_19:Nat×Nat),Kt x_19.1 i x e1 e2/\QC i x_19.1 x_18.1/\Qu x_18.1 x_19.1/\StTo (St.mk (Qh x_17 x i e1 e2 y::((17:Nat),x_14,AObj.cells (Qg x::Qf x i e1 e2 t::D.sl N1 (Vn x x_18.1 e1 e2 q.2.2.2+q_1.2.2.2) (Bp (Vn x x_18.1 e1 e2 q.2.2.2) (Bp (KI x x_18.1 e1 e2) (fun j=>Xq e1 e2 x y j) (nuS (KH q.1) (q.2.2.1*q.2.2.2))) (nuS (KH q_1.1) (q_1.2.2.1*q_1.2.2.2))) (Mode.tok N1 u')::Qr))::Qj x_8.2 y x_8.1 x x_3) (Qi u')) (St.mk (Qh x_17 x i e1 e2 y::((17:Nat),x_14,AObj.cells (Qg x::Qf x i e1 e2 t::QL x x_19.1 e1 e2 y x_19.2::Qr))::Qj x_8.2 y x_8.1 x x_3) (Qi x_19.2)))\/∃(x_19:Nat×Nat×Nat×Nat),Ku x_19.1 i x e1 e2 x_19.2.2.2/\QC i x_19.1 x_18.1/\Qu x_18.1 x_19.1/\StTo (St.mk (Qh x_17 x i e1 e2 y::((17:Nat),x_14,AObj.cells (Qg x::Qf x i e1 e2 t::D.sl N1 (Vn x x_18.1 e1 e2 q.2.2.2+q_1.2.2.2) (Bp (Vn x x_18.1 e1 e2 q.2.2.2) (Bp (KI x x_18.1 e1 e2) (fun j=>Xq e1 e2 x y j) (nuS (KH q.1) (q.2.2.1*q.2.2.2))) (nuS (KH q_1.1) (q_1.2.2.1*q_1.2.2.2))) (Mode.tok N1 u')::Qr))::Qj x_8.2 y x_8.1 x x_3) (Qi u')) (St.mk (Qh x_17 x i e1 e2 y::((17:Nat),x_14,AObj.cells [Qg x,Qf x i e1 e2 t,QV x_19.2.1,D.vs (99:Nat) x_19.2.2.1 (x_19.1*(e1+e2)) x_19.2.2.2 N4])::((99:Nat),x_19.2.2.1,AObj.vec N4 (x_19.1*(e1+e2)) x_19.2.2.2 fun j=>QW e1 e2 x y j)::Qj x_8.2 y x_8.1 x x_3) (Qi x_19.2.1))))/\(Kb q_1.1->q_1.2.2.2=N0->Ja x_3 x_8.1 x_8.2 x_14 x_17 i e1 e2/\((∃(x_19:Nat×Nat),Kt x_19.1 i x e1 e2/\QC i x_19.1 x_18.1/\Qu x_18.1 x_19.1/\StTo (St.mk (Qh x_17 x i e1 e2 y::((17:Nat),x_14,AObj.cells (Qg x::Qf x i e1 e2 t::Vo x x_18.1 e1 e2 q.2.2.2 y q.1 q.2.2.1 u'::Qr))::Qj x_8.2 y x_8.1 x x_3) (Qi u')) (St.mk (Qh x_17 x i e1 e2 y::((17:Nat),x_14,AObj.cells (Qg x::Qf x i e1 e2 t::QL x x_19.1 e1 e2 y x_19.2::Qr))::Qj x_8.2 y x_8.1 x x_3) (Qi x_19.2)))\/∃(x_19:Nat×Nat×Nat×Nat),Ku x_19.1 i x e1 e2 x_19.2.2.2/\QC i x_19.1 x_18.1/\Qu x_18.1 x_19.1/\StTo (St.mk (Qh x_17 x i e1 e2 y::((17:Nat),x_14,AObj.cells (Qg x::Qf x i e1 e2 t::Vo x x_18.1 e1 e2 q.2.2.2 y q.1 q.2.2.1 u'::Qr))::Qj x_8.2 y x_8.1 x x_3) (Qi u')) (St.mk (Qh x_17 x i e1 e2 y::((17:Nat),x_14,AObj.cells [Qg x,Qf x i e1 e2 t,QV x_19.2.1,D.vs (99:Nat) x_19.2.2.1 (x_19.1*(e1+e2)) x_19.2.2.2 N4])::((99:Nat),x_19.2.2.1,AObj.vec N4 (x_19.1*(e1+e2)) x_19.2.2.2 fun j=>QW e1 e2 x y j)::Qj x_8.2 y x_8.1 x x_3) (Qi x_19.2.1))))/\(Kb q_1.1->N0<q_1.2.2.2->∀(v c:Nat),q_1.2.2.2<=c->Ja x_3 x_8.1 x_8.2 x_14 x_17 i e1 e2/\((∃(x_19:Nat×Nat),Kt x_19.1 i x e1 e2/\QC i x_19.1 x_18.1/\Qu x_18.1 x_19.1/\StTo (St.mk (Qh x_17 x i e1 e2 y::((17:Nat),x_14,AObj.cells [Qg x,Qf x i e1 e2 t,Vo x x_18.1 e1 e2 q.2.2.2 y q.1 q.2.2.1 u',D.vs (99:Nat) v q_1.2.2.2 c N4])::ZT v q_1.2.2.2 c q_1.1 q_1.2.2.1 x_8.2 y x_8.1 x x_3) (Qi u')) (St.mk (Qh x_17 x i e1 e2 y::((17:Nat),x_14,AObj.cells (Qg x::Qf x i e1 e2 t::QL x x_19.1 e1 e2 y x_19.2::Qr))::Qj x_8.2 y x_8.1 x x_3) (Qi x_19.2)))\/∃(x_19:Nat×Nat×Nat×Nat),Ku x_19.1 i x e1 e2 x_19.2.2.2/\QC i x_19.1 x_18.1/\Qu x_18.1 x_19.1/\StTo (St.mk (Qh x_17 x i e1 e2 y::((17:Nat),x_14,AObj.cells [Qg x,Qf x i e1 e2 t,Vo x x_18.1 e1 e2 q.2.2.2 y q.1 q.2.2.1 u',D.vs (99:Nat) v q_1.2.2.2 c N4])::ZT v q_1.2.2.2 c q_1.1 q_1.2.2.1 x_8.2 y x_8.1 x x_3) (Qi u')) (St.mk (Qh x_17 x i e1 e2 y::((17:Nat),x_14,AObj.cells [Qg x,Qf x i e1 e2 t,QV x_19.2.1,D.vs (99:Nat) x_19.2.2.1 (x_19.1*(e1+e2)) x_19.2.2.2 N4])::((99:Nat),x_19.2.2.1,AObj.vec N4 (x_19.1*(e1+e2)) x_19.2.2.2 fun j=>QW e1 e2 x y j)::Qj x_8.2 y x_8.1 x x_3) (Qi x_19.2.1)))))/\(Kb q.1->q.2.2.2=N0->SM x_8.2/\SM x_17/\∃(q:Arr×List Int×Nat×Nat),(Vl y q/\Vm q x_14 x_18.1 y i e1 e2/\SM x_18.2/\KI x x_18.1 e1 e2<=1000000)/\(QcH q.1->∀(u':Nat),Ja x_3 x_8.1 x_8.2 x_14 x_17 i e1 e2/\((∃(x_19:Nat×Nat),Kt x_19.1 i x e1 e2/\QC i x_19.1 x_18.1/\Qu x_18.1 x_19.1/\StTo (St.mk (Qh x_17 x i e1 e2 y::((17:Nat),x_14,AObj.cells (Qg x::Qf x i e1 e2 t::Vo x x_18.1 e1 e2 q.2.2.2 y q.1 q.2.2.1 u'::Qr))::Qj x_8.2 y x_8.1 x x_3) (Qi u')) (St.mk (Qh x_17 x i e1 e2 y::((17:Nat),x_14,AObj.cells (Qg x::Qf x i e1 e2 t::QL x x_19.1 e1 e2 y x_19.2::Qr))::Qj x_8.2 y x_8.1 x x_3) (Qi x_19.2)))\/∃(x_19:Nat×Nat×Nat×Nat),Ku x_19.1 i x e1 e2 x_19.2.2.2/\QC i x_19.1 x_18.1/\Qu x_18.1 x_19.1/\StTo (St.mk (Qh x_17 x i e1 e2 y::((17:Nat),x_14,AObj.cells (Qg x::Qf x i e1 e2 t::Vo x x_18.1 e1 e2 q.2.2.2 y q.1 q.2.2.1 u'::Qr))::Qj x_8.2 y x_8.1 x x_3) (Qi u')) (St.mk (Qh x_17 x i e1 e2 y::((17:Nat),x_14,AObj.cells [Qg x,Qf x i e1 e2 t,QV x_19.2.1,D.vs (99:Nat) x_19.2.2.1 (x_19.1*(e1+e2)) x_19.2.2.2 N4])::((99:Nat),x_19.2.2.1,AObj.vec N4 (x_19.1*(e1+e2)) x_19.2.2.2 fun j=>QW e1 e2 x y j)::Qj x_8.2 y x_8.1 x x_3) (Qi x_19.2.1))))/\(Kb q.1->q.2.2.2=N0->Ja x_3 x_8.1 x_8.2 x_14 x_17 i e1 e2/\((∃(x_19:Nat×Nat),Kt x_19.1 i x e1 e2/\QC i x_19.1 x_18.1/\Qu x_18.1 x_19.1/\StTo (St.mk (Qh x_17 x i e1 e2 y::((17:Nat),x_14,AObj.cells (Qg x::Qf x i e1 e2 t::QL x x_18.1 e1 e2 y x_18.2::Qr))::Qj x_8.2 y x_8.1 x x_3) (Qi x_18.2)) (St.mk (Qh x_17 x i e1 e2 y::((17:Nat),x_14,AObj.cells (Qg x::Qf x i e1 e2 t::QL x x_19.1 e1 e2 y x_19.2::Qr))::Qj x_8.2 y x_8.1 x x_3) (Qi x_19.2)))\/∃(x_19:Nat×Nat×Nat×Nat),Ku x_19.1 i x e1 e2 x_19.2.2.2/\QC i x_19.1 x_18.1/\Qu x_18.1 x_19.1/\StTo (St.mk (Qh x_17 x i e1 e2 y::((17:Nat),x_14,AObj.cells (Qg x::Qf x i e1 e2 t::QL x x_18.1 e1 e2 y x_18.2::Qr))::Qj x_8.2 y x_8.1 x x_3) (Qi x_18.2)) (St.mk (Qh x_17 x i e1 e2 y::((17:Nat),x_14,AObj.cells [Qg x,Qf x i e1 e2 t,QV x_19.2.1,D.vs (99:Nat) x_19.2.2.1 (x_19.1*(e1+e2)) x_19.2.2.2 N4])::((99:Nat),x_19.2.2.1,AObj.vec N4 (x_19.1*(e1+e2)) x_19.2.2.2 fun j=>QW e1 e2 x y j)::Qj x_8.2 y x_8.1 x x_3) (Qi x_19.2.1))))/\(Kb q.1->N0<q.2.2.2->∀(v c:Nat),q.2.2.2<=c->Ja x_3 x_8.1 x_8.2 x_14 x_17 i e1 e2/\((∃(x_19:Nat×Nat),Kt x_19.1 i x e1 e2/\QC i x_19.1 x_18.1/\Qu x_18.1 x_19.1/\StTo (St.mk (Qh x_17 x i e1 e2 y::((17:Nat),x_14,AObj.cells [Qg x,Qf x i e1 e2 t,QL x x_18.1 e1 e2 y x_18.2,D.vs (99:Nat) v q.2.2.2 c N4])::ZT v q.2.2.2 c q.1 q.2.2.1 x_8.2 y x_8.1 x x_3) (Qi x_18.2)) (St.mk (Qh x_17 x i e1 e2 y::((17:Nat),x_14,AObj.cells (Qg x::Qf x i e1 e2 t::QL x x_19.1 e1 e2 y x_19.2::Qr))::Qj x_8.2 y x_8.1 x x_3) (Qi x_19.2)))\/∃(x_19:Nat×Nat×Nat×Nat),Ku x_19.1 i x e1 e2 x_19.2.2.2/\QC i x_19.1 x_18.1/\Qu x_18.1 x_19.1/\StTo (St.mk (Qh x_17 x i e1 e2 y::((17:Nat),x_14,AObj.cells [Qg x,Qf x i e1 e2 t,QL x x_18.1 e1 e2 y x_18.2,D.vs (99:Nat) v q.2.2.2 c N4])::ZT v q.2.2.2 c q.1 q.2.2.1 x_8.2 y x_8.1 x x_3) (Qi x_18.2)) (St.mk (Qh x_17 x i e1 e2 y::((17:Nat),x_14,AObj.cells [Qg x,Qf x i e1 e2 t,QV x_19.2.1,D.vs (99:Nat) x_19.2.2.1 (x_19.1*(e1+e2)) x_19.2.2.2 N4])::((99:Nat),x_19.2.2.1,AObj.vec N4 (x_19.1*(e1+e2)) x_19.2.2.2 fun j=>QW e1 e2 x y j)::Qj x_8.2 y x_8.1 x x_3) (Qi x_19.2.1)))))/\(Kb q.1->N0<q.2.2.2->∀(v c:Nat),q.2.2.2<=c->SM x_8.2/\SM x_17/\∃(q_1:Arr×List Int×Nat×Nat),(Vl y q_1/\Vm q_1 x_14 x_18.1 y i e1 e2/\SM x_18.2/\SM v/\SM q.2.2.2/\SM c/\q.2.2.2<=1000000/\q.2.2.2<=c/\Kb q_1.1)/\∀(v2 c:Nat),q.2.2.2+q_1.2.2.2<=c->Ja x_3 x_8.1 x_8.2 x_14 x_17 i e1 e2/\((∃(x_19:Nat×Nat),Kt x_19.1 i x e1 e2/\QC i x_19.1 x_18.1/\Qu x_18.1 x_19.1/\StTo (St.mk (Qh x_17 x i e1 e2 y::((17:Nat),x_14,AObj.cells [Qg x,Qf x i e1 e2 t,QL x x_18.1 e1 e2 y x_18.2,D.vs (99:Nat) v2 (q.2.2.2+q_1.2.2.2) c N4])::((99:Nat),v2,AObj.vec N4 (q.2.2.2+q_1.2.2.2) c (Bp q.2.2.2 (itS (QU q.1) (q.2.2.1*q.2.2.2)) (itS (QU q_1.1) (q_1.2.2.1*q_1.2.2.2))))::Qj x_8.2 y x_8.1 x x_3) (Qi x_18.2)) (St.mk (Qh x_17 x i e1 e2 y::((17:Nat),x_14,AObj.cells (Qg x::Qf x i e1 e2 t::QL x x_19.1 e1 e2 y x_19.2::Qr))::Qj x_8.2 y x_8.1 x x_3) (Qi x_19.2)))\/∃(x_19:Nat×Nat×Nat×Nat),Ku x_19.1 i x e1 e2 x_19.2.2.2/\QC i x_19.1 x_18.1/\Qu x_18.1 x_19.1/\StTo (St.mk (Qh x_17 x i e1 e2 y::((17:Nat),x_14,AObj.cells [Qg x,Qf x i e1 e2 t,QL x x_18.1 e1 e2 y x_18.2,D.vs (99:Nat) v2 (q.2.2.2+q_1.2.2.2) c N4])::((99:Nat),v2,AObj.vec N4 (q.2.2.2+q_1.2.2.2) c (Bp q.2.2.2 (itS (QU q.1) (q.2.2.1*q.2.2.2)) (itS (QU q_1.1) (q_1.2.2.1*q_1.2.2.2))))::Qj x_8.2 y x_8.1 x x_3) (Qi x_18.2)) (St.mk (Qh x_17 x i e1 e2 y::((17:Nat),x_14,AObj.cells [Qg x,Qf x i e1 e2 t,QV x_19.2.1,D.vs (99:Nat) x_19.2.2.1 (x_19.1*(e1+e2)) x_19.2.2.2 N4])::((99:Nat),x_19.2.2.1,AObj.vec N4 (x_19.1*(e1+e2)) x_19.2.2.2 fun j=>QW e1 e2 x y j)::Qj x_8.2 y x_8.1 x x_3) (Qi x_19.2.1))))) (SM x_14/\SM x_3/\∀(t:Nat),(SM x_3/\True)/\∃(y_9:Unit),True/\((K8 x=Arr.k (jlA x y i e1 e2)/\Qku x y i e1 e2/\(KI x x_18.1 e1 e2=LN (Arr.nu (jlA x y i e1 e2))/\(∀(i_1:Nat),i_1<KI x x_18.1 e1 e2->Xq e1 e2 x y i_1=[ZI (GI (Arr.nu (jlA x y i e1 e2)) i_1)])/\True)/\QjY x y i e1 e2)/\SM Z0/\True)/\True/\True))/\∀(x_18:Nat×Nat×Nat×Nat),Ku x_18.1 i x e1 e2 x_18.2.2.2->ifB (Qkt x_18.1 i e1 e2) (SM x_8.1/\SM x_17/\∃(q:Arr×List Int×Nat×Nat),(Vl x q/\Vm q x_14 x_18.1 x i e1 e2/\SM x_18.2.1/\SM x_18.2.2.1/\SM (x_18.1*(e1+e2))/\SM x_18.2.2.2/\x_18.1*(e1+e2)<=1000000/\x_18.1*(e1+e2)<=x_18.2.2.2/\Kb q.1)/\∀(v2 c:Nat),x_18.1*(e1+e2)+q.2.2.2<=c->SM x_8.2/\SM x_17/\∃(q_1:Arr×List Int×Nat×Nat),(Vl y q_1/\Vm q_1 x_14 x_18.1 y i e1 e2/\SM x_18.2.1/\SM v2/\SM (x_18.1*(e1+e2)+q.2.2.2)/\SM c/\x_18.1*(e1+e2)+q.2.2.2<=1000000/\x_18.1*(e1+e2)+q.2.2.2<=c/\Kb q_1.1)/\∀(v2 c:Nat),x_18.1*(e1+e2)+q.2.2.2+q_1.2.2.2<=c->Ja x_3 x_8.1 x_8.2 x_14 x_17 i e1 e2/\((∃(x_19:Nat×Nat),Kt x_19.1 i x e1 e2/\QC i x_19.1 x_18.1/\Qu x_18.1 x_19.1/\StTo (St.mk (Qh x_17 x i e1 e2 y::((17:Nat),x_14,AObj.cells [Qg x,Qf x i e1 e2 t,QV x_18.2.1,D.vs (99:Nat) v2 (x_18.1*(e1+e2)+q.2.2.2+q_1.2.2.2) c N4])::((99:Nat),v2,AObj.vec N4 (x_18.1*(e1+e2)+q.2.2.2+q_1.2.2.2) c (Bp (x_18.1*(e1+e2)+q.2.2.2) (Bp (x_18.1*(e1+e2)) (fun j=>QW e1 e2 x y j) (itS (QU q.1) (q.2.2.1*q.2.2.2))) (itS (QU q_1.1) (q_1.2.2.1*q_1.2.2.2))))::Qj x_8.2 y x_8.1 x x_3) (Qi x_18.2.1)) (St.mk (Qh x_17 x i e1 e2 y::((17:Nat),x_14,AObj.cells (Qg x::Qf x i e1 e2 t::QL x x_19.1 e1 e2 y x_19.2::Qr))::Qj x_8.2 y x_8.1 x x_3) (Qi x_19.2)))\/∃(x_19:Nat×Nat×Nat×Nat),Ku x_19.1 i x e1 e2 x_19.2.2.2/\QC i x_19.1 x_18.1/\Qu x_18.1 x_19.1/\StTo (St.mk (Qh x_17 x i e1 e2 y::((17:Nat),x_14,AObj.cells [Qg x,Qf x i e1 e2 t,QV x_18.2.1,D.vs (99:Nat) v2 (x_18.1*(e1+e2)+q.2.2.2+q_1.2.2.2) c N4])::((99:Nat),v2,AObj.vec N4 (x_18.1*(e1+e2)+q.2.2.2+q_1.2.2.2) c (Bp (x_18.1*(e1+e2)+q.2.2.2) (Bp (x_18.1*(e1+e2)) (fun j=>QW e1 e2 x y j) (itS (QU q.1) (q.2.2.1*q.2.2.2))) (itS (QU q_1.1) (q_1.2.2.1*q_1.2.2.2))))::Qj x_8.2 y x_8.1 x x_3) (Qi x_18.2.1)) (St.mk (Qh x_17 x i e1 e2 y::((17:Nat),x_14,AObj.cells [Qg x,Qf x i e1 e2 t,QV x_19.2.1,D.vs (99:Nat) x_19.2.2.1 (x_19.1*(e1+e2)) x_19.2.2.2 N4])::((99:Nat),x_19.2.2.1,AObj.vec N4 (x_19.1*(e1+e2)) x_19.2.2.2 fun j=>QW e1 e2 x y j)::Qj x_8.2 y x_8.1 x x_3) (Qi x_19.2.1)))) (SM x_14/\SM x_3/\SM x_18.2.2.1/\SM x_18.2.2.2/\Bc (x_18.1*(e1+e2)<=x_18.1*(e1+e2)) ((∀(i:Nat),i<x_18.1*(e1+e2)->(List.all (QW e1 e2 x y i) fun (x:D)=>Qkj x)=true)/\∀(t:Nat),(SM x_3/\True)/\∃(y_9:Unit),True/\((K8 x=Arr.k (jlA x y i e1 e2)/\Qku x y i e1 e2/\QjV x y i e1 e2/\(x_18.1*(e1+e2)=LN (Arr.it (jlA x y i e1 e2))/\(∀(i_1:Nat),i_1<x_18.1*(e1+e2)->QW e1 e2 x y i_1=QjX x y i e1 e2 i_1)/\True)/\True)/\SM Z0/\True)/\True/\True)))))))))) (by kernel_rfl) ?_
 delta DA GI LI LN N0 N1 N4 NI SI SM TL Z0 Z1 ZI K8 Qg QU Qkr QW Qks Qkt Vl Vm QcH Vn QmV QmW Qcs QmX Ja QC Vo ZT Qku ZD QjR QjS ZE QjT QjU QjV ZF Vi QmR QmS QjW QjX QjY ZG Qq ZH ZJ ZK Qs QjZ Qj0 Qct Qj1 Qcu ZL Qj2 Qcv Qj3 Qj4 Qcq Qj5 Qj6 Qj7 ZM Q5 Ks ZN JF K9 Qcw Vj Qj8 Qcx Qj9 Qka Qcy Qkb Qkc Qkd Qke Qkf KH Qkg Qkh Qcz QcA Qki ZO Qu QcB Vk ZP Qcr Qkj Qf QcC Qkk Qkl Qkm Kb Kt ZQ Qkn QjP Qko Qkp Qh QV QcD Qr Qkq QcE QcF QcG QjQ ZR KI Xq QL Qj Qi Ku ZS QmT QmU
 have da:(default:Arr)=Arr.mk 0 [] [] []:=rfl
 simp only[<- da]
 simp only[ne_eq,implies_true,Int.toNat_natCast,Bl,Be,decide_eq_true_eq,decide_eq_false_iff_not,true_and,and_true,bne_iff_ne,bne_eq_false_iff_eq,exists_const,forall_const,Prod.exists]
 obtain ⟨rx,ry⟩:=h.r8
 have lx:=((Bk _).1 rx).1
 have sl:x.sh.length=i.length+1:=by rw[h.sx];simp
 have sl2:y.sh.length=i.length+1:=by rw[h.sy];simp
 have nx:x.sh≠[]:=by rw[h.sx];simp
 have ny:y.sh≠[]:=by rw[h.sy];simp
 have gx:x.sh.getD i.length 0=e1:=by rw[h.sx];simp[List.getD_eq_getElem?_getD]
 have gy:y.sh.getD i.length 0=e2:=by rw[h.sy];simp[List.getD_eq_getElem?_getD]
 have gj:∀ {e:Int} {j:Nat},j≠i.length->(i++[e]).getD j 0=i.getD j 0:=fun {e j} hj=>by
  rw[List.getD_eq_getElem?_getD,List.getD_eq_getElem?_getD]
  by_cases hlt:j<i.length
  ·rw[List.getElem?_append_left hlt]
  ·rw[List.getElem?_eq_none (by simp;omega),List.getElem?_eq_none (by omega)]
 have hti:∀j:Nat,j≠i.length->x.sh.getD j 0=y.sh.getD j 0:=fun j hj=>by rw[h.sx,h.sy,gj hj,gj hj]
 have hrk:(if (if (1:Int)<(x.sh.length:Int) then (x.sh.length:Int) else 1)<(y.sh.length:Int) then (y.sh.length:Int) else if (1:Int)<(x.sh.length:Int) then (x.sh.length:Int) else 1)=(x.sh.length:Int):=by
  split<;>split<;>omega
 have w1:IntKind.i64.wrap ((y.sh.length:Int)+1)=(y.sh.length:Int)+1:=Bb (by omega) (by omega)
 have w2:IntKind.i64.wrap ((x.sh.length:Int)+1)=(x.sh.length:Int)+1:=Bb (by omega) (by omega)
 have w3:IntKind.i64.wrap ((x.sh.length:Int)-1)=(i.length:Int):=by rw[Bb (by omega) (by omega)];omega
 have w4:IntKind.i64.wrap ((i.length:Int)+1)=((i.length+1:Nat):Int):=by rw[Bb (by omega) (by omega)];omega
 simp only[hrk,w1,w2,w3,w4]
 have hb:(bif bif decide (0<(x.sh.length:Int)) then decide (0<(y.sh.length:Int)) else false then bif decide ((y.sh.length:Int)+1<(x.sh.length:Int)) then true else decide ((x.sh.length:Int)+1<(y.sh.length:Int)) else false)=false:=by
  rw[decide_eq_false (show ¬((y.sh.length:Int)+1<(x.sh.length:Int)) by omega),decide_eq_false (show ¬((x.sh.length:Int)+1<(y.sh.length:Int)) by omega)]
  cases (bif decide (0<(x.sh.length:Int)) then decide (0<(y.sh.length:Int)) else false)<;>rfl
 have hb2:∀j:Nat,(bif ((j:Int) != (i.length:Int)) then x.sh.getD j 0 != y.sh.getD j 0 else false)=false:=fun j=>by
  by_cases hj:j=i.length
  ·rw[hj,bne_self_eq_false];rfl
  ·rw[hti j hj]
   cases ((j:Int) != (i.length:Int))<;>simp
 have hx1:exP x y [D.int .i64 x.k,isl x.sh .any,isl x.nu .any,gsl 4 Arr.row x.it] (isl y.sh .any) (x.sh.length:Nat) (i.length:Nat):=⟨x,.inl rfl,rfl,⟨y.sh,Bg _⟩,rfl,i.length,rfl⟩
 have hy1:exP x y [D.int .i64 y.k,isl y.sh .any,isl y.nu .any,gsl 4 Arr.row y.it] (isl x.sh .any) (x.sh.length:Nat) (i.length:Nat):=⟨y,.inr rfl,rfl,⟨x.sh,Bg _⟩,by rw[sl,sl2],i.length,rfl⟩
 have hs12:=((Bk _).1 h.hr).2.1 (e1+e2:Nat) (by simp)
 have wd:IntKind.i64.wrap (x.sh.getD i.length 0+y.sh.getD i.length 0)=((e1+e2:Nat):Int):=by
  rw[gx,gy,<- Int.natCast_add];exact Bb (by omega) (by omega)
 simp only[wd]
 have hsl:(i++[((e1+e2:Nat):Int)]).length=x.sh.length:=by rw[sl];simp
 have hup:∀j,BA (fun j=>[D.int .i64 (x.sh.getD j 0)]) i.length [D.int .i64 ((e1+e2:Nat):Int)] j=[D.int .i64 ((i++[((e1+e2:Nat):Int)]).getD j 0)]:=fun j=>by
  unfold BA
  by_cases hj:j=i.length
  ·rw[if_pos hj,hj];simp[List.getD_eq_getElem?_getD]
  ·rw[if_neg hj]
   show [D.int .i64 (x.sh.getD j 0)]=_
   rw[h.sx,gj hj,gj hj]
 have hsh:∀m,wkL [D.sl 1 x.sh.length (fun j=>[D.int .i64 ((i++[((e1+e2:Nat):Int)]).getD j 0)]) m] [isl (i++[((e1+e2:Nat):Int)]) .any]:=fun m=>by
  simp only[isl,wkL,wkD,Ba]
  exact⟨⟨by simp,hsl.symm,fun j _=>⟨Bd _,trivial⟩,by simp[Bw]⟩,trivial⟩
 refine fun b1 b2 _ b3 _=>⟨⟨x,.inl rfl,Bg _⟩,⟨y,.inr rfl,Bg _⟩,fun e=>absurd h.hk e,fun _=>⟨?_,fun e=>absurd e (by rw[hb];simp),fun _=>?_⟩⟩
 ·simp only[hb]
  exact⟨fun _=>⟨fun _=>⟨fun q=>absurd q (by omega),fun _=>decide_eq_false (by omega)⟩,fun _=>trivial⟩,fun _=>trivial⟩
 refine⟨trivial,trivial,?_,?_⟩
 ·repeat' (first | exact⟨_,_,⟨rfl,rfl⟩,rfl,rfl⟩ | exact hx1 | exact hy1 | (intro _) | refine And.intro ?_ ?_)
 rintro ⟨u1,u2⟩
 refine⟨⟨nx,by omega⟩,fun y3 hy3=>⟨⟨0,Nat.zero_le _,rfl⟩,fun j hj=>⟨fun hlt=>⟨⟨fun hne=>⟨⟨by omega,by omega⟩,⟨by omega,by omega⟩,?_⟩,fun e=>(hb2 j).symm⟩,fun e=>absurd e (by rw[hb2];simp),fun _=>⟨j+1,by omega,by omega,Bb (by omega) (by omega)⟩⟩,fun hge=>?_⟩⟩⟩
 ·rw[hb2,hti j (by omega)];simp
 refine⟨⟨⟨by omega,by omega⟩,by omega,⟨by omega,by omega⟩,⟨by omega,by omega⟩,by omega,fun j _=>hup j⟩,Nat.le_refl _,fun _ _=>rfl,fun t=>⟨hsh _,x,⟨rfl,.inl rfl⟩,y,⟨rfl,.inr rfl⟩,fun e=>absurd e ?_,fun _ b4 _ t1=>⟨⟨hsh _,by omega,by omega⟩,⟨hsh _,by omega,by omega⟩,⟨by omega,by omega⟩,⟨by omega,by omega⟩,fun b5 _=>?_⟩⟩⟩
 ·have:=B0 x
  have:=B0 y
  have hw:=h.hw
  rw[Bb (by omega) (by omega)]
  omega
 have hd1:(i++[((e1+e2:Nat):Int)]).drop (i.length+1)=[]:=List.drop_eq_nil_of_le (by simp)
 have hd2:(i++[((e1+e2:Nat):Int)]).take i.length=i:=by simp
 simp only[Int.toNat_natCast,hd1,hd2,gx,gy]
 clear hx1 hy1 hb hb2 hti hup hsh w1 w2 w3 w4 wd hrk gj gx gy
 have pN:=Ea h.hr
 rw[T7] at pN
 obtain ⟨_,_,fx3,fx4⟩:=Bs.1 (By h.hx)
 obtain ⟨_,_,fy3,fy4⟩:=Bs.1 (By h.hy)
 rw[h.sx,T7] at fx3
 rw[h.sy,T7] at fy3
 rw[<- h.hk] at fy3 fy4
 have zx:=fun a b c d=>(Cn (k:=a) (s:=b) (n:=c) (is:=d))
 have bx:x.nu.length<=1000000/\x.it.length<=1000000:=by
  have hx:=h.hx
  cases hxx:x with
  |mk k s n l=>rw[hxx] at hx;have:=Cn hx;exact⟨by show n.length<=_;omega,by show l.length<=_;omega⟩
 have by':y.nu.length<=1000000/\y.it.length<=1000000:=by
  have hx:=h.hy
  cases hxx:y with
  |mk k s n l=>rw[hxx] at hx;have:=Cn hx;exact⟨by show n.length<=_;omega,by show l.length<=_;omega⟩
 have P1:=Ea (GO h.hr i.length).1
 rw[hd2] at P1
 generalize hP:prL (shN i)=P at *
 have hmul:∀ {q e:Nat},q<P->q*e+e<=P*e:=fun {q e} hq=>by
  have:=Nat.mul_le_mul_right e (Nat.succ_le_of_lt hq)
  rwa [Nat.succ_mul] at this
 have hPe:P*(e1+e2)=P*e1+P*e2:=Nat.mul_add _ _ _
 have PX:∀ {q:Nat},q<P->Wz [D.int .i64 x.k,isl x.sh .any,isl x.nu .any,gsl 4 Arr.row x.it,isl x.sh .any] (x,x.sh,q,e1):=fun {q} hq=>⟨Bg _,nx,EI h.hx,by show q*e1+e1<=_;rw[fx3];exact hmul hq,bx.1,bx.2⟩
 have PY:∀ {q:Nat},q<P->Wz [D.int .i64 y.k,isl y.sh .any,isl y.nu .any,gsl 4 Arr.row y.it,isl y.sh .any] (y,y.sh,q,e2):=fun {q} hq=>⟨Bg _,ny,EI h.hy,by show q*e2+e2<=(if y.k=3 then _ else _);rw[<- h.hk,fy3];exact hmul hq,by'.1,by'.2⟩
 have pe:(prL (shN []):Nat)=1:=rfl
 have e12:e1<=65536/\e2<=65536:=by omega
 have m1:IntKind.i64.wrap ((e1:Int)*((prL (shN []):Nat):Int))=(e1:Nat):=by rw[pe,show (e1:Int)*((1:Nat):Int)=(e1:Int) by simp];exact Bb (by omega) (by omega)
 have m2:IntKind.i64.wrap ((e2:Int)*((prL (shN []):Nat):Int))=(e2:Nat):=by rw[pe,show (e2:Int)*((1:Nat):Int)=(e2:Int) by simp];exact Bb (by omega) (by omega)
 rw[m1,m2]
 have P6:P*(e1+e2)<=65536:=pN
 have jsl:x.sh.length=(jlA x y i e1 e2).sh.length:=hsl.symm
 have nn:∀ {p:Nat->Prop} (i:Nat),i<0->p i:=fun i hi=>absurd hi (Nat.not_lt_zero i)
 have jn3:x.k=3->(jlA x y i e1 e2).nu=[]:=fun hk=>if_pos hk
 have jnn:x.k≠3->(jlA x y i e1 e2).nu=(List.range (P*(e1+e2))).map (jeN e1 e2 x.nu y.nu):=fun hk=>by rw[<- hP];exact if_neg hk
 have ji3:x.k=3->(jlA x y i e1 e2).it=(List.range (P*(e1+e2))).map (jeI e1 e2 x.it y.it):=fun hk=>by rw[<- hP];exact if_pos hk
 have jin:x.k≠3->(jlA x y i e1 e2).it=[]:=fun hk=>if_neg hk
 have gm:∀ {α:Type} (f:Nat->α) (z:α) {n j:Nat},j<n->((List.range n).map f).getD j z=f j:=by
  intro α f z n j hj
  rw[List.getD_eq_getElem?_getD,List.getElem?_map,List.getElem?_range hj];rfl
 refine⟨.inl ⟨0,t1,⟨Nat.zero_le _,fun _=>by simp⟩,rfl,?_⟩,?_,?_⟩
 ·apply Bfu
  refine Rg ?_ fun j hj=>absurd hj (Nat.not_lt_zero j)
  unfold cN;split<;>simp
 ·rintro ⟨q,u⟩ ⟨hq,hq0⟩
  dsimp only at hq hq0 ⊢
  refine⟨fun hlt=>?_,fun hge=>?_⟩
  ·have hlt:q<P:=by omega
   have hqN:=hmul (e:=e1+e2) hlt
   have wq:IntKind.i64.wrap ((q:Int)+1)=((q+1:Nat):Int):=Bb (by omega) (by omega)
   have cq:∀m,x.k≠3->cN x m=m:=fun m hk=>if_neg hk
   have cz:∀m,x.k=3->cN x m=0:=fun m hk=>if_pos hk
   refine⟨x,x.sh,q,e1,⟨PX hlt,⟨rfl,rfl,rfl⟩,?_⟩,fun hk u2=>?_,fun hk h0=>?_,fun hk hp c hc=>?_⟩
   ·unfold cN;split<;>omega
   ·rw[cq _ hk]
    have hk2:¬y.k=3:=by rw[<- h.hk];exact hk
    refine⟨y,y.sh,q,e2,⟨PY hlt,⟨rfl,rfl,rfl⟩,by omega⟩,fun _ u3=>.inl ⟨q+1,u3,⟨by omega,fun e=>absurd e hk⟩,by omega,wq,?_⟩,fun e=>absurd e hk2,fun e=>absurd e hk2⟩
    apply Bed
    rw[cq _ hk]
    have e:q*(e1+e2)+e1+e2=(q+1)*(e1+e2):=by rw[Nat.succ_mul];omega
    exact Rg e fun j hj=>Bfq hj
   ·have hk2:y.k=3:=by rw[<- h.hk];exact hk
    rw[cz _ hk]
    refine⟨y,y.sh,q,e2,⟨PY hlt,⟨rfl,rfl,rfl⟩,by omega⟩,fun e=>absurd hk2 e,fun _ h2=>.inl ⟨q+1,u,⟨by omega,fun _=>by rw[h0,h2];simp⟩,by omega,wq,?_⟩,fun _ hp v c hc=>.inr ⟨q+1,u,v,c,⟨by omega,hk,?_⟩,by omega,wq,?_⟩⟩
    ·apply Bed
     rw[cz _ hk]
     exact Rg rfl fun j hj=>absurd hj (Nat.not_lt_zero j)
    ·have hq1:=hq0 hk
     have:q=0:=(Nat.mul_eq_zero.1 hq1).resolve_right (by omega)
     rw[this,h0,Nat.zero_add,Nat.one_mul,Nat.zero_add];exact hc
    ·have hq1:=hq0 hk
     have:q=0:=(Nat.mul_eq_zero.1 hq1).resolve_right (by omega)
     subst this h0
     apply Bb6
     refine Rv (by omega) fun j hj=>?_
     have:=Bct (n1:=0) (n2:=e2) (q:=0) (b:=x.it) (c:=y.it) (j:=j) (by omega)
     rw[show 0*(0+e2)+0=0 by simp,BbL] at this
     exact this
   ·have hk2:y.k=3:=by rw[<- h.hk];exact hk
    have hq1:=hq0 hk
    have:q=0:=(Nat.mul_eq_zero.1 hq1).resolve_right (by omega)
    subst this
    rw[cz _ hk]
    refine⟨y,y.sh,0,e2,⟨PY hlt,⟨rfl,rfl,rfl⟩,by omega,hc,hk2⟩,fun v2 c2 h2=>.inr ⟨0+1,u,v2,c2,⟨by omega,hk,by omega⟩,by omega,wq,?_⟩⟩
    apply Bb6
    refine Rv (by omega) fun j hj=>?_
    have:=Bct (n1:=e1) (n2:=e2) (q:=0) (b:=x.it) (c:=y.it) (j:=j) (by omega)
    rw[Nat.zero_mul,Nat.zero_add] at this
    refine Eq.trans ?_ this
    simp[Bp]
  ·obtain rfl:q=P:=by omega
   refine⟨rfl,⟨jsl,fun j _=>rfl⟩,?_⟩
   by_cases hk:x.k=3
   ·have hz:=hq0 hk
    rw[show cN x (q*(e1+e2))=0 from if_pos hk,jn3 hk,ji3 hk]
    exact⟨⟨rfl,nn⟩,by rw[List.length_map,List.length_range,hz],nn⟩
   ·rw[show cN x (q*(e1+e2))=q*(e1+e2) from if_neg hk,jnn hk,jin hk]
    exact⟨⟨by rw[List.length_map,List.length_range],fun j hj=>by rw[gm _ _ hj]⟩,rfl,nn⟩
 ·rintro ⟨q,u,v,c⟩ ⟨hq,hk,hc⟩
  dsimp only at hq hk hc ⊢
  have hk2:y.k=3:=by rw[<- h.hk];exact hk
  refine⟨fun hlt=>?_,fun hge=>?_⟩
  ·have hlt:q<P:=by omega
   have hqN:=hmul (e:=e1+e2) hlt
   have wq:IntKind.i64.wrap ((q:Int)+1)=((q+1:Nat):Int):=Bb (by omega) (by omega)
   refine⟨x,x.sh,q,e1,⟨PX hlt,⟨rfl,rfl,rfl⟩,by omega,hc,hk⟩,fun c2 h2=>⟨y,y.sh,q,e2,⟨PY hlt,⟨rfl,rfl,rfl⟩,by omega,h2,hk2⟩,fun v3 c3 h3=>.inr ⟨q+1,u,v3,c3,⟨by omega,hk,by rw[Nat.succ_mul];omega⟩,by omega,wq,?_⟩⟩⟩
   apply Bb6
   have e:q*(e1+e2)+e1+e2=(q+1)*(e1+e2):=by rw[Nat.succ_mul];omega
   exact Rv e fun j hj=>Bct hj
  ·obtain rfl:q=P:=by omega
   refine⟨Nat.le_refl _,fun _ _=>rfl,rfl,⟨jsl,fun j _=>rfl⟩,?_⟩
   rw[jn3 hk,ji3 hk]
   exact⟨⟨rfl,nn⟩,by rw[List.length_map,List.length_range],fun j hj=>by rw[gm _ _ hj]⟩
theorem Bbe{α : Type}(z : α)(P d1 d2 : Nat)(R : List Nat)(hP : prL R=P){l1 l2 : List α}(h1 : l1.length=d1*P){j : Nat}(hj : j<P*(d1+d2)) :
  (l1++l2).getD (trN ((d1+d2)::R) j) z=(if j % (d1+d2)<d1 then ((List.range (prL (d1::R))).map fun m=>l1.getD (trN (d1::R) m) z).getD (j / (d1+d2)*d1+j % (d1+d2)) z else ((List.range (prL (d2::R))).map fun m=>l2.getD (trN (d2::R) m) z).getD (j / (d1+d2)*d2+(j % (d1+d2)-d1)) z):=by
 have hD:0<d1+d2:=Nat.pos_of_ne_zero fun e=>by rw[e,Nat.mul_zero] at hj;exact absurd hj (Nat.not_lt_zero _)
 have hq:j / (d1+d2)<P:=by rw[Nat.div_lt_iff_lt_mul hD];exact hj
 have hm:=Nat.mod_lt j hD
 have hρ:=Mc R (show j / (d1+d2)<prL R by rw[hP];exact hq)
 rw[hP] at hρ
 rw[GX,hP]
 generalize j / (d1+d2)=q at *
 generalize j % (d1+d2)=p at *
 have hblk:∀ {d a:Nat},a<d->q*d+a<prL (d::R)/\trN (d::R) (q*d+a)=a*P+trN R q:=fun {d a} ha=>by
  have hd:0<d:=by omega
  constructor
  ·show q*d+a<d*prL R
   rw[hP]
   calc q*d+a<q*d+d:=by omega
    _=(q+1)*d:=by rw[Nat.add_mul,Nat.one_mul]
    _<=P*d:=Nat.mul_le_mul_right _ hq
    _=d*P:=Nat.mul_comm _ _
  ·rw[GX,hP,Nat.mul_comm q d,Nat.mul_add_mod,Nat.mod_eq_of_lt ha,Nat.mul_add_div hd,Nat.div_eq_of_lt ha,Nat.add_zero]
 by_cases hp:p<d1
 ·rw[if_pos hp]
  obtain ⟨b1,b2⟩:=hblk hp
  rw[Bcr _ _ _ b1,b2]
  have:p*P+trN R q<d1*P:=by
   calc p*P+trN R q<p*P+P:=by omega
    _=(p+1)*P:=by rw[Nat.add_mul,Nat.one_mul]
    _<=d1*P:=Nat.mul_le_mul_right _ hp
  rw[List.getD_eq_getElem?_getD,List.getD_eq_getElem?_getD,List.getElem?_append_left (by omega)]
 ·rw[if_neg hp]
  obtain ⟨b1,b2⟩:=hblk (d:=d2) (a:=p-d1) (by omega)
  rw[Bcr _ _ _ b1,b2]
  have e:p*P+trN R q=l1.length+((p-d1)*P+trN R q):=by
   rw[h1,<- Nat.add_assoc,<- Nat.add_mul,show d1+(p-d1)=p by omega]
  rw[e,List.getD_eq_getElem?_getD,List.getD_eq_getElem?_getD,List.getElem?_append_right (by omega),Nat.add_sub_cancel_left]
theorem Bff{x y:Arr}{s:List Int}(h:JoH x y s):trA (joA x y)=jlA (trA x) (trA y) x.sh.tail.reverse (x.sh.headD 0).toNat (y.sh.headD 0).toNat/\JlH (trA x) (trA y) x.sh.tail.reverse (x.sh.headD 0).toNat (y.sh.headD 0).toNat:=by
 obtain ⟨hx,hy,ox,oy,hk,nx,ny,ht,hs,hr,hw⟩:=h
 obtain ⟨v1,v2,v3⟩:=On hx ox
 obtain ⟨w1,w2,w3⟩:=On hy oy
 cases x with
 |mk k s1 nu1 it1 =>
  cases y with
  |mk k2 s2 nu2 it2 =>
   have hk:k=k2:=hk
   subst hk
   cases s1 with
   |nil=>exact (nx rfl).elim
   |cons d1 r =>
    cases s2 with
    |nil=>exact (ny rfl).elim
    |cons d2 r2 =>
     have ht:r=r2:=ht
     subst ht
     have hs:s=(d1+d2)::r:=hs
     subst hs
     obtain ⟨g1,g2,g3,g4⟩:=Bs.1 (Cb hx).1
     obtain ⟨j1,j2,j3,j4⟩:=Bs.1 (Cb hy).1
     have p1:=((Bk _).1 g2).2.1 d1 (by simp)
     have p2:=((Bk _).1 j2).2.1 d2 (by simp)
     have c1:((d1.toNat:Nat):Int)=d1:=Int.toNat_of_nonneg p1.1
     have c2:((d2.toNat:Nat):Int)=d2:=Int.toNat_of_nonneg p2.1
     have c3:((d1.toNat+d2.toNat:Nat):Int)=d1+d2:=by omega
     have e4:(d1+d2).toNat=d1.toNat+d2.toNat:=by omega
     have n1:shN (d1::r)=d1.toNat::shN r:=by simp[shN]
     have n2:shN (d2::r)=d2.toNat::shN r:=by simp[shN]
     have n3:shN ((d1+d2)::r)=(d1.toNat+d2.toNat)::shN r:=by simp[shN,e4]
     have l1:prL (shN (d1::r))=d1.toNat*prL (shN r):=by rw[n1];rfl
     have l2:prL (shN (d2::r))=d2.toNat*prL (shN r):=by rw[n2];rfl
     rw[l1] at g3
     rw[l2] at j3
     refine⟨?_,⟨v1,w1,v2,w2,rfl,?_,?_,?_,by rw[v3,w3];exact hw⟩⟩
     ·have eP:prL (shN ((d1+d2)::r).reverse)=prL (shN r.reverse)*(d1.toNat+d2.toNat):=by
       rw[Ep,EY,n3,Ep,EY]
       exact Nat.mul_comm _ _
      have eR:prL (shN r.reverse)=prL (shN r):=by rw[Ep,EY]
      have q1:prL (shN (d1::r).reverse)=prL (d1.toNat::shN r):=by rw[Ep,EY,n1]
      have q2:prL (shN (d2::r).reverse)=prL (d2.toNat::shN r):=by rw[Ep,EY,n2]
      show Arr.mk k ((d1+d2)::r).reverse (if k=3 then [] else (List.range (prL (shN ((d1+d2)::r).reverse))).map fun m=>(nu1++nu2).getD (trN (shN ((d1+d2)::r)) m) 0) (if k=3 then (List.range (prL (shN ((d1+d2)::r).reverse))).map fun m=>(it1++it2).getD (trN (shN ((d1+d2)::r)) m) default else [])
       = Arr.mk k (r.reverse++[((d1.toNat+d2.toNat:Nat):Int)]) (if k=3 then [] else (List.range (prL (shN r.reverse)*(d1.toNat+d2.toNat))).map (jeN d1.toNat d2.toNat (if k=3 then [] else (List.range (prL (shN (d1::r).reverse))).map fun m=>nu1.getD (trN (shN (d1::r)) m) 0) (if k=3 then [] else (List.range (prL (shN (d2::r).reverse))).map fun m=>nu2.getD (trN (shN (d2::r)) m) 0)))
        (if k=3 then (List.range (prL (shN r.reverse)*(d1.toNat+d2.toNat))).map (jeI d1.toNat d2.toNat (if k=3 then (List.range (prL (shN (d1::r).reverse))).map fun m=>it1.getD (trN (shN (d1::r)) m) default else []) (if k=3 then (List.range (prL (shN (d2::r).reverse))).map fun m=>it2.getD (trN (shN (d2::r)) m) default else [])) else [])
      rw[eP,q1,q2,n1,n2,n3,c3,List.reverse_cons,eR]
      by_cases hk:k=3
      ·rw[if_pos hk] at g3
       simp only[if_pos hk]
       congr 1
       refine List.map_congr_left fun j hj=>?_
       exact Bbe default _ _ _ _ rfl g3 (List.mem_range.1 hj)
      ·rw[if_neg hk] at g3
       simp only[if_neg hk]
       congr 1
       refine List.map_congr_left fun j hj=>?_
       exact Bbe 0 _ _ _ _ rfl g3 (List.mem_range.1 hj)
     ·show (d1::r).reverse=r.reverse++[((d1.toNat:Nat):Int)]
      rw[c1,List.reverse_cons]
     ·show (d2::r).reverse=r.reverse++[((d2.toNat:Nat):Int)]
      rw[c2,List.reverse_cons]
     ·show Bi (r.reverse++[((d1.toNat+d2.toNat:Nat):Int)])=true
      rw[c3,<- List.reverse_cons]
      exact Ma hr
def axF(n i:Nat):Nat->List D:=fun j=>[.int .i64 (if j<i then ((n-1-j:Nat):Int) else 0)]
def tyP(y:Arr)(ds:List D):Prop:=wkL ds [.agg y.row1]
def dmP(y:Arr)(ds:List D):Prop:=wkL ds [isl (Eo (axR y.sh.length)) .any,isl y.sh .any]
def mvP(y:Arr)(ds:List D):Prop:=wkL ds [isl (Eo (axR y.sh.length)) .any,.agg y.row1,isl y.sh.reverse .any]
def BcS(y:Arr):Con:=fun k ds S=>match k with
 |21=>some (pA ds S (.int .i64 0) (tyP y ds))
 |25=>some (pA ds S (isl y.sh.reverse .any) (dmP y ds))
 |24=>some (pA ds S (.agg (trA y).row1) (mvP y ds))
 |_=>none
theorem Bbm{y:Arr}(h:(Bj y).1=0)(ho:y.ok):ConOk Try.prog (BcS y):=by
 intro k ds S A hh
 have hs:=(Bs.1 (By h)).2.1
 obtain ⟨h8,h2,_⟩:=(Bk _).1 hs
 unfold BcS at hh
 split at hh
 ·injection hh with hh;subst hh
  refine BD fun e=>CD.at_ (CD.wk ?_ e) _
  have:=GD _ ho
  rw[h] at this;exact this
 ·injection hh with hh;subst hh
  exact BD fun e=>CD.at_ (CD.wk (BfL y.sh h8 fun d hd=>(h2 d hd).1) e) _
 ·injection hh with hh;subst hh
  exact BD fun e=>CD.at_ (CD.wk (BfG y y.sh.reverse _ _ (Bfn h)) e) _
 ·cases hh
noncomputable def Etr(y:Arr):Senv:={ EC (BcS y) 35 6 [8,16,17,18] (fun id=>match id with | 10=>([0,1,2,3,4,5,6,7],[5,6,7]) | _=>([],[])) with
 gz:=fun r=>match r with
  |10=>[.slot 4]
  |_=>[]
 ann:=fun b _env S=>match b with
  |0=>some { slots:=[17],keep:=[1,2,3,4,15,16],α:=Nat,st:=fun i=>([.int .i64 i],⟨Em S.objs 2 (.vec 1 y.sh.length y.sh.length (axF y.sh.length i)),S.toks⟩),inv:=fun i=>i<=y.sh.length,mu:=fun i=>y.sh.length-i }
  |_=>none }
def Qv(a:Arr):Nat:=LN (Arr.sh a)
def Qkv(a:Arr)(b:Nat):List D:=[ZI (GI (Arr.sh a) b)]
def Qkw(a:Arr):D:=D.sl N1 (Qv a) (fun i=>Qkv a i) Mode.any
def QcI(a:Arr):Nat:=LN (Arr.nu a)
def Qkx(a:Arr)(b:Nat):List D:=[ZI (GI (Arr.nu a) b)]
def QcJ(a:Arr):Nat:=LN (Arr.it a)
def Qky:Arr:=DA
def Qkz(a:Arr)(b:Nat):List D:=Arr.row (List.getD (Arr.it a) b Qky)
def QcK(a:Arr):D:=D.agg [ZI (Arr.k a),Qkw a,D.sl N1 (QcI a) (fun i=>Qkx a i) Mode.any,D.sl N4 (QcJ a) (fun i=>Qkz a i) Mode.any]
def Jb(a:Arr):Int:=(NI (Qv a))
def KJ(a:Arr):Nat:=Int.toNat (Jb a)
def QkA(a:Arr):Prop:=KJ a=Qv a
def QcL(a:Arr)(b c:Nat):List D:=axF (Qv a) b c
def QcM:Prop:=SM N0/\(∀(i:Nat),i<N0->Cr (List D) [] [])/\True
def QcN(a:Arr):Prop:=SM (Qv a)
def QkB(a b:Nat)(c:Arr):Prop:=SM a/\(SM Z0/\QcM/\QcM/\QcM/\True)/\SM b/\(SM (Arr.k c)/\(QcN c/\(∀(i:Nat),i<Qv c->SM (Qkv c i))/\True)/\(SM (QcI c)/\(∀(i:Nat),i<QcI c->SM (Qkx c i))/\True)/\(SM (QcJ c)/\(∀(i:Nat),i<QcJ c->SM (Qkz c i))/\True)/\True)/\True
def QcO(a:Arr):Int:=(NI (KJ a))
def QmY(a:Nat)(b:Arr):D:=D.vs (max N2 (max (N0+N1) N0)) a (KJ b) (KJ b) N1
def QmZ(a:Arr):D:=ZI (QcO a)
def QkC(a:Arr)(b c:Nat):D:=D.sl N1 (KJ a) (axF (Qv a) b) (Mode.tok N0 c)
def JG(a:Arr):Arr:=trA a
def QkD(a:Arr):Nat:=LN (Arr.sh (JG a))
def Qm0(a:Arr)(b:Nat):List D:=[ZI (GI (Arr.sh (JG a)) b)]
def QkE(a:Arr):Nat:=LN (Arr.nu (JG a))
def Qm1(a:Arr)(b:Nat):List D:=[ZI (GI (Arr.nu (JG a)) b)]
def QkF(a:Arr):Nat:=LN (Arr.it (JG a))
def Qm2(a:Arr)(b:Nat):List D:=Arr.row (List.getD (Arr.it (JG a)) b Qky)
theorem Bcz(y:Arr)(h:(Bj y).1=0)(ho:y.ok):CD 10 [.agg y.row1] (.agg (trA y).row1):=by
 refine Bo (A:=sC _ _) (x:=()) (E:=Etr y) (eOk (Bbm h ho) rfl) Try.func10 rfl (by kernel_rfl) rfl (by simp[sC,Etr,EC,E0]) ?_
 refine Bu (T :=
  ∀(x:Nat),True->∀(x_1:Nat),x≠x_1/\True->SM x/\∃(x_2:Unit),tyP y [QcK y]/\∀(y_1:Unit),True->SM x/\Bc (Z0<=Jb y/\Jb y<=Jb y/\(8:Int)*Jb y<=281474976710656/\Jb y<=9223372036854775807) (∀(x_3:Nat),x_1≠x_3/\x≠x_3/\True->(∃(x_4:Nat),x_4<=Qv y/\(Z0=(↑x_4:Int)/\True)/\(SM x_3/\(QkA y/\QkA y/\∀(i:Nat),i<KJ y->[ZI Z0]=QcL y x_4 i)/\QkB x_1 x y)/\True)/\∀(x_4:Nat),x_4<=Qv y->ifB (decide ((↑x_4:Int)<QcO y)) (Bc (Z0<=(↑x_4:Int)/\(↑x_4:Int)<QcO y) (SM x_3/\Bc (Int.toNat (↑x_4:Int)<Qv y) ((SM (D.ref N0 x N0)/\SM (D.ref (max (N0+N1) N0) x_1 N0)/\SM (ZI (Jb y))/\SM (QmY x_3 y)/\SM D.unk/\SM (QmZ y)/\True)/\∃(y_2:Nat),y_2<=Qv y/\Qv y-y_2<Qv y-x_4/\(IntKind.wrap IntKind.i64 ((↑x_4:Int)+Z1)=(↑y_2:Int)/\True)/\(SM x_3/\(QcN y/\QcN y/\∀(i:Nat),i<Qv y->BA (axF (Qv y) x_4) (Int.toNat (↑x_4:Int)) [ZI (IntKind.wrap IntKind.i64 (IntKind.wrap IntKind.i64 (Jb y-Z1)-(↑x_4:Int)))] i=QcL y y_2 i)/\QkB x_1 x y)/\True))) (SM x_3/\Qv y=KJ y/\Bc (KJ y<=Qv y) ((∀(i:Nat),i<KJ y->(List.all (QcL y x_4 i) fun (x:D)=>match x with | D.unk=>false | D.agg cs=>false | D.tup ds=>false | x=>true)=true)/\∀(t:Nat),SM x/\SM x/\∃(x_5:Unit),dmP y [QkC y x_4 t,Qkw y]/\∀(y_2:Unit),True->(SM x/\SM (QcK y))/\∃(x:Unit),mvP y [QkC y x_4 t,QcK y,SI (List.reverse (Arr.sh y))]/\∀(y_3:Unit),True->SM x_1/\(SM x_1/\True)/\∃(y_4:Unit),True/\(SM (Arr.k (JG y))/\(SM (QkD y)/\(∀(i:Nat),i<QkD y->SM (Qm0 y i))/\True)/\(SM (QkE y)/\(∀(i:Nat),i<QkE y->SM (Qm1 y i))/\True)/\(SM (QkF y)/\(∀(i:Nat),i<QkF y->SM (Qm2 y i))/\True)/\True)/\True/\True)))) (by kernel_rfl) ?_
 delta DA GI LN N0 N1 N2 N4 NI SI SM Z0 Z1 ZI Qv Qkv KJ QkA QcL QcM QcN QkB QcO QmY QmZ QkC Qkw JG QkD Qm0 QkE Qm1 QkF Qm2 QcI Qkx QcJ Qky Qkz QcK Jb
 have da:(default:Arr)=Arr.mk 0 [] [] []:=rfl
 simp only[<- da]
 simp only[eq_self,ne_eq,implies_true,Int.toNat_natCast,Bl,Be,decide_eq_true_eq,decide_eq_false_iff_not,true_and,and_true,exists_const,forall_const]
 have hs:=(Bs.1 (By h)).2.1
 have h8:=((Bk _).1 hs).1
 have hax:∀m,wkL [D.sl 1 y.sh.length (axF y.sh.length y.sh.length) m] [isl (Eo (axR y.sh.length)) .any]:=fun m=>by
  simp only[isl,wkL,wkD,Ba]
  refine⟨⟨by simp,(Bar _).symm,fun i hi=>?_,by simp[Bw]⟩,trivial⟩
  rw[Uc hi]
  unfold axF
  rw[if_pos hi]
  exact⟨Bd _,trivial⟩
 refine fun x x1 _=>⟨Bg _,⟨by omega,by omega,by omega,by omega⟩,fun x3 _=>⟨⟨0,Nat.zero_le _,rfl,fun i hi=>?_⟩,fun i hi=>⟨fun hlt=>⟨⟨by omega,by omega⟩,by omega,i+1,by omega,by omega,Bb (by omega) (by omega),fun j hj=>?_⟩,fun hge=>?_⟩⟩⟩
 ·unfold axF
  rw[if_neg (Nat.not_lt_zero i)]
 ·have w1:IntKind.i64.wrap ((y.sh.length:Int)-1)=(y.sh.length:Int)-1:=Bb (by omega) (by omega)
  rw[w1,Bb (by omega) (by omega)]
  unfold BA axF
  by_cases e:j=i
  ·subst e
   rw[if_pos rfl,if_pos (Nat.lt_succ_self j)]
   congr 2
   omega
  ·rw[if_neg e]
   by_cases e2:j<i
   ·rw[if_pos e2,if_pos (by omega)]
   ·rw[if_neg e2,if_neg (by omega)]
 ·obtain rfl:i=y.sh.length:=by omega
  have h1:=fun m=>hax m
  refine⟨Nat.le_refl _,fun _ _=>rfl,fun t=>⟨?_,?_⟩⟩
  ·have:=hax (.tok 0 t)
   simp only[dmP,wkL] at this ⊢
   exact⟨this.1,BE _,trivial⟩
  ·have:=hax (.tok 0 t)
   simp only[mvP,wkL] at this ⊢
   exact⟨this.1,BE _,BE _,trivial⟩
end
end Go.Proofs.Ytgkifngdbpjccaa
