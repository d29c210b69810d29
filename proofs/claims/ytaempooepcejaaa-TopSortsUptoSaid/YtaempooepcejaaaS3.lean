/- Functions of the given program and what each of them computes: lemmas towards the statement, their conditions stated with each of them. -/
import Derived.Test.YtaempooepcejaaaS2
namespace Go.Proofs.Ytaempooepcejaaa
open Go Go.Ab
set_option maxRecDepth 100000
noncomputable section
theorem Bal(N:Nat)(a b c:Rw):leC (GV N) a b=true->leC (GV N) b c=true->leC (GV N) a c=true:=by
 have:=TH N
 exact fun h1 h2=>Std.TransCmp.isLE_trans (cmp:=Ca N) h1 h2
theorem Bab(N:Nat)(a b:Rw):(leC (GV N) a b||leC (GV N) b a)=true:=by
 have:=TH N
 have e:Ca N a.2 b.2=(Ca N b.2 a.2).swap:=Std.OrientedCmp.eq_swap
 show ((Ca N a.2 b.2).isLE||(Ca N b.2 a.2).isLE)=true
 rw[e]
 cases Ca N b.2 a.2<;>rfl
theorem Ib(N:Nat):∀(n:Nat) (l:List Rw),l.length<=n+1->(msF (leC (GV N)) n l).Pairwise (fun a b=>leC (GV N) a b=true)
 |0,l,h=>by
  rw[msF]
  match l,h with
  | [],_=>exact List.Pairwise.nil
  | [a],_=>exact List.pairwise_singleton _ _
 |n+1,l,h=>by
  rw[msF]
  split
  ·rename_i h2
   match l,h2 with
   | [],_=>exact List.Pairwise.nil
   | [a],_=>exact List.pairwise_singleton _ _
  ·exact List.pairwise_merge (Bal N) (Bab N) _ _ (Ib N n _ (by rw[List.length_take];omega)) (Ib N n _ (by rw[List.length_drop];omega))
theorem W1{le:Rw->Rw->Bool}:∀(n:Nat) (l:List Rw),l.Pairwise (fun a b=>le a b=true)->msF le n l=l
 |0,l,_=>rfl
 |n+1,l,h=>by
  rw[msF]
  split
  ·rfl
  ·have hp:=h
   rw[<- List.take_append_drop (l.length / 2) l,List.pairwise_append] at hp
   rw[W1 n _ hp.1,W1 n _ hp.2.1,List.merge_of_le (fun a b ha hb=>hp.2.2 a ha b hb),List.take_append_drop]
theorem G7{α:Type}{R:Nat}:∀(ls:List (List α)) (i:Nat),(∀l∈ls,l.length=R)->i<ls.length->(ls.flatten.drop (i*R)).take R=ls.getD i []
 | [],i,_,h=>absurd h (Nat.not_lt_zero i)
 |a::ls,0,h,_=>by
  have ha:=h a (by simp)
  rw[List.flatten_cons,Nat.zero_mul,List.drop_zero,List.take_append_of_le_length (by omega),List.take_of_length_le (by omega)];rfl
 |a::ls,i+1,h,hi=>by
  have ha:=h a (by simp)
  rw[List.flatten_cons,Nat.succ_mul,Nat.add_comm,<- ha,<- List.drop_drop,List.drop_left,ha,G7 ls i (fun l hl=>h l (by simp[hl])) (by simpa using hi)];rfl
theorem UH{α:Type}(l:List α)(z:α)(m R:Nat)(h:m+R<=l.length):(l.drop m).take R=(List.range R).map fun k=>l.getD (m+k) z:=by
 apply List.ext_getElem
 ·simp;omega
 ·intro i h1 h2
  simp only[List.length_map,List.length_range] at h2
  simp[List.getD_eq_getElem?_getD,show m+i<l.length by omega]
section
variable {N:Nat} {y:Arr} (h:GrH N y)
include h
omit h in
theorem Ml{p:Rw}(hp:p∈Br N y):p.1<(y.sh.headD 0).toNat/\p.2=rwA y p.1:=by
 obtain ⟨i,hi,rfl⟩:=R3 ((CO N y).mem_iff.1 hp)
 exact⟨hi,rfl⟩
theorem RZ:((Br N y).length:Int)=y.sh.headD 0:=by
 have:=EP h.v h.hr
 rw[(CO N y).length_eq,TU];omega
theorem Bbe:(Ef (Br N y)).sh++y.sh.tail=y.sh:=by
 show ((Br N y).length:Int)::y.sh.tail=y.sh
 rw[RZ h]
 have:=h.hr
 cases hs:y.sh with
 |nil=>exact absurd hs this
 |cons d r=>rfl
theorem BcV:prL (shN y.sh)=(y.sh.headD 0).toNat*Bn y:=by
 have:=h.hr
 cases hs:y.sh with
 |nil=>exact absurd hs this
 |cons d r=>simp[shN,prL,Bn,hs]
theorem RS:Val (Ef (Br N y)):=by
 have hl:=h.slen
 have hd:=EP h.v h.hr
 have hb:∀z∈(Br N y).map (fun p=>(p.1:Int)),0<=z/\z<=65536:=fun z hz=>by
  obtain ⟨p,hp,rfl⟩:=List.mem_map.1 hz
  have:=(Ml hp).1
  omega
 refine⟨?_,?_⟩
 ·simp only[Ef,Arr.ok]
  refine⟨by unfold Gg;omega,fun z hz=>?_,fun z hz=>?_,by simp[maxLen],by simp only[List.length_map,maxLen];omega,by simp[maxLen],trivial⟩
  ·rw[List.mem_singleton.1 hz];unfold Gg;omega
  ·have:=hb z hz;unfold Gg;omega
 ·obtain ⟨o1,o2⟩:=OS hl
  refine Ul (Cj.2 ⟨.inl rfl,o1,?_,rfl⟩) ?_ (fun b hb=>by cases hb) ?_
  ·rw[if_neg (by decide),o2,List.length_map]
  ·rw[List.any_eq_false]
   intro z hz
   have:=hb z hz
   simp only[CM,MW]
   simp
   omega
  ·simp only[List.length_map,wtS,List.length_nil];omega
def OE(N:Nat)(y:Arr):List Nat:=(Br N y).map (·.1)
omit h in
theorem Bd0:(Ef (Br N y)).nu=Cm (OE N y):=by
 simp[Ef,Arr.nu,Cm,OE]
theorem Bc3:(frL (Bn y) (OE N y)).Perm (List.range (prL (shN y.sh))):=by
 have e:∀d,frL (Bn y) (List.range d)=List.range (d*Bn y):=fun d=>by
  induction d with
  |zero=>simp[frL]
  |succ d ih =>
   rw[frL,List.range_succ,List.flatMap_append,List.flatMap_singleton,Nat.succ_mul,List.range_add]
   rw[frL] at ih
   rw[ih]
 have p:(OE N y).Perm (List.range (y.sh.headD 0).toNat):=by
  have:=(CO N y).map (fun p:Rw=>p.1)
  refine this.trans ?_
  rw[rwL,List.map_map]
  have:((fun p:Rw=>p.1) ∘ fun i=>(i,rwA y i))=id:=rfl
  rw[this,List.map_id]
 rw[BcV h,<- e]
 exact List.Perm.flatMap_right _ p
theorem BbF:gaA y y.sh (frL (Bn y) (OE N y))=B9 N y:=by
 obtain ⟨z1,z2,z3⟩:=Bz h.v.c
 have f4:=(Cj.1 (Cv h.v.c)).2.2.2
 have hd:=EP h.v h.hr
 have hrow:∀p∈Br N y,p.2=rwA y p.1/\p.1*Bn y+Bn y<=szN y:=fun p hp=>by
  obtain ⟨h1,h2⟩:=Ml hp
  exact⟨h2,(Ia h.v h.hr (by omega)).2⟩
 have fm:∀ {α:Type} (f g:Rw->List α),(∀p∈Br N y,f p=g p)->(Br N y).flatMap f=(Br N y).flatMap g:=fun f g hfg=>by
  rw[List.flatMap,List.flatMap,List.map_congr_left hfg]
 rw[gaA,B9]
 congr 1
 ·rw[gaN,ED]
  by_cases hk:y.k=3
  ·rw[if_pos hk] at f4 ⊢
   have hn:y.nu=[]:=List.eq_nil_of_length_eq_zero f4
   symm
   rw[List.flatMap_eq_nil_iff]
   intro p hp
   rw[(hrow p hp).1]
   show (y.nu.drop _).take _=[]
   rw[hn];simp
  ·rw[if_neg hk,frL,OE,List.flatMap_map,List.map_flatMap]
   refine fm _ _ fun p hp=>?_
   obtain ⟨e1,e2⟩:=hrow p hp
   rw[szN,if_neg hk] at e2
   rw[e1,List.map_map]
   exact (UH y.nu 0 _ _ e2).symm
 ·rw[gaI,EB]
  by_cases hk:y.k=3
  ·rw[if_pos hk,frL,OE,List.flatMap_map,List.map_flatMap]
   refine fm _ _ fun p hp=>?_
   obtain ⟨e1,e2⟩:=hrow p hp
   rw[szN,if_pos hk] at e2
   rw[e1,List.map_map]
   exact (UH y.it default _ _ e2).symm
  ·rw[if_neg hk] at f4 ⊢
   have hn:y.it=[]:=List.eq_nil_of_length_eq_zero f4
   symm
   rw[List.flatMap_eq_nil_iff]
   intro p hp
   rw[(hrow p hp).1]
   show (y.it.drop _).take _=[]
   rw[hn];simp
end
section
variable {N:Nat} {y:Arr} (h:GrH N y)
include h
theorem OW:(B9 N y).nu.Perm y.nu/\(B9 N y).it.Perm y.it:=by
 obtain ⟨e1,e2⟩:=MJ h.v h.hr
 have p1:=O6 (CO N y)
 have p2:=OU (CO N y)
 rw[e1] at p1
 rw[e2] at p2
 exact⟨p1,p2⟩
theorem RF:Val (B9 N y):=by
 obtain ⟨p1,p2⟩:=OW h
 obtain ⟨hv,hr,_⟩:=h
 obtain ⟨ho,hc⟩:=hv
 have hk:(B9 N y).k=y.k:=rfl
 have hs:(B9 N y).sh=y.sh:=rfl
 generalize B9 N y=z at *
 cases y with
 |mk k s nu it =>
  cases z with
  |mk k' s' nu' it' =>
   obtain rfl:k'=k:=hk
   obtain rfl:s'=s:=hs
   have p1:nu'.Perm nu:=p1
   have p2:it'.Perm it:=p2
   simp only[Arr.ok] at ho
   obtain ⟨o1,o2,o3,o4,o5,o6,o7⟩:=ho
   obtain ⟨f1,f2,f3,f4,f5⟩:=Tn hc
   have l1:=p1.length_eq
   have l2:=p2.length_eq
   refine⟨?_,?_⟩
   ·simp only[Arr.ok]
    exact⟨o1,o2,fun z hz=>o3 z (p1.mem_iff.1 hz),o4,by omega,by omega,(Cf _).2 fun b hb=>(Cf _).1 o7 b (p2.mem_iff.1 hb)⟩
   ·refine Ul (by rw[l1,l2];exact f1) ?_ (fun b hb=>f3 b (p2.mem_iff.1 hb)) ?_
    ·rw[List.any_eq_false] at f2 ⊢
     exact fun z hz=>f2 z (p1.mem_iff.1 hz)
    ·rw[l1,l2,UM p2];omega
theorem BcX{i:Nat}(hi:i<(Br N y).length):rwA (B9 N y) i=((Br N y).getD i (0,default)).2:=by
 obtain ⟨z1,z2,z3⟩:=Bz h.v.c
 have f4:=(Cj.1 (Cv h.v.c)).2.2.2
 have hd:=EP h.v h.hr
 have hall:∀p∈Br N y,p.2=rwA y p.1/\p.1*Bn y+Bn y<=szN y:=fun p hp=>by
  obtain ⟨h1,h2⟩:=Ml hp
  exact⟨h2,(Ia h.v h.hr (by omega)).2⟩
 have hm:(Br N y).getD i (0,default)∈Br N y:=by rw[List.getD_eq_getElem?_getD,List.getElem?_eq_getElem hi];exact List.getElem_mem hi
 have hR:Bn (B9 N y)=Bn y:=rfl
 have gm:∀ {α:Type} (f:Rw->List α),((Br N y).map f).getD i []=f ((Br N y).getD i (0,default)):=fun f=>by
  rw[List.getD_eq_getElem?_getD,List.getD_eq_getElem?_getD,List.getElem?_map,List.getElem?_eq_getElem hi];rfl
 have e1:((ED (Br N y)).drop (i*Bn y)).take (Bn y)=((Br N y).getD i (0,default)).2.nu:=by
  by_cases hk:y.k=3
  ·rw[if_pos hk] at f4
   have hn:y.nu=[]:=List.eq_nil_of_length_eq_zero f4
   have a1:∀p∈Br N y,p.2.nu=[]:=fun p hp=>by
    rw[(hall p hp).1]
    show (y.nu.drop _).take _=[]
    rw[hn];simp
   have a2:ED (Br N y)=[]:=List.flatMap_eq_nil_iff.2 a1
   rw[a2,a1 _ hm];simp
  ·have:=G7 (R:=Bn y) ((Br N y).map fun p=>p.2.nu) i (fun l hl=>by
    obtain ⟨p,hp,rfl⟩:=List.mem_map.1 hl
    obtain ⟨b1,b2⟩:=hall p hp
    rw[szN,if_neg hk] at b2
    rw[b1]
    show ((y.nu.drop _).take _).length=_
    rw[List.length_take,List.length_drop];omega) (by simpa using hi)
   rw[gm] at this
   exact this
 have e2:((EB (Br N y)).drop (i*Bn y)).take (Bn y)=((Br N y).getD i (0,default)).2.it:=by
  by_cases hk:y.k=3
  ·have:=G7 (R:=Bn y) ((Br N y).map fun p=>p.2.it) i (fun l hl=>by
    obtain ⟨p,hp,rfl⟩:=List.mem_map.1 hl
    obtain ⟨b1,b2⟩:=hall p hp
    rw[szN,if_pos hk] at b2
    rw[b1]
    show ((y.it.drop _).take _).length=_
    rw[List.length_take,List.length_drop];omega) (by simpa using hi)
   rw[gm] at this
   exact this
  ·rw[if_neg hk] at f4
   have hn:y.it=[]:=List.eq_nil_of_length_eq_zero f4
   have a1:∀p∈Br N y,p.2.it=[]:=fun p hp=>by
    rw[(hall p hp).1]
    show (y.it.drop _).take _=[]
    rw[hn];simp
   have a2:EB (Br N y)=[]:=List.flatMap_eq_nil_iff.2 a1
   rw[a2,a1 _ hm];simp
 have e0:((Br N y).getD i (0,default)).2=rwA y ((Br N y).getD i (0,default)).1:=(hall _ hm).1
 have g:∀b:Arr,b=.mk b.k b.sh b.nu b.it:=fun b=>by cases b;rfl
 rw[g ((Br N y).getD i (0,default)).2]
 show Arr.mk y.k y.sh.tail (((ED (Br N y)).drop (i*Bn y)).take (Bn y)) (((EB (Br N y)).drop (i*Bn y)).take (Bn y))=_
 rw[e1,e2]
 congr 1
 ·rw[e0];rfl
 ·rw[e0];rfl
theorem MT:rwL (B9 N y)=(List.range (Br N y).length).map fun i=>(i,((Br N y).getD i (0,default)).2):=by
 have hd:=RZ h
 have e:((B9 N y).sh.headD 0).toNat=(Br N y).length:=by
  show (y.sh.headD 0).toNat=_
  omega
 rw[rwL,e]
 refine List.map_congr_left fun i hi=>?_
 rw[BcX h (List.mem_range.1 hi)]
theorem Bbn:GrH N (B9 N y):=by
 refine⟨RF h,h.hr,fun p hp=>?_⟩
 rw[MT h] at hp
 obtain ⟨i,hi,rfl⟩:=List.mem_map.1 hp
 have hi:=List.mem_range.1 hi
 exact h.hN ((Br N y).getD i (0,default)) ((CO N y).mem_iff.1 (by rw[List.getD_eq_getElem?_getD,List.getElem?_eq_getElem hi];exact List.getElem_mem hi))
theorem Bac:Ef (Br N (B9 N y))=Ba8 (Br N y).length:=by
 have hs:=Ib N ((rwL y).length+1) (rwL y) (by omega)
 have hid:Br N (B9 N y)=rwL (B9 N y):=by
  refine W1 _ _ ?_
  rw[MT h,List.pairwise_map]
  refine (List.pairwise_lt_range (n:=(Br N y).length)).imp_of_mem fun {i j} hi hj hij=>?_
  have hi:=List.mem_range.1 hi
  have hj:=List.mem_range.1 hj
  have:=List.pairwise_iff_getElem.1 hs i j hi hj hij
  show (Ca N ((Br N y).getD i (0,default)).2 ((Br N y).getD j (0,default)).2).isLE=true
  rw[List.getD_eq_getElem?_getD,List.getD_eq_getElem?_getD,List.getElem?_eq_getElem hi,List.getElem?_eq_getElem hj]
  exact this
 rw[hid,MT h,Ef,Ba8,Cm,List.map_map,List.length_map,List.length_range]
 rfl
theorem BdU:FrH (Ef (Br N y)) y (OE N y):=by
 have hd:=RZ h
 have fp:=Bc3 h
 have hp:=BdD (Bz h.v.c).1
 refine⟨RS h,h.v,h.hr,rfl,Bd0,fun i hi=>?_,?_,?_,?_,by simp[Ef,Arr.sh],?_⟩
 ·obtain ⟨p,hp,rfl⟩:=List.mem_map.1 hi
  have:=(Ml hp).1
  have:=EP h.v h.hr
  omega
 ·rw[Bbe h];exact (Bz h.v.c).1
 ·rw[fp.length_eq,List.length_range];exact hp
 ·rw[OE,List.length_map];exact h.slen
 ·rw[gaW]
  split
  ·rename_i hk
   have e:gaI y (frL (Bn y) (OE N y))=(B9 N y).it:=congrArg Arr.it (BbF h)
   rw[e,UM (OW h).2,fp.length_eq,List.length_range]
   have z:=(Bz h.v.c).2.1
   rw[szN,if_pos hk] at z
   have hc:=h.v.c
   have hh:=h.v.c
   cases y with
   |mk k s nu it =>
    obtain ⟨f1,f2,f3,f4,f5⟩:=Tn hc
    have z:it.length=prL (shN (Arr.mk k s nu it).sh):=z
    show (prL (shN (Arr.mk k s nu it).sh):Int)+wtS it<=262144
    omega
  ·omega
theorem UU:CD 9 [.agg (Ef (Br N y)).row1,.agg y.row1] (.tup [.agg (B9 N y).row1,.int .i64 0]):=by
 have:=BeO _ _ _ (BdU h)
 rw[Bbe h,BbF h] at this
 exact this
end
def v27:Arr:=vcA [30,10,20]
theorem Bdd:Val v27:=⟨Bbs (by decide) (by decide),by decide⟩
theorem BbM:GrH 1000 v27:=by
 refine⟨Bdd,by decide,fun p hp=>?_⟩
 have e:rwL v27=[(0,.mk 1 [] [30] []),(1,.mk 1 [] [10] []),(2,.mk 1 [] [20] [])]:=rfl
 rw[e] at hp
 simp only[List.mem_cons,List.not_mem_nil,or_false] at hp
 rcases hp with rfl | rfl | rfl<;>decide
theorem UF:Br 1000 v27=[(1,.mk 1 [] [10] []),(2,.mk 1 [] [20] []),(0,.mk 1 [] [30] [])]:=by
 have e:rwL v27=[(0,.mk 1 [] [30] []),(1,.mk 1 [] [10] []),(2,.mk 1 [] [20] [])]:=rfl
 have c1:leC (GV 1000) (1,.mk 1 [] [10] []) (2,.mk 1 [] [20] [])=true:=by kernel_rfl
 have c2:leC (GV 1000) (0,.mk 1 [] [30] []) (1,.mk 1 [] [10] [])=false:=by kernel_rfl
 have c3:leC (GV 1000) (0,.mk 1 [] [30] []) (2,.mk 1 [] [20] [])=false:=by kernel_rfl
 rw[Br,e]
 simp[msF,c1,c2,c3]
theorem RH:Ef (Br 1000 v27)=vcA [1,2,0]:=by rw[UF];rfl
theorem Bc7:B9 1000 v27=vcA [10,20,30]:=by rw[B9,UF];rfl
def U4(l:List Int)(ds:List D):Prop:=wkL ds [isl l .any]
def kaP(a:Arr)(ds:List D):Prop:=wkL ds [.agg a.row1]
def kbP(a b:Arr)(ds:List D):Prop:=wkL ds [.agg a.row1,.agg b.row1]
def Bcd:Con:=fun k ds S=>match k with
 |16=>match ds with
  | [.sl 1 _ f _]=>match f 0 with
   | [.int _ z]=>match Int.decEq z 30 with
    |.isTrue _=>some (pA ds S (.agg v27.row1) (U4 [30,10,20] ds))
    |.isFalse _=>match Int.decEq z 1 with
     |.isTrue _=>some (pA ds S (.agg (vcA [1,2,0]).row1) (U4 [1,2,0] ds))
     |.isFalse _=>some (pA ds S (.agg (vcA [10,20,30]).row1) (U4 [10,20,30] ds))
   |_=>none
  |_=>none
 |7=>some (pA ds S (.tup [.agg (vcA [1,2,0]).row1,.int .i64 0]) (kaP v27 ds))
 |9=>some (pA ds S (.tup [.agg (vcA [10,20,30]).row1,.int .i64 0]) (kbP (vcA [1,2,0]) v27 ds))
 |13=>some (pE (β:=Arr) ds S (fun _=>.bool true) (fun b=>kbP b b ds/\b.ok))
 |_=>none
theorem Bcp:ConOk Try.prog Bcd:=by
 intro k ds S A hh
 unfold Bcd at hh
 split at hh
 ·split at hh
  ·split at hh
   ·split at hh
    ·injection hh with hh;subst hh
     exact Bw fun e=>CD.at_ (CD.wk (Wy [30,10,20]) e) _
    ·split at hh
     ·injection hh with hh;subst hh
      exact Bw fun e=>CD.at_ (CD.wk (Wy [1,2,0]) e) _
     ·injection hh with hh;subst hh
      exact Bw fun e=>CD.at_ (CD.wk (Wy [10,20,30]) e) _
   ·cases hh
  ·cases hh
 ·injection hh with hh;subst hh
  refine Bw fun e=>CD.at_ (CD.wk ?_ e) _
  have:=BdH 1000 v27 BbM
  rw[RH] at this
  exact this
 ·injection hh with hh;subst hh
  refine Bw fun e=>CD.at_ (CD.wk ?_ e) _
  have:=UU BbM
  rw[RH,Bc7] at this
  exact this
 ·injection hh with hh;subst hh
  exact Cn fun b ⟨e,hb⟩=>CD.at_ (CD.wk (BdJ b hb) e) _
 ·cases hh
noncomputable def Ek7:Senv:=EC Bcd 34 5 [] (fun id=>match id with | 2=>([0,1,2,3,4,5,6,7,8,9],[1,2,3,7,8]) | 3=>([0,1,2,3,4,5,6,7,8,9,10,11,12,13,14,15,16],[6,7,8,12,13,14]) | _=>([],[]))
def Zu:Prop:=U4 [(30:Int),(10:Int),(20:Int)] [D.sl N1 (3:Nat) (fun i=>List.getD [[ZI 30],[ZI 10],[ZI 20]] i []) Mode.full]
def Zv:List D:=Arr.row DA
def Qfn:List D:=[D.agg [ZI (Arr.k v27),SI (Arr.sh v27),SI (Arr.nu v27),D.sl N4 (LN (Arr.it v27)) (fun _i=>Zv) Mode.any]]
def Jl:Arr:=vcA [Z1,(2:Int),Z0]
def QhF:List Int:=Arr.sh Jl
def QhG:List Int:=Arr.nu Jl
def Xe:D:=D.agg [ZI (Arr.k Jl),SI QhF,SI QhG,D.sl N4 (LN (Arr.it Jl)) (fun _i=>Zv) Mode.any]
def Kq(a:Nat):Prop:=SM a/\SM Xe
def Qfo:Prop:=kbP Jl v27 (Xe::Qfn)
def Xf:Arr:=vcA [(10:Int),(20:Int),(30:Int)]
def QhH:List Int:=Arr.sh Xf
def QhI:List Int:=Arr.nu Xf
def Zw:D:=D.agg [ZI (Arr.k Xf),SI QhH,SI QhI,D.sl N4 (LN (Arr.it Xf)) (fun _i=>Zv) Mode.any]
def Qfp(a:Nat):Prop:=SM a/\SM Zw
def Qfq(a b:Nat):Prop:=SM a/\SM b/\Kq b/\∃(_x:Unit),U4 [Z1,(2:Int),Z0] [D.sl N1 (3:Nat) (fun i=>List.getD [[ZI Z1],[ZI 2],[ZI Z0]] i []) Mode.full]/\∀(_y:Unit),True->Kq b/\∃(x:Arr),(kbP x x [Xe,Xe]/\Arr.ok x)/\∀(_y:Unit),True->SM a/\Qfp a/\∃(_x:Unit),U4 [(10:Int),(20:Int),(30:Int)] [D.sl N1 (3:Nat) (fun i=>List.getD [[ZI 10],[ZI 20],[ZI 30]] i []) Mode.full]/\∀(_y:Unit),True->Qfp a/\∃(x:Arr),(kbP x x [Zw,Zw]/\Arr.ok x)/\∀(_y:Unit),True->True/\∃(_y:Unit),True/\SM true/\True/\True
def Qfr(a b:Nat):Prop:=Kq a/\∃(_x:Unit),Qfo/\∀(_y:Unit),True->Qfq b a
def Qfs(a b:Nat):Prop:=Kq a/\∃(_x:Unit),Zu/\∀(_y:Unit),True->Qfr a b
theorem BeQ:CD 6 [] (.bool true):=by
 refine Bh (A:=sC _ _) (x:=()) (E:=Ek7) (eOk Bcp rfl) Try.func6 rfl (by kernel_rfl) rfl (by simp[sC,Ek7,EC,E0]) ?_
 refine Bl (T :=
  ∃(x:Unit),Zu/\∀(y:Unit),True->∃(x:Unit),kaP v27 Qfn/\∀(y:Unit),True->∀(x:Nat),True->SM x/\SM x/\(Kq x/\(∃(x_1:Unit),Zu/\∀(y:Unit),True->Kq x/\(∃(x_2:Unit),Qfo/\∀(y:Unit),True->∀(x_3:Nat),x≠x_3/\True->Qfq x_3 x)/\∀(x_2:Nat),x≠x_2/\True->Qfr x x_2)/\∀(x_1:Nat),x≠x_1/\True->Qfs x x_1)/\∀(x_1:Nat),x≠x_1/\True->Kq x/\Qfs x x_1) (by kernel_rfl) ?_
 delta DA GI LN N1 N4 SI SM Z0 Z1 ZI Zu Zv QhH QhI Zw Qfp Qfq Qfr Qfs Qfn Jl QhF QhG Xe Kq Qfo Xf
 have da:(default:Arr)=Arr.mk 0 [] [] []:=rfl
 simp only[<- da]
 simp only[ne_eq,implies_true,true_and,and_true,exists_const,forall_const]
 have k3:∀ {a b c:Int},U4 [a,b,c] [D.sl 1 3 (fun i=>[[D.int .i64 a],[D.int .i64 b],[D.int .i64 c]].getD i []) .full]:=fun {a b c}=>by
  simp only[U4,isl,wkL,wkD,Ba]
  refine⟨⟨by simp,by simp,fun i hi=>?_,by simp[BJ]⟩,trivial⟩
  rcases i with _ | _ | _ | i
  ·exact Be _
  ·exact Be _
  ·exact Be _
  ·omega
 have o1:(vcA [1,2,0]).ok:=Bbs (by decide) (by decide)
 have o2:(vcA [10,20,30]).ok:=Bbs (by decide) (by decide)
 repeat' (first | exact k3 | exact Be _ | exact⟨vcA [1,2,0],⟨Be _,o1⟩,k3,vcA [10,20,30],Be _,o2⟩ | refine And.intro ?_ ?_ | intro _)
noncomputable def bnN(l:List Rw):Nat:=(l.map fun p=>SizeOf.sizeOf p.2).foldr (·+·) 1
theorem Bcw:∀(l:List Rw),∀p∈l,SizeOf.sizeOf p.2<bnN l
 | [],p,h=>by cases h
 |q::l,p,h=>by
  have e:bnN (q::l)=SizeOf.sizeOf q.2+bnN l:=rfl
  have pos:∀l:List Rw,1<=bnN l:=fun l=>by
   induction l with
   |nil=>exact Nat.le_refl _
   |cons q l ih =>
    have e:bnN (q::l)=SizeOf.sizeOf q.2+bnN l:=rfl
    omega
  have:=pos l
  rcases List.mem_cons.1 h with rfl | h
  ·omega
  ·have:=Bcw l p h
   omega
noncomputable def fwS(y:Arr):Bool:=decide (wtA y<=100)&&(Bi y).1==0
def sfP(y:Arr)(ds:List D):Prop:=wkL ds [.agg y.row1,.int .i64 100]
def syP(N:Nat)(y:Arr)(ds:List D):Prop:=wkL ds [.agg y.row1]/\GrH N y
def sgP(N:Nat)(y:Arr)(ds:List D):Prop:=wkL ds [.agg (Ef (Br N y)).row1,.agg y.row1]/\GrH N y
noncomputable def BbW(N:Nat)(y:Arr):Con:=fun k ds S=>match k with
 |5=>some (pA ds S (.bool (fwS y)) (sfP y ds))
 |6=>some (pA ds S (.bool true) (ds=[]))
 |12=>some (pA ds S (.int .i64 ((Br N y).length:Nat)) (syP N y ds))
 |11=>some (pA ds S (.agg (nmA (Br N y).length).row1) (ds=[.int .i64 ((Br N y).length:Nat)]))
 |7=>some (pE (β:=Arr) ds S (fun b=>.tup [.agg (Ef (Br N b)).row1,.int .i64 0]) (fun b=>syP N b ds))
 |8=>some (pA ds S (.tup [.agg (B9 N y).row1,.int .i64 0]) (syP N y ds))
 |9=>some (pA ds S (.tup [.agg (B9 N y).row1,.int .i64 0]) (sgP N y ds))
 |10=>some (pA ds S (.tup [.agg (Ef (Br N (B9 N y))).row1,.int .i64 0]) (wkL ds [.agg (nmA (Br N y).length).row1]/\GrH N y))
 |13=>some (pE (β:=Arr) ds S (fun _=>.bool true) (fun b=>kbP b b ds/\b.ok))
 |_=>none
theorem Bco{N:Nat}{y:Arr}(ho:y.ok):ConOk Try.prog (BbW N y):=by
 intro k ds S A hh
 unfold BbW at hh
 split at hh
 ·injection hh with hh;subst hh
  exact Bw fun e=>CD.at_ (CD.wk (Bd8 y 100 ho) e) _
 ·injection hh with hh;subst hh
  refine Bw fun e=>CD.at_ ?_ _
  rw[e];exact BeQ
 ·injection hh with hh;subst hh
  refine Bw fun ⟨e,h⟩=>CD.at_ (CD.wk ?_ e) _
  have:=BdQ y
  rw[if_neg h.hr,<- RZ h] at this
  exact this
 ·injection hh with hh;subst hh
  refine Bw fun e=>CD.at_ ?_ _
  rw[e];exact Bew _
 ·injection hh with hh;subst hh
  exact Cn fun b ⟨e,h⟩=>CD.at_ (CD.wk (BdH N b h) e) _
 ·injection hh with hh;subst hh
  exact Bw fun ⟨e,h⟩=>CD.at_ (CD.wk (BeB N y h) e) _
 ·injection hh with hh;subst hh
  exact Bw fun ⟨e,h⟩=>CD.at_ (CD.wk (UU h) e) _
 ·injection hh with hh;subst hh
  refine Bw fun ⟨e,h⟩=>CD.at_ (CD.wk ?_ e) _
  rw[Bac h]
  exact Be0 _ h.slen
 ·injection hh with hh;subst hh
  exact Cn fun b ⟨e,hb⟩=>CD.at_ (CD.wk (BdJ b hb) e) _
 ·cases hh
noncomputable def Ets(N:Nat)(y:Arr):Senv:=EC (BbW N y) 74 13 [21] (fun _=>([],[]))
def Zx:Arr:=DA
def Qft(a:Arr):D:=D.agg [ZI (Arr.k a),SI (Arr.sh a),SI (Arr.nu a),D.sl N4 (LN (Arr.it a)) (fun i=>Arr.row (List.getD (Arr.it a) i Zx)) Mode.any]
def Zy:Prop:=∃(_x:Unit),Es (List D) [] []/\∀(_y:Unit),True->True/\∃(_y:Unit),True/\SM true/\True/\True
def QO(a:Arr):Nat:=bnN (rwL a)
def Zz(a:Arr):List D:=[Qft a]
def Qfu(a:Arr):Prop:=syP (QO a) a (Zz a)
def Xg(a b:Arr):Arr:=Ef (Br (QO a) b)
def QhJ(a b:Arr):List Int:=Arr.sh (Xg a b)
def QhK(a b:Arr):List Int:=Arr.nu (Xg a b)
def Qfv:List D:=Arr.row Zx
def Qfw(a b:Arr):D:=D.agg [ZI (Arr.k (Xg a b)),SI (QhJ a b),SI (QhK a b),D.sl N4 (LN (Arr.it (Xg a b))) (fun _i=>Qfv) Mode.any]
def Jm(a:Arr):Arr:=B9 (QO a) a
def QhL(a:Arr):List Int:=Arr.sh (Jm a)
def QhM(a:Arr):List Int:=Arr.nu (Jm a)
def Qfx(a:Arr):List Arr:=Arr.it (Jm a)
def Qfy(a:Arr):D:=D.agg [ZI (Arr.k (Jm a)),SI (QhL a),SI (QhM a),D.sl N4 (LN (Qfx a)) (fun i=>Arr.row (List.getD (Qfx a) i Zx)) Mode.any]
def Qfz(a:Arr):List D:=[Qfy a]
def QfA(a:Arr):Nat:=LN (Br (QO a) a)
def QhN(a:Arr):List D:=[ZI (NI (QfA a))]
def Xh(a:Arr):Arr:=nmA (QfA a)
def QhO(a:Arr):Int:=Arr.k (Xh a)
def QfB(a:Arr):List Int:=Arr.sh (Xh a)
def QfC(a:Arr):Nat:=LN (QfB a)
def QhP(a:Arr)(b:Nat):Int:=GI (QfB a) b
def QfD(a:Arr):List Int:=Arr.nu (Xh a)
def QfE(a:Arr):Nat:=LN (QfD a)
def QhQ(a:Arr)(b:Nat):Int:=GI (QfD a) b
def QfF(a:Arr):Nat:=LN (Arr.it (Xh a))
def QfG:Prop:=SM N0/\(∀(i:Nat),i<N0->SM (GI [] i)/\True)/\True
def Xi(a:Arr):Arr:=Ef (Br (QO a) (Jm a))
def QhR(a:Arr):List Int:=Arr.sh (Xi a)
def QhS(a:Arr):List Int:=Arr.nu (Xi a)
theorem Bah(y:Arr)(ho:y.ok):CD 3 [.agg y.row1] (.bool true):=by
 refine Bh (A:=sC _ _) (x:=()) (E:=Ets (bnN (rwL y)) y) (eOk (Bco ho) rfl) Try.func3 rfl (by kernel_rfl) rfl (by simp[sC,Ets,EC,E0]) ?_
 refine Bl (T :=
  ∀(x:Nat),True->SM x/\∃(x_1:Unit),sfP y [Qft y,ZI 100]/\∀(y_1:Unit),True->ifB (!fwS y) Zy (SM x/\ifB ((LI (Arr.sh y))==Z0) Zy (SM x/\∃(x_2:Arr),syP (QO y) x_2 (Zz y)/\∀(y_2:Unit),True->∀(x_3:Nat),x≠x_3/\True->SM x_3/\SM x/\∃(x_4:Unit),Qfu y/\∀(y_3:Unit),True->∀(x_5:Nat),x_3≠x_5/\x≠x_5/\True->SM x_5/\SM x_3/\SM x/\∃(x_6:Unit),sgP (QO y) y (Qfw y x_2::Zz y)/\∀(y_4:Unit),True->∀(x_7:Nat),x_5≠x_7/\x_3≠x_7/\x≠x_7/\True->SM x_7/\SM x_5/\∃(x_8:Arr),syP (QO y) x_8 (Qfz y)/\∀(y_5:Unit),True->∀(x_9:Nat),x_7≠x_9/\x_5≠x_9/\x_3≠x_9/\x≠x_9/\True->SM x_9/\SM x/\∃(x_10:Unit),Qfu y/\∀(y_6:Unit),True->∃(x_11:Unit),SM (QhN y)/\∀(y_7:Unit),True->∃(x_12:Unit),(((SM (QhO y)/\(SM (QfC y)/\(∀(i:Nat),i<QfC y->SM (QhP y i)/\True)/\True)/\(SM (QfE y)/\(∀(i:Nat),i<QfE y->SM (QhQ y i)/\True)/\True)/\(SM (QfF y)/\(∀(i:Nat),i<QfF y->SM Z0/\QfG/\QfG/\(SM N0/\(∀(i:Nat),i<N0->True)/\True)/\True)/\True)/\True)/\True)/\GrH (QO y) y)/\∀(y_8:Unit),True->∀(x_13:Nat),x_9≠x_13/\x_7≠x_13/\x_5≠x_13/\x_3≠x_13/\x≠x_13/\True->SM x_13/\SM x_7/\SM x_5/\∃(x:Arr),(kbP x x (Qfy y::Qfz y)/\Arr.ok x)/\∀(y_9:Unit),True->SM x_9/\SM x_13/\∃(x:Arr),(kbP x x [Qfw y x_8,D.agg [ZI (Arr.k (Xi y)),SI (QhR y),SI (QhS y),D.sl N4 (LN (Arr.it (Xi y))) (fun i=>Qfv) Mode.any]]/\Arr.ok x)/\∀(y:Unit),True->Zy))) (by kernel_rfl) ?_
 delta DA GI LI LN N0 N1 N4 NI SI SM Z0 ZI Zx Qft Qfw Jm QhL QhM Qfx Qfy Qfz QfA QhN Xh Zy QhO QfB QfC QhP QfD QfE QhQ QfF QfG Xi QO QhR QhS Zz Qfu Xg QhJ QhK Qfv
 have da:(default:Arr)=Arr.mk 0 [] [] []:=rfl
 simp only[<- da]
 simp only[ne_eq,implies_true,Bj,true_and,and_true,beq_iff_eq,beq_eq_false_iff_ne,Bool.not_eq_true',Bool.not_eq_false',exists_const,forall_const]
 refine fun x=>⟨Be _,fun h1 h2=>?_⟩
 have T:GrH (bnN (rwL y)) y:=by
  unfold fwS at h1
  simp only[Bool.and_eq_true,decide_eq_true_eq,beq_iff_eq] at h1
  exact⟨⟨ho,h1.2⟩,fun q=>h2 (by rw[q];rfl),Bcw _⟩
 exact⟨y,⟨Be _,T⟩,fun x3 _=>⟨⟨Be _,T⟩,fun x5 _=>⟨⟨Be _,T⟩,fun x7 _=>⟨B9 (bnN (rwL y)) y,⟨Be _,Bbn T⟩,fun x9 _=>⟨⟨Be _,T⟩,T,fun x13 _=>⟨B9 (bnN (rwL y)) y,⟨Be _,(RF T).ok⟩,Ef (Br (bnN (rwL y)) (B9 (bnN (rwL y)) y)),Be _,(RS (Bbn T)).ok⟩⟩⟩⟩⟩⟩
open Go Go.Ab Go.RowKit
noncomputable def BcY:Array Value:=#[.agg #[.int .i64 0,.slice none 0 0,.slice none 0 0,.slice none 0 0]]
theorem Bad(os:Os):laidMet Try.prog RK ((IR os).forCall (fun _ _=>0) ⟨#[],BcY,[]⟩).memory :=
 ⟨[],(by first | exact .nil | constructor | simp[DataW.LaidVars,RK]),List.nodup_nil,fun _ _ h=>(by cases h)⟩
theorem Bel(os:Os){H:Type}(enc:TypeId×Value->H):∃x,DataW.whole enc Try.prog ((IR os).forCall (fun _ _=>0) ⟨#[],BcY,[]⟩).memory [26] [] false (BcY).toList 8=some x/\Rows.uptoSmall H (x.1++x.2.1)=true :=
 BaG (by kernel_rfl)
theorem Baj{H : Type}{enc : TypeId×Value -> H}
  (W:World) (base:Nat) (args:Array Value) (ds gs:List (DataW H)) (before:List MemPlace)
  (hval:∀(j:Nat) t v,Try.f3.params[j]? =some t->args[j]? =some v->Value.okWide Try.prog W .any base t v)
  (hW:DataW.Whole enc Try.prog Try.f3.params.toList Rows.topSortsSpec.vars false W args.toList ds gs before)
  (hsz:(DataW.weightsEach Try.prog (Try.f3.params.toList++Rows.topSortsSpec.plain.varTypes Try.prog) (ds++gs)).all (·<=E3)=true) (hL:laidMetH Try.prog RK W) :
  Calls Try.prog 3 args W fun e W'=>∃v,e=.returned v/\Rows.topSortsSpec.post enc Try.prog Try.f3 false true false false W args v W':=by
 refine TT (rs:=[(26,RArr)]) laid (by rw[Try.params3];kernel_rfl) rfl (fun ds hd=>?_) (rt:=4) rfl Try.underlying4 (by rw[Try.params3];rfl) ?_ W (Bc8 hL) base args ds gs before hval hW hsz ?_
 ·rw[Try.params3] at hd
  match ds,hd with
  | [_],_=>exact⟨rfl,rfl,rfl⟩
 ·intro r hr
  simp only[List.mem_cons,List.not_mem_nil,or_false] at hr
  subst hr
  exact fun W n=>Uv W n
 ·intro Ds h
  obtain ⟨dy,_,rfl,hy,h⟩:=h.agg (by kernel_rfl)
  obtain rfl:=h.nil
  obtain ⟨y,⟨ho,_⟩,rfl⟩:=hy
  exact (CD.wk (Bah y ho) (by
   simp only[wkL,wkD]
   exact⟨Gl y,trivial⟩)).mono fun r S' ⟨_,_,hr,_⟩=>hr
theorem Bc9(os : Os)(started : os.Started)(H : Type)(enc : TypeId×Value -> H)(F : Stop.Interp) :
  ReturnsInHanded {} Try.checked os 3 .any ((Rows.OpenSpec.upto Rows.topSortsSpec).preRow enc Try.prog Try.f3 Rows.topSortsUptoRow.domain false Rows.topSortsUptoRow.laid) (((Rows.OpenSpec.upto Rows.topSortsSpec).at F).post enc Try.prog Try.f3 false true false false):=by
 obtain ⟨x,hx,hxk⟩:=Bel os enc
 refine returnsInHanded_of_row (C:=Try.checked) (s:=Rows.OpenSpec.upto Rows.topSortsSpec) own started (by kernel_rfl) Try.func3
  (witness_row_at (enc:=enc) (C:=Try.checked) false (IR os) BcY rfl (by kernel_rfl) (by kernel_rfl) (by kernel_rfl)
   (OpenSpec.preRow_of_cond 8 hx rfl (fun k hk=>by cases hk;exact hxk) (by kernel_rfl) (Bad os))) ?_
 intro W base args ds gs before hval hW _ hk _ hL _ _
 refine Baj W base args ds gs before hval hW ?_ hL
 have e:Try.f3.params.toList++Rows.topSortsSpec.plain.varTypes Try.prog=[26]:=by rw[Try.params3];kernel_rfl
 rw[e]
 exact BcU BeP (by decide +kernel) (hk _ rfl)
theorem BeH:Rows.TopSortsUptoSaid :=
 OpenClaim.holds_of_cond 3 Try.f3 rfl rfl rfl rfl rfl rfl rfl ⟨rfl,rfl,rfl,rfl,rfl⟩ rfl rfl rfl rfl rfl (by kernel_rfl) Try.func3 (by kernel_rfl)
  (of_decide_eq_true (by kernel_rfl)) (by unfold Func.isWrapper;first | (rw[if_pos (by decide +kernel)];kernel_rfl) | (rw[if_neg (by decide +kernel)];exact⟨rfl,rfl⟩))
  (fun os started H enc _ F=>by rw[OpenClaim.pre_eq_preRow];exact Bc9 os started H enc F)
theorem provedTopSorts:Rows.TopSortsUptoSaid:=BeH
end
end Go.Proofs.Ytaempooepcejaaa
