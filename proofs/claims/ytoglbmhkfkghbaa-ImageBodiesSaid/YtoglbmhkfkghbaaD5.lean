/- Functions of the given program and what each of them computes: lemmas towards the statement, their conditions stated with each of them. -/
import Derived.Test.YtoglbmhkfkghbaaD4
namespace Go.Proofs.Ytoglbmhkfkghbaa
open Go Go.Ab
def conFV (bV cV:Nat) (c:CodD) (f:Nat):Con := fun k ds S => match k with
  | 63 => match ds with
    | [a0,a1,.agg [.int .i64 a,.int .i64 b,.int .i64 d,.int .i64 e]] => some (pQ [.agg (rowV c bV cV),.int .i64 f,.agg (I4.row ⟨a,b,d,e⟩)] (offD (effC c f ⟨a,b,d,e⟩)) (offQ (effC c f ⟨a,b,d,e⟩)) (weakL [a0,a1] [.agg (rowV c bV cV),.int .i64 f]∧I4.ok ⟨a,b,d,e⟩))
    | _ => none
  | k => conE k ds S
theorem conF_okV {bV cV:Nat} {c:CodD} {f:Nat} (hf:f < c.funs.length) (hc:c.ok):ConOk Try.prog (conFV bV cV c f) := by
  intro k ds S A h
  unfold conFV at h
  split at h
  · split at h
    · injection h with h; subst h
      exact pQ_ok fun ⟨hw,hx⟩ => ⟨⟨hw.1,hw.2.1,weakD_refl _,trivial⟩,(of_okV bV cV c f ⟨_,_,_,_⟩ hf hc hx).mono fun _ _ h => h⟩
    · cases h
  · exact conE_ok _ _ _ _ h
noncomputable def EFV (bV cV:Nat) (c:CodD) (f:Nat):Senv := { EC (conFV bV cV c f) 139 3 [4,5,6,7,8,9,10,11,12,13,14,15,16,17,19,45,49,50,51,52,73,108,116,117,118,119,136] (fun _ => ([],[])) with inl := inlF (conFV bV cV c f) }
def CBV (bV cV:Nat) (c:CodD) (d:O4):Prop := d.row = (rowV c bV cV)
def cutFV (bV cV:Nat) (c:CodD) (f:Nat) (d2:D):Option LoopAnn :=
  match d2 with
  | .ref _ x2 _ => some
    { slots := [6],keep := [],α := Nat × FnD × O4
      st := fun y => ([.ref 1 y.1 0],⟨[(1,y.1,.cells (FnD.row y.2.1)),(0,x2,.cells (O4.row y.2.2))],[]⟩)
      inv := fun y => y.2.1 = c.funs.getD f default∧CBV bV cV c y.2.2,mu := fun _ => 0 }
  | _ => none
noncomputable def E39V (bV cV:Nat) (c:CodD) (f:Nat):Senv := { EFV bV cV c f with
  mg := fun id => match id with
    | 13 => 2
    | _ => 0
  cut := fun id env _ => match id with
    | 1 => cutFV bV cV c f (Ab.look env 2)
    | _ => none
  ann2 := fun b _ S => match b with
    | 0 => annF1 c f (c.funs.getD f default).code.length S.objs
    | _ => none
  ann := fun b env S => match b with
    | 2 => annF2 c f (c.funs.getD f default).code.length (Ab.look env 9) (Ab.look env 10) (Ab.look env 11) (vecOf S)
    | _ => none
  bcut := fun b _ S => match b with
    | 0 => annB c f (c.funs.getD f default).code.length S.objs
    | _ => none }
noncomputable section
def bc7vq0 (p0:CodD) (p1:Nat):FnD := GF p0 p1
def bc7vq1 (p0:FnD) (p1:CodD) (p2 p3 p4:Nat) (p5:O4):Prop := p0 = bc7vq0 p1 p2∧CBV p3 p4 p1 p5
def bc7vq2 (p0:Nat):Nat := Int.toNat (↑p0:Int)
def bc7vq3 (p0:CodD) (p1:Nat):FnD := GF p0 (bc7vq2 p1)
def bc7vq4 (p0:FnD):Int := FnD.slots p0
def bc7vq5 (p0:CodD) (p1:Nat):List I4 := FnD.code (bc7vq3 p0 p1)
def bc7vq6 (p0:CodD) (p1:Nat):Nat := LN (bc7vq5 p0 p1)
def bc7vq7 (p0:FnD):List I4 := FnD.code p0
def bc7vq8 (p0:FnD):Nat := LN (bc7vq7 p0)
def bc7vq9:I4 := D4
def bc7vq10 (p0:CodD) (p1 p2:Nat):I4 := List.getD (bc7vq5 p0 p1) p2 bc7vq9
def bc7vq11 (p0:FnD) (p1:Nat):I4 := List.getD (bc7vq7 p0) p1 bc7vq9
def bc7vq12 (p0:FnD) (p1:Nat):List D := (R4 (bc7vq11 p0 p1))
def bc7vq13 (p0:CodD) (p1:Nat):List I4 := FnD.code (bc7vq0 p0 p1)
def bc7vq14 (p0:CodD) (p1:Nat):Nat := LN (bc7vq13 p0 p1)
def bc7vq15 (p0:CodD) (p1 p2:Nat):I4 := List.getD (bc7vq13 p0 p1) p2 bc7vq9
def bc7vq16 (p0:CodD):D := D.sl N2 (LN (CodD.funs p0)) (fun (i:Nat) => [ZI (FnD.slots (bc7vq0 p0 i)),D.sl N4 (bc7vq14 p0 i) (fun (i_1:Nat) => (R4 (bc7vq15 p0 i i_1))) Mode.any]) Mode.any
def bc7vq17 (p0:CodD):D := D.sl N4 (LN (CodD.kers p0)) (fun (i:Nat) => KeD.row (GK p0 i)) Mode.any
def bc7vq18 (p0:CodD):D := D.sl N2 (LN (CodD.lanes p0)) (fun (i:Nat) => LaD.row (GL p0 i)) Mode.any
def bc7vq19 (p0:FnD):Bool := bif decide (Z0 ≤ bc7vq4 p0) then decide (bc7vq4 p0 ≤ (1000:Int)) else false
def bc7vq20 (p0:CodD) (p1:Nat):Prop := True∧∃ (_y:Unit),True∧(Z0 = (NI (Option.getD (funS p0 p1) N0))∧false = Option.isSome (funS p0 p1)∧True)∧True∧True
def bc7vq21 (p0:FnD):Int := (NI (bc7vq8 p0))
def bc7vq22 (p0:FnD):Int := IntKind.wrap IntKind.i64 (bc7vq21 p0 - Z1)
def bc7vq23 (p0:CodD) (p1 p2 p3:Nat) (p4:List Bool):Prop := FunHead p0 p1 p2 [] p3 p4
def bc7vq24:Prop := SM N0∧(∀ (i:Nat),i < N0→eqOf (List D) [] [])∧True
def bc7vq25 (p0:FnD):Nat := Int.toNat (bc7vq21 p0)
def bc7vq26 (p0:FnD):D := D.sl N4 (bc7vq8 p0) (fun (i:Nat) => bc7vq12 p0 i) Mode.any
def bc7vq27 (p0:Nat) (p1:FnD) (p2:Nat) (p3 p4 p5 p6:D):List (Nat × Nat × AObj) := [(N1,p0,AObj.cells [ZI (bc7vq4 p1),bc7vq26 p1]),(N0,p2,AObj.cells [p3,p4,p5,p6])]
def bc7vq28 (p0:Nat) (p1:FnD) (p2 p3:Nat) (p4 p5 p6 p7:D):St := St.mk ((N2,p0,AObj.vec N1 (bc7vq25 p1) (bc7vq25 p1) fun (_x:Nat) => [D.bool false]) :: bc7vq27 p2 p1 p3 p4 p5 p6 p7) []
def bc7vq29 (p0:List Bool) (p1:Nat):List D := [D.bool (List.getD p0 p1 false)]
def bc7vq30 (p0:Nat) (p1:CodD) (p2:Nat) (p3:List Bool) (p4:Nat) (p5:FnD) (p6:Nat) (p7 p8 p9 p10:D):List (Nat × Nat × AObj) := (N2,p0,AObj.vec N1 (bc7vq14 p1 p2) (bc7vq14 p1 p2) fun (i:Nat) => bc7vq29 p3 i) :: bc7vq27 p4 p5 p6 p7 p8 p9 p10
def bc7vq31 (p0:Nat) (p1:CodD) (p2:Nat) (p3:List Bool) (p4:Nat) (p5:FnD) (p6:Nat) (p7 p8 p9 p10:D):St := St.mk (bc7vq30 p0 p1 p2 p3 p4 p5 p6 p7 p8 p9 p10) []
def bc7vq32 (p0:CodD) (p1 p2:Nat) (p3:List UInt8) (p4:Nat) (p5:List Bool) (p6:Nat):Prop := FunHead p0 p1 p2 p3 p4 p5∧LN p3 ≤ p6
def bc7vq33:D := D.sl N1 N0 (fun (_x:Nat) => []) Mode.nil
def bc7vq34 (p0:List UInt8) (p1:Nat):List D := [ZB (BI p0 p1)]
def bc7vq35 (p0:Nat) (p1:List UInt8) (p2:Nat):Nat × AObj := (p0,AObj.vec N1 (LN p1) p2 fun (i:Nat) => bc7vq34 p1 i)
def bc7vq36 (p0:Nat) (p1:FnD):Bool := decide ((↑p0:Int) < bc7vq21 p1)
def bc7vq37 (p0:FnD):Int := (NI (bc7vq25 p0))
def bc7vq38 (p0:FnD) (p1:Nat):I4 := List.getD (bc7vq7 p0) (bc7vq2 p1) bc7vq9
def bc7vq39 (p0:FnD) (p1:Nat):Int := I4.a (bc7vq38 p0 p1)
def bc7vq40 (p0:FnD) (p1:Nat):Int := I4.b (bc7vq38 p0 p1)
def bc7vq41 (p0:FnD) (p1:Nat):Int := I4.c (bc7vq38 p0 p1)
def bc7vq42 (p0:FnD) (p1:Nat):Int := I4.d (bc7vq38 p0 p1)
def bc7vq43 (p0:FnD) (p1:Nat):I4 := I4.mk (bc7vq39 p0 p1) (bc7vq40 p0 p1) (bc7vq41 p0 p1) (bc7vq42 p0 p1)
def bc7vq44 (p0:D) (p1:Nat) (p2:CodD) (p3:Nat) (p4 p5 p6:D) (p7:Nat) (p8:FnD) (p9:Nat):Prop := ((weakD p0 (D.vs N0 p1 (LN (CodD.consts p2)) p3 N4)∧weakD p4 (bc7vq16 p2)∧weakD p5 (bc7vq17 p2)∧weakD p6 (bc7vq18 p2)∧True)∧SM (↑p7:Int)∧True)∧I4.ok (bc7vq43 p8 p9)
def bc7vq45 (p0:CodD) (p1:Nat) (p2:FnD) (p3:Nat):Option Eff := effC p0 p1 (bc7vq43 p2 p3)
def bc7vq46 (p0:CodD) (p1:Nat) (p2:FnD) (p3:Nat) (p4:Eff):Prop := offQ (bc7vq45 p0 p1 p2 p3) p4
def bc7vq47 (p0:CodD) (p1:Nat) (p2:FnD) (p3:Nat):Bool := Option.isSome (bc7vq45 p0 p1 p2 p3)
def bc7vq48 (p0 p1:List UInt8) (p2:CodD) (p3:Nat) (p4:FnD) (p5:Nat):Bool := p0 == [] && (p1 == [] && (bc7vq47 p2 p3 p4 p5 == false && true))
def bc7vq49 (p0:Nat) (p1:FnD):D := D.vs N2 p0 (bc7vq25 p1) (bc7vq25 p1) N1
def bc7vq50 (p0:Nat) (p1:FnD):Prop := SM (bc7vq49 p0 p1)
def bc7vq51 (p0 p1:Nat) (p2:FnD):Prop := SM (D.ref N1 p0 N0)∧bc7vq50 p1 p2∧True
def bc7vq52 (p0:CodD) (p1:Nat):Prop := SM (bc7vq14 p0 p1)
def bc7vq53 (p0:Nat) (p1:CodD) (p2:Nat):Prop := p0 < bc7vq14 p1 p2
def bc7vq54 (p0:Nat) (p1:FnD):Prop := SM p0∧(SM (bc7vq4 p1)∧(SM (bc7vq8 p1)∧(∀ (i:Nat),i < bc7vq8 p1→SM (bc7vq12 p1 i))∧True)∧True)∧True
def bc7vq55 (p0 p1:Nat) (p2:FnD) (p3:CodD) (p4 p5:Nat) (p6:List Bool) (p7:Nat):Prop := bc7vq51 p0 p1 p2∧∃ (x:Nat × Bool × List Bool),MidInv p3 p4 x.1 x.2.1 x.2.2∧((↑p5:Int) = (NI x.1)∧false = x.2.1∧True)∧(SM p1∧(bc7vq52 p3 p4∧bc7vq52 p3 p4∧∀ (i:Nat),bc7vq53 i p3 p4→updF (fun (i:Nat) => bc7vq29 p6 i) (bc7vq2 p7) [D.bool true] i = bc7vq29 x.2.2 i)∧bc7vq54 p0 p2)∧True
def bc7vq56 (p0:FnD) (p1:Nat):Bool := decide (bc7vq42 p0 p1 < Z0)
def bc7vq57 (p0:CodD) (p1:Nat) (p2:FnD) (p3:Nat):Prop := bc7vq47 p0 p1 p2 p3 = true
def bc7vq58 (p0:FnD) (p1:Nat):Bool := bc7vq39 p0 p1 == (25:Int)
def bc7vq59 (p0:FnD) (p1:Nat):Bool := bc7vq39 p0 p1 == (24:Int)
def bc7vq60 (p0:FnD) (p1:Nat):Bool := bif bc7vq58 p0 p1 then true else bc7vq59 p0 p1
def bc7vq61 (p0:Nat) (p1:FnD) (p2:Nat):Prop := SM p0∧ifB (bc7vq58 p1 p2) (true = bc7vq60 p1 p2∧True) (SM p0∧bc7vq59 p1 p2 = bc7vq60 p1 p2∧True)
def bc7vq62 (p0:FnD) (p1:Nat):Bool := decide (bc7vq40 p0 p1 ≤ (↑p1:Int))
def bc7vq63 (p0:FnD) (p1:Nat):Bool := bif bc7vq59 p0 p1 then bc7vq62 p0 p1 else false
def bc7vq64 (p0:FnD) (p1:Nat):Bool := bif bif bc7vq60 p0 p1 then false else false then true else bc7vq63 p0 p1
def bc7vq65 (p0:Nat) (p1:FnD) (p2:Nat):Prop := SM p0∧ifB (bc7vq59 p1 p2) (SM p0∧bc7vq62 p1 p2 = bc7vq64 p1 p2∧True) (false = bc7vq64 p1 p2∧True)
def bc7vq66 (p0:FnD):Prop := SM (ZI (bc7vq21 p0))
def bc7vq67 (p0:FnD):Prop := SM (bc7vq26 p0)∧bc7vq66 p0∧True
def bc7vq68 (p0 p1 p2:Nat) (p3:FnD) (p4:Nat):Prop := SM (ZI (↑p0:Int))∧SM (D.ref N0 p1 N0)∧SM (D.ref N1 p2 N0)∧bc7vq66 p3∧bc7vq50 p4 p3∧SM (D.bool true)∧bc7vq67 p3
def bc7vq69 (p0:CodD) (p1 p2:Nat):Nat := bc7vq14 p0 p1 - p2
def bc7vq70 (p0:CodD) (p1 p2 p3:Nat):Prop := bc7vq69 p0 p1 p2 < bc7vq69 p0 p1 p3
def bc7vq71 (p0 p1:Nat):Prop := IntKind.wrap IntKind.i64 ((↑p0:Int) + Z1) = (↑p1:Int)
def bc7vq72 (p0:Nat) (p1 p2:List UInt8) (p3:CodD) (p4:Nat) (p5:FnD) (p6:Nat):Nat × AObj := (p0,AObj.cells [D.str p1,D.str p2,D.bool (bc7vq47 p3 p4 p5 p6)])
def bc7vq73 (p0:Nat) (p1:FnD) (p2:Nat):Nat × AObj := (p0,AObj.cells [ZI (bc7vq39 p1 p2),ZI (bc7vq40 p1 p2),ZI (bc7vq41 p1 p2),ZI (bc7vq42 p1 p2)])
def bc7vq74 (p0:FnD) (p1:Nat) (p2:List UInt8):Bool := bif bif bc7vq60 p0 p1 then decide (Z0 < (LI p2)) else false then true else bc7vq63 p0 p1
def bc7vq75 (p0:Nat) (p1:FnD) (p2:Nat) (p3:List UInt8):Prop := SM p0∧ifB (bc7vq59 p1 p2) (SM p0∧bc7vq62 p1 p2 = bc7vq74 p1 p2 p3∧True) (false = bc7vq74 p1 p2 p3∧True)
def bc7vq76 (p0 p1:Nat) (p2:FnD) (p3:CodD) (p4 p5:Nat) (p6:List Bool):Prop := bc7vq51 p0 p1 p2∧∃ (x:Nat × Bool × List Bool),MidInv p3 p4 x.1 x.2.1 x.2.2∧((↑p5:Int) = (NI x.1)∧true = x.2.1∧True)∧(SM p1∧(bc7vq52 p3 p4∧bc7vq52 p3 p4∧∀ (i:Nat),bc7vq53 i p3 p4→bc7vq29 p6 i = bc7vq29 x.2.2 i)∧bc7vq54 p0 p2)∧True
def bc7vq77 (p0 p1:Nat) (p2:FnD) (p3:CodD) (p4 p5:Nat) (p6:List Bool) (p7:Nat) (p8:List UInt8):Prop := bc7vq51 p0 p1 p2∧∃ (x:Nat × Bool × List Bool),MidInv p3 p4 x.1 x.2.1 x.2.2∧((↑p5:Int) = (NI x.1)∧false = x.2.1∧True)∧(SM p1∧(bc7vq52 p3 p4∧bc7vq52 p3 p4∧∀ (i:Nat),bc7vq53 i p3 p4→updF (fun (i:Nat) => bc7vq29 p6 i) (bc7vq2 p7) [D.bool ((LI p8) == Z0)] i = bc7vq29 x.2.2 i)∧bc7vq54 p0 p2)∧True
def bc7vq78 (p0 p1 p2:List UInt8):Nat := LN (newA p0 p1 p2)
def bc7vq79 (p0:FnD) (p1:Nat) (p2 p3 p4:List UInt8):Bool := bif bif bc7vq60 p0 p1 then decide (Z0 < (NI (bc7vq78 p2 p3 p4))) else false then true else bc7vq63 p0 p1
def bc7vq80 (p0:Nat) (p1:FnD) (p2:Nat) (p3 p4 p5:List UInt8):Prop := SM p0∧ifB (bc7vq59 p1 p2) (SM p0∧bc7vq62 p1 p2 = bc7vq79 p1 p2 p3 p4 p5∧True) (false = bc7vq79 p1 p2 p3 p4 p5∧True)
def bc7vq81 (p0:Nat) (p1 p2 p3:List UInt8) (p4:Nat):Prop := (if (↑p0:Int) < (NI (bc7vq78 p1 p2 p3)) then (NI (bc7vq78 p1 p2 p3)) else (↑p0:Int)) = (↑p4:Int)∧True
def bc7vq82 (p0:Nat) (p1:CodD) (p2:Nat) (p3 p4:Bool):Prop := p0 ≤ bc7vq14 p1 p2∧(p3 = false→p0 = N0∧p4 = false)∧(p3 = true→p4 = true∧guardsB (empS p1 p2 N0 (bc7vq13 p1 p2) []) (List.take p0 (bc7vq13 p1 p2)) = true)
def bc7vq83 (p0:Nat) (p1:CodD) (p2:Nat) (p3:List Bool):Prop := (SM p0∧(bc7vq52 p1 p2∧bc7vq52 p1 p2∧∀ (i:Nat),bc7vq53 i p1 p2→SM (bc7vq29 p3 i))∧True)∧True
def bc7vq84 (p0:FnD) (p1:Nat):Bool := bc7vq39 p0 p1 != (24:Int)
def bc7vq85 (p0:FnD) (p1:Nat):Nat := Int.toNat (bc7vq40 p0 p1)
def bc7vq86 (p0:List Bool) (p1:FnD) (p2:Nat):Bool := List.getD p0 (bc7vq85 p1 p2) false
def bc7vq87 (p0:Bool) (p1:FnD) (p2:Nat) (p3:List Bool):Bool := bif p0 then bif bc7vq84 p1 p2 then true else bc7vq86 p3 p1 p2 else false
end
set_option maxHeartbeats 4000000 in
theorem fun_okV (bV cV:Nat) (c:CodD) (f:Nat) (hf:f < c.funs.length) (hc:c.ok) (hn:(c.funs.getD f default).code.length ≤ 65536):ACalls Try.prog 39 [.agg (rowV c bV cV),.int .i64 f] ⟨[],[]⟩ (SpecR (sC [.agg (rowV c bV cV),.int .i64 f] (funD (funS c f))) ()) := by
  refine con_of (A := sC _ _) (x := ()) (E := E39V bV cV c f) ⟨tab_ok,conF_okV hf hc,mix,inlF_ok (conF_okV hf hc),eqs_ok⟩ Try.func39 rfl (by kernel_rfl) rfl (by simp [sC,E39V,EFV,EC,E0]) ?_
  refine vc_eq (T :=
    ∀ (x:Nat),True→(SM x∧side (Z0 ≤ (↑f:Int)∧(↑f:Int) < (LI (CodD.funs c))) (∀ (x_1:Nat),x ≠ x_1∧True→SM x_1∧∃ (x_2:Nat × FnD × O4),bc7vq1 x_2.2.1 c f bV cV x_2.2.2∧(x_1 = x_2.1∧True)∧(x_1 = x_2.1∧(FnD.slots (bc7vq3 c f) = bc7vq4 x_2.2.1∧(bc7vq6 c f = bc7vq8 x_2.2.1∧(∀ (i:Nat),i < bc7vq6 c f→(R4 (bc7vq10 c f i)) = bc7vq12 x_2.2.1 i)∧True)∧True)∧SM x∧(weakD (D.vs N0 bV (LN (CodD.consts c)) cV N4) x_2.2.2.1∧weakD (bc7vq16 c) x_2.2.2.2.1∧weakD (bc7vq17 c) x_2.2.2.2.2.1∧weakD (bc7vq18 c) x_2.2.2.2.2.2∧True)∧True)∧True))∧∀ (x_1:Nat × FnD × O4),bc7vq1 x_1.2.1 c f bV cV x_1.2.2→SM x_1.1∧SM x_1.1∧ifB (decide (Z0 ≤ bc7vq4 x_1.2.1)) (decide (bc7vq4 x_1.2.1 ≤ (1000:Int)) = bc7vq19 x_1.2.1∧True) (false = bc7vq19 x_1.2.1∧True)∧True∧ifB (!bc7vq19 x_1.2.1) (bc7vq20 c f) (ifB (bc7vq21 x_1.2.1 == Z0) (bc7vq20 c f) (SM x_1.1∧side (Z0 ≤ bc7vq22 x_1.2.1∧bc7vq22 x_1.2.1 < bc7vq21 x_1.2.1) (ifB (I4.a (List.getD (bc7vq7 x_1.2.1) (Int.toNat (bc7vq22 x_1.2.1)) bc7vq9) != (25:Int)) (bc7vq20 c f) (side (Z0 ≤ bc7vq21 x_1.2.1∧bc7vq21 x_1.2.1 ≤ bc7vq21 x_1.2.1∧Z1 * bc7vq21 x_1.2.1 ≤ (281474976710656:Int)∧bc7vq21 x_1.2.1 ≤ (9223372036854775807:Int)) (∀ (x_2:Nat),x_1.1 ≠ x_2∧x ≠ x_2∧True→SM x_1.1∧(((∃ (x_3:Nat × Nat × List Bool),bc7vq23 c f x_3.1 x_3.2.1 x_3.2.2∧True∧(Z0 = (NI x_3.1)∧bc7vq24∧Z0 = (NI x_3.2.1)∧True)∧StTo (bc7vq28 x_2 x_1.2.1 x_1.1 x x_1.2.2.1 x_1.2.2.2.1 x_1.2.2.2.2.1 x_1.2.2.2.2.2) (bc7vq31 x_2 c f x_3.2.2 x_1.1 x_1.2.1 x x_1.2.2.1 x_1.2.2.2.1 x_1.2.2.2.2.1 x_1.2.2.2.2.2))∨∃ (x_3:(Nat × Nat × List Bool) × List UInt8 × Nat × Nat),bc7vq32 c f x_3.1.1 x_3.2.1 x_3.1.2.1 x_3.1.2.2 x_3.2.2.2∧True∧(Z0 = (NI x_3.1.1)∧bc7vq33 = D.vs (3:Nat) x_3.2.2.1 (LN x_3.2.1) x_3.2.2.2 N1∧Z0 = (NI x_3.1.2.1)∧True)∧StTo (bc7vq28 x_2 x_1.2.1 x_1.1 x x_1.2.2.1 x_1.2.2.2.1 x_1.2.2.2.2.1 x_1.2.2.2.2.2) (St.mk (((3:Nat),bc7vq35 x_3.2.2.1 x_3.2.1 x_3.2.2.2) :: bc7vq30 x_2 c f x_3.1.2.2 x_1.1 x_1.2.1 x x_1.2.2.1 x_1.2.2.2.1 x_1.2.2.2.2.1 x_1.2.2.2.2.2) []))∧(∀ (x_3:Nat × Nat × List Bool),bc7vq23 c f x_3.1 x_3.2.1 x_3.2.2→ifB (bc7vq36 x_3.1 x_1.2.1) (side (Z0 ≤ (NI x_3.1)∧(NI x_3.1) < bc7vq21 x_1.2.1) (∀ (x_4:Nat),x_2 ≠ x_4∧x_1.1 ≠ x_4∧x ≠ x_4∧True→SM x_4∧side (Z0 ≤ (NI x_3.1)∧(NI x_3.1) < bc7vq37 x_1.2.1) (SM x_2∧side (bc7vq2 x_3.1 < bc7vq14 c f) (SM x∧SM x_4∧bc7vq44 x_1.2.2.1 bV c cV x_1.2.2.2.1 x_1.2.2.2.2.1 x_1.2.2.2.2.2 f x_1.2.1 x_3.1∧∀ (y:Eff),bc7vq46 c f x_1.2.1 x_3.1 y→∀ (x_5:Nat),x_4 ≠ x_5∧x_2 ≠ x_5∧x_1.1 ≠ x_5∧x ≠ x_5∧True→SM x_5∧SM x_5∧ifB (bc7vq48 y.1 y.2 c f x_1.2.1 x_3.1) (bc7vq55 x_1.1 x_2 x_1.2.1 c f x_3.2.1 x_3.2.2 x_3.1) (SM x_4∧ifB (bc7vq56 x_1.2.1 x_3.1) (bc7vq55 x_1.1 x_2 x_1.2.1 c f x_3.2.1 x_3.2.2 x_3.1) (SM x_5∧(bc7vq57 c f x_1.2.1 x_3.1→LN y.2 ≤ (1000000:Nat)∧LN y.1 ≤ (1000000:Nat))∧ifB (okA [] y.1 (bc7vq47 c f x_1.2.1 x_3.1)) (ifB (List.isEmpty y.2) (bc7vq61 x_4 x_1.2.1 x_3.1∧ifB (bc7vq60 x_1.2.1 x_3.1) (bc7vq65 x_4 x_1.2.1 x_3.1) (bc7vq65 x_4 x_1.2.1 x_3.1)∧ifB (bc7vq64 x_1.2.1 x_3.1) (bc7vq55 x_1.1 x_2 x_1.2.1 c f x_3.2.1 x_3.2.2 x_3.1) (bc7vq68 f x x_1.1 x_1.2.1 x_2∧((∃ (x_6:Nat × Nat × List Bool),bc7vq23 c f x_6.1 x_6.2.1 x_6.2.2∧bc7vq70 c f x_6.1 x_3.1∧(bc7vq71 x_3.1 x_6.1∧bc7vq24∧(if (NI x_3.2.1) < Z0 then Z0 else (NI x_3.2.1)) = (NI x_6.2.1)∧True)∧StTo (St.mk ((N4,bc7vq72 x_5 y.1 y.2 c f x_1.2.1 x_3.1) :: ((3:Nat),bc7vq73 x_4 x_1.2.1 x_3.1) :: (N2,x_2,AObj.vec N1 (bc7vq14 c f) (bc7vq14 c f) (updF (fun (i:Nat) => bc7vq29 x_3.2.2 i) (bc7vq2 x_3.1) [D.bool true])) :: bc7vq27 x_1.1 x_1.2.1 x x_1.2.2.1 x_1.2.2.2.1 x_1.2.2.2.2.1 x_1.2.2.2.2.2) []) (bc7vq31 x_2 c f x_6.2.2 x_1.1 x_1.2.1 x x_1.2.2.1 x_1.2.2.2.1 x_1.2.2.2.2.1 x_1.2.2.2.2.2))∨∃ (x_6:(Nat × Nat × List Bool) × List UInt8 × Nat × Nat),bc7vq32 c f x_6.1.1 x_6.2.1 x_6.1.2.1 x_6.1.2.2 x_6.2.2.2∧bc7vq70 c f x_6.1.1 x_3.1∧(bc7vq71 x_3.1 x_6.1.1∧bc7vq33 = D.vs (3:Nat) x_6.2.2.1 (LN x_6.2.1) x_6.2.2.2 N1∧(if (NI x_3.2.1) < Z0 then Z0 else (NI x_3.2.1)) = (NI x_6.1.2.1)∧True)∧StTo (St.mk ((N4,bc7vq72 x_5 y.1 y.2 c f x_1.2.1 x_3.1) :: ((3:Nat),bc7vq73 x_4 x_1.2.1 x_3.1) :: (N2,x_2,AObj.vec N1 (bc7vq14 c f) (bc7vq14 c f) (updF (fun (i:Nat) => bc7vq29 x_3.2.2 i) (bc7vq2 x_3.1) [D.bool true])) :: bc7vq27 x_1.1 x_1.2.1 x x_1.2.2.1 x_1.2.2.2.1 x_1.2.2.2.2.1 x_1.2.2.2.2.2) []) (St.mk (((3:Nat),bc7vq35 x_6.2.2.1 x_6.2.1 x_6.2.2.2) :: bc7vq30 x_2 c f x_6.1.2.2 x_1.1 x_1.2.1 x x_1.2.2.1 x_1.2.2.2.1 x_1.2.2.2.2.1 x_1.2.2.2.2.2) [])))) (∀ (x_6 cap:Nat),LN y.2 ≤ cap→bc7vq61 x_4 x_1.2.1 x_3.1∧ifB (bc7vq60 x_1.2.1 x_3.1) (ifB (decide (Z0 < (LI y.2))) (true = bc7vq74 x_1.2.1 x_3.1 y.2∧True) (bc7vq75 x_4 x_1.2.1 x_3.1 y.2)) (bc7vq75 x_4 x_1.2.1 x_3.1 y.2)∧ifB (bc7vq74 x_1.2.1 x_3.1 y.2) (bc7vq55 x_1.1 x_2 x_1.2.1 c f x_3.2.1 x_3.2.2 x_3.1) (bc7vq68 f x x_1.1 x_1.2.1 x_2∧((∃ (x_7:Nat × Nat × List Bool),bc7vq23 c f x_7.1 x_7.2.1 x_7.2.2∧bc7vq70 c f x_7.1 x_3.1∧(bc7vq71 x_3.1 x_7.1∧D.vs (5:Nat) x_6 (LN y.2) cap N1 = bc7vq33∧(if (NI x_3.2.1) < (LI y.2) then (LI y.2) else (NI x_3.2.1)) = (NI x_7.2.1)∧True)∧StTo (St.mk (((5:Nat),bc7vq35 x_6 y.2 cap) :: (N4,bc7vq72 x_5 y.1 y.2 c f x_1.2.1 x_3.1) :: ((3:Nat),bc7vq73 x_4 x_1.2.1 x_3.1) :: (N2,x_2,AObj.vec N1 (bc7vq14 c f) (bc7vq14 c f) (updF (fun (i:Nat) => bc7vq29 x_3.2.2 i) (bc7vq2 x_3.1) [D.bool true])) :: bc7vq27 x_1.1 x_1.2.1 x x_1.2.2.1 x_1.2.2.2.1 x_1.2.2.2.2.1 x_1.2.2.2.2.2) []) (bc7vq31 x_2 c f x_7.2.2 x_1.1 x_1.2.1 x x_1.2.2.1 x_1.2.2.2.1 x_1.2.2.2.2.1 x_1.2.2.2.2.2))∨∃ (x_7:(Nat × Nat × List Bool) × List UInt8 × Nat × Nat),bc7vq32 c f x_7.1.1 x_7.2.1 x_7.1.2.1 x_7.1.2.2 x_7.2.2.2∧bc7vq70 c f x_7.1.1 x_3.1∧(bc7vq71 x_3.1 x_7.1.1∧(x_6 = x_7.2.2.1∧LN y.2 = LN x_7.2.1∧cap = x_7.2.2.2)∧(if (NI x_3.2.1) < (LI y.2) then (LI y.2) else (NI x_3.2.1)) = (NI x_7.1.2.1)∧True)∧StTo (St.mk (((5:Nat),bc7vq35 x_6 y.2 cap) :: (N4,bc7vq72 x_5 y.1 y.2 c f x_1.2.1 x_3.1) :: ((3:Nat),bc7vq73 x_4 x_1.2.1 x_3.1) :: (N2,x_2,AObj.vec N1 (bc7vq14 c f) (bc7vq14 c f) (updF (fun (i:Nat) => bc7vq29 x_3.2.2 i) (bc7vq2 x_3.1) [D.bool true])) :: bc7vq27 x_1.1 x_1.2.1 x x_1.2.2.1 x_1.2.2.2.1 x_1.2.2.2.2.1 x_1.2.2.2.2.2) []) (St.mk (((3:Nat),bc7vq35 x_7.2.2.1 x_7.2.1 x_7.2.2.2) :: bc7vq30 x_2 c f x_7.1.2.2 x_1.1 x_1.2.1 x x_1.2.2.1 x_1.2.2.2.1 x_1.2.2.2.2.1 x_1.2.2.2.2.2) []))))) (bc7vq61 x_4 x_1.2.1 x_3.1∧(SM true∧True)∧bc7vq55 x_1.1 x_2 x_1.2.1 c f x_3.2.1 x_3.2.2 x_3.1))))))) (bc7vq76 x_1.1 x_2 x_1.2.1 c f x_3.2.1 x_3.2.2))∧∀ (x_3:(Nat × Nat × List Bool) × List UInt8 × Nat × Nat),bc7vq32 c f x_3.1.1 x_3.2.1 x_3.1.2.1 x_3.1.2.2 x_3.2.2.2→ifB (bc7vq36 x_3.1.1 x_1.2.1) (side (Z0 ≤ (NI x_3.1.1)∧(NI x_3.1.1) < bc7vq21 x_1.2.1) (∀ (x_4:Nat),x_3.2.2.1 ≠ x_4∧x_2 ≠ x_4∧x_1.1 ≠ x_4∧x ≠ x_4∧True→SM x_4∧side (Z0 ≤ (NI x_3.1.1)∧(NI x_3.1.1) < bc7vq37 x_1.2.1) (SM x_2∧side (bc7vq2 x_3.1.1 < bc7vq14 c f) (SM x∧SM x_4∧bc7vq44 x_1.2.2.1 bV c cV x_1.2.2.2.1 x_1.2.2.2.2.1 x_1.2.2.2.2.2 f x_1.2.1 x_3.1.1∧∀ (y:Eff),bc7vq46 c f x_1.2.1 x_3.1.1 y→∀ (x_5:Nat),x_4 ≠ x_5∧x_3.2.2.1 ≠ x_5∧x_2 ≠ x_5∧x_1.1 ≠ x_5∧x ≠ x_5∧True→SM x_5∧SM x_5∧ifB (bc7vq48 y.1 y.2 c f x_1.2.1 x_3.1.1) (bc7vq77 x_1.1 x_2 x_1.2.1 c f x_3.1.2.1 x_3.1.2.2 x_3.1.1 x_3.2.1) (SM x_4∧ifB (bc7vq56 x_1.2.1 x_3.1.1) (bc7vq77 x_1.1 x_2 x_1.2.1 c f x_3.1.2.1 x_3.1.2.2 x_3.1.1 x_3.2.1) (SM x_5∧∃ (st:List UInt8),(LN st = LN x_3.2.1∧LN x_3.2.1 ≤ x_3.2.2.2∧(bc7vq57 c f x_1.2.1 x_3.1.1→LN st + LN y.2 ≤ (1000000:Nat)∧LN y.1 ≤ (1000000:Nat))∧(SM x_3.2.2.1∧(SM (LN x_3.2.1)∧SM x_3.2.2.2∧∀ (i:Nat),i < LN x_3.2.1→bc7vq34 x_3.2.1 i = bc7vq34 st i)∧True)∧True)∧ifB (okA st y.1 (bc7vq47 c f x_1.2.1 x_3.1.1)) (∀ (x' cap':Nat),bc7vq78 st y.1 y.2 ≤ cap'→bc7vq61 x_4 x_1.2.1 x_3.1.1∧ifB (bc7vq60 x_1.2.1 x_3.1.1) (ifB (decide (Z0 < (NI (bc7vq78 st y.1 y.2)))) (true = bc7vq79 x_1.2.1 x_3.1.1 st y.1 y.2∧True) (bc7vq80 x_4 x_1.2.1 x_3.1.1 st y.1 y.2)) (bc7vq80 x_4 x_1.2.1 x_3.1.1 st y.1 y.2)∧ifB (bc7vq79 x_1.2.1 x_3.1.1 st y.1 y.2) (bc7vq77 x_1.1 x_2 x_1.2.1 c f x_3.1.2.1 x_3.1.2.2 x_3.1.1 x_3.2.1) (bc7vq68 f x x_1.1 x_1.2.1 x_2∧((∃ (x_6:Nat × Nat × List Bool),bc7vq23 c f x_6.1 x_6.2.1 x_6.2.2∧bc7vq70 c f x_6.1 x_3.1.1∧(bc7vq71 x_3.1.1 x_6.1∧D.vs (3:Nat) x' (bc7vq78 st y.1 y.2) cap' N1 = bc7vq33∧bc7vq81 x_3.1.2.1 st y.1 y.2 x_6.2.1)∧StTo (St.mk (((3:Nat),x',AObj.vec N1 (bc7vq78 st y.1 y.2) cap' fun (i:Nat) => [ZB (BI (newA st y.1 y.2) i)]) :: ((5:Nat),bc7vq72 x_5 y.1 y.2 c f x_1.2.1 x_3.1.1) :: (N4,bc7vq73 x_4 x_1.2.1 x_3.1.1) :: (N2,x_2,AObj.vec N1 (bc7vq14 c f) (bc7vq14 c f) (updF (fun (i:Nat) => bc7vq29 x_3.1.2.2 i) (bc7vq2 x_3.1.1) [D.bool ((LI x_3.2.1) == Z0)])) :: bc7vq27 x_1.1 x_1.2.1 x x_1.2.2.1 x_1.2.2.2.1 x_1.2.2.2.2.1 x_1.2.2.2.2.2) []) (bc7vq31 x_2 c f x_6.2.2 x_1.1 x_1.2.1 x x_1.2.2.1 x_1.2.2.2.1 x_1.2.2.2.2.1 x_1.2.2.2.2.2))∨∃ (x_6:(Nat × Nat × List Bool) × List UInt8 × Nat × Nat),bc7vq32 c f x_6.1.1 x_6.2.1 x_6.1.2.1 x_6.1.2.2 x_6.2.2.2∧bc7vq70 c f x_6.1.1 x_3.1.1∧(bc7vq71 x_3.1.1 x_6.1.1∧(x' = x_6.2.2.1∧bc7vq78 st y.1 y.2 = LN x_6.2.1∧cap' = x_6.2.2.2)∧bc7vq81 x_3.1.2.1 st y.1 y.2 x_6.1.2.1)∧StTo (St.mk (((3:Nat),x',AObj.vec N1 (bc7vq78 st y.1 y.2) cap' fun (i:Nat) => [ZB (BI (newA st y.1 y.2) i)]) :: ((5:Nat),bc7vq72 x_5 y.1 y.2 c f x_1.2.1 x_3.1.1) :: (N4,bc7vq73 x_4 x_1.2.1 x_3.1.1) :: (N2,x_2,AObj.vec N1 (bc7vq14 c f) (bc7vq14 c f) (updF (fun (i:Nat) => bc7vq29 x_3.1.2.2 i) (bc7vq2 x_3.1.1) [D.bool ((LI x_3.2.1) == Z0)])) :: bc7vq27 x_1.1 x_1.2.1 x x_1.2.2.1 x_1.2.2.2.1 x_1.2.2.2.2.1 x_1.2.2.2.2.2) []) (St.mk (((3:Nat),bc7vq35 x_6.2.2.1 x_6.2.1 x_6.2.2.2) :: bc7vq30 x_2 c f x_6.1.2.2 x_1.1 x_1.2.1 x x_1.2.2.1 x_1.2.2.2.1 x_1.2.2.2.2.1 x_1.2.2.2.2.2) [])))) (bc7vq61 x_4 x_1.2.1 x_3.1.1∧(SM true∧True)∧bc7vq77 x_1.1 x_2 x_1.2.1 c f x_3.1.2.1 x_3.1.2.2 x_3.1.1 x_3.2.1))))))) (bc7vq76 x_1.1 x_2 x_1.2.1 c f x_3.1.2.1 x_3.1.2.2))∧∀ (x:Nat × Bool × List Bool),MidInv c f x.1 x.2.1 x.2.2→SM x_1.1∧(∃ (x_3:Nat × Bool),bc7vq82 x_3.1 c f x_3.2 x.2.1∧(Z0 = (NI x_3.1)∧x.2.1 = x_3.2∧True)∧bc7vq83 x_2 c f x.2.2)∧∀ (x_3:Nat × Bool),bc7vq82 x_3.1 c f x_3.2 x.2.1→ifB (bc7vq36 x_3.1 x_1.2.1) (side (Z0 ≤ (NI x_3.1)∧(NI x_3.1) < bc7vq21 x_1.2.1) (∀ (x_4:Nat),x_2 ≠ x_4∧True→SM x_4∧ifB x_3.2 (SM x_4∧ifB (bc7vq84 x_1.2.1 x_3.1) (true = bc7vq87 x_3.2 x_1.2.1 x_3.1 x.2.2∧True) (SM x_4∧side (Z0 ≤ bc7vq40 x_1.2.1 x_3.1∧bc7vq40 x_1.2.1 x_3.1 < bc7vq37 x_1.2.1) (SM x_2∧side (bc7vq85 x_1.2.1 x_3.1 < bc7vq14 c f) (bc7vq86 x.2.2 x_1.2.1 x_3.1 = bc7vq87 x_3.2 x_1.2.1 x_3.1 x.2.2∧True)))) (false = bc7vq87 x_3.2 x_1.2.1 x_3.1 x.2.2∧True)∧ifB (!bc7vq87 x_3.2 x_1.2.1 x_3.1 x.2.2) (bc7vq20 c f) ((bc7vq50 x_2 x_1.2.1∧SM (ZI (NI x.1))∧bc7vq67 x_1.2.1)∧∃ (y:Nat × Bool),bc7vq82 y.1 c f y.2 x.2.1∧bc7vq70 c f y.1 x_3.1∧(bc7vq71 x_3.1 y.1∧bc7vq87 x_3.2 x_1.2.1 x_3.1 x.2.2 = y.2∧True)∧bc7vq83 x_2 c f x.2.2))) (True∧∃ (y:Unit),True∧((NI x.1) = (NI (Option.getD (funS c f) N0))∧true = Option.isSome (funS c f)∧True)∧True∧True))))))) (by kernel_rfl) ?_
  delta BI D4 DF DK DL GF GK GL LI LN N0 N1 N2 N4 NI R4 SM U0 Z0 Z1 ZB ZI bc7vq0 bc7vq1 bc7vq10 bc7vq11 bc7vq12 bc7vq13 bc7vq14 bc7vq15 bc7vq16 bc7vq17 bc7vq18 bc7vq19 bc7vq2 bc7vq20 bc7vq21 bc7vq22 bc7vq23 bc7vq24 bc7vq25 bc7vq26 bc7vq27 bc7vq28 bc7vq29 bc7vq3 bc7vq30 bc7vq31 bc7vq32 bc7vq33 bc7vq34 bc7vq35 bc7vq36 bc7vq37 bc7vq38 bc7vq39 bc7vq4 bc7vq40 bc7vq41 bc7vq42 bc7vq43 bc7vq44 bc7vq45 bc7vq46 bc7vq47 bc7vq48 bc7vq49 bc7vq5 bc7vq50 bc7vq51 bc7vq52 bc7vq53 bc7vq54 bc7vq55 bc7vq56 bc7vq57 bc7vq58 bc7vq59 bc7vq6 bc7vq60 bc7vq61 bc7vq62 bc7vq63 bc7vq64 bc7vq65 bc7vq66 bc7vq67 bc7vq68 bc7vq69 bc7vq7 bc7vq70 bc7vq71 bc7vq72 bc7vq73 bc7vq74 bc7vq75 bc7vq76 bc7vq77 bc7vq78 bc7vq79 bc7vq8 bc7vq80 bc7vq81 bc7vq82 bc7vq83 bc7vq84 bc7vq85 bc7vq86 bc7vq87 bc7vq9
  have de:(default:FnD) = ⟨0,[]⟩ := rfl
  have d4:(default:I4) = ⟨0,0,0,0⟩ := rfl
  simp only [← de,← d4,Int.toNat_natCast]
  simp only [ifB_iff,side_iff,decide_eq_true_eq,decide_eq_false_iff_not,true_and,and_true,beq_iff_eq,bne_iff_ne,Bool.cond_false_right,Bool.cond_true_left,Bool.and_eq_true,Bool.and_eq_false_iff,beq_eq_false_iff_ne,ne_eq]
  intro x2 _
  refine ⟨⟨by omega,fun x6 _ => ⟨(x6,c.funs.getD f default,((D.vs 0 bV c.consts.length cV 4),gsl 2 FnD.row c.funs,gsl 4 KeD.row c.kers,gsl 2 LaD.row c.lanes)),⟨rfl,rfl⟩,rfl,rfl,⟨rfl,rfl,fun _ _ => rfl⟩,weakD_refl _,weakD_refl _,weakD_refl _,weakD_refl _⟩⟩,?_⟩
  rintro ⟨x6,F,dd⟩ ⟨hF,hdd⟩
  simp only at hF hdd ⊢
  subst hF
  have hco:∀ i:Nat,i < (c.funs.getD f default).code.length→((c.funs.getD f default).code.getD i default).ok := fun i hi => getD_ok (getD_ok hc.2.1 hf).2.1 hi
  have hD:weakD dd.1 ((D.vs 0 bV c.consts.length cV 4))∧weakD dd.2.1 (gsl 2 FnD.row c.funs)∧weakD dd.2.2.1 (gsl 4 KeD.row c.kers)∧weakD dd.2.2.2 (gsl 2 LaD.row c.lanes) := by
    have h := hdd
    simp only [CBV,O4.row,rowV,List.cons.injEq,and_true] at h
    obtain ⟨h1,h2,h3,h4⟩ := h
    rw [h1,h2,h3,h4]
    exact ⟨weakD_refl _,weakD_refl _,weakD_refl _,weakD_refl _⟩
  have hw1:IntKind.i64.wrap (((c.funs.getD f default).code.length:Int) - 1) = ((c.funs.getD f default).code.length:Int) - 1 := wrap_i64' (by omega) (by omega)
  have no:funS c f = none→∃ y:Unit,(0:Int) = ((funS c f).getD 0:Nat)∧false = (funS c f).isSome := fun h => ⟨(),by simp [h],by simp [h]⟩
  have gen:∃ CO:List I4,CO = (c.funs.getD f default).code := ⟨_,rfl⟩
  refine ⟨⟨fun h => by rw [decide_eq_true h,Bool.true_and],fun h => by rw [decide_eq_false h,Bool.false_and]⟩,fun h => no ?_,fun h1 => ⟨fun h => no ?_,fun h2 => ⟨by rw [hw1]; omega,fun h => no ?_,fun h3 => ⟨by omega,fun x9 _ => ⟨⟨?_,?_,?_⟩,?_⟩⟩⟩⟩⟩
  · simp only [funS]
    rw [if_neg]
    intro hh
    simp only [between] at hh
    rw [hh.1] at h
    cases h
  · simp only [funS]
    rw [if_neg]
    exact fun hh => hh.2.1 (List.eq_nil_of_length_eq_zero (by omega))
  · simp only [funS]
    rw [if_neg]
    intro hh
    apply h
    rw [hw1,show (((c.funs.getD f default).code.length:Int) - 1).toNat = (c.funs.getD f default).code.length - 1 by omega]
    exact hh.2.2
  · refine .inl ⟨(0,0,List.replicate (c.funs.getD f default).code.length false),⟨Nat.zero_le _,Nat.le_refl _,Nat.zero_le _,by simp,by simp,by simp⟩,⟨rfl,fun _ _ => trivial,rfl⟩,leS_to ?_⟩
    simp [leS,chk_iff,leO,leT,getO,nodupB,weakO,weakD_refl,weakL,List.getD_eq_getElem?_getD,List.getElem?_replicate]
    intro i hi
    simp [hi]
  · rintro ⟨i,deep,em⟩ hh
    simp only at hh ⊢
    refine ⟨fun hlt => ?_,fun hge => ⟨(deep,true,em),hh.done (by omega),⟨rfl,rfl⟩,fun _ _ => rfl,fun _ _ => trivial⟩⟩
    have hlt:i < (c.funs.getD f default).code.length := by omega
    have hx := hco i hlt
    have hiem:i < em.length := by rw [hh.hl]; exact hlt
    have fl := fun h => hh.fail hlt h
    have nxt := fun {nx:List UInt8} (h:stepS c f i ((c.funs.getD f default).code.getD i default) [] = some nx) => hh.next hn hlt h
    generalize (c.funs.getD f default).code.getD i default = x at *
    have fail:stepS c f i x [] = none→∃ y:Nat × Bool × List Bool,MidInv c f y.1 y.2.1 y.2.2∧((deep:Int) = (y.1:Int)∧false = y.2.1)∧(∀ j,j < (c.funs.getD f default).code.length→updF (fun j => [D.bool (em.getD j false)]) i [D.bool true] j = [D.bool (y.2.2.getD j false)])∧∀ j,j < (c.funs.getD f default).code.length→True :=
      fun h => ⟨(deep,false,em.set i true),.inr ⟨rfl,fl h⟩,⟨rfl,rfl⟩,fun j _ => upd_row em i true hiem j,fun _ _ => trivial⟩
    refine ⟨by omega,fun x4 _ => ⟨by omega,hlt,⟨hD,hx⟩,fun y hy x5 _ => ?_⟩⟩
    generalize he:effC c f ⟨x.a,x.b,x.c,x.d⟩ = e at *
    have he:effC c f x = e := he
    cases e with
    | none =>
      have flw := fail (by simp [stepS,he])
      refine ⟨fun _ => flw,fun _ => ⟨fun _ => flw,fun _ => ⟨fun h => (by cases h),fun h => (by simp [okA] at h),fun _ => ⟨⟨fun h => by simp [h],fun h => by simp [h]⟩,flw⟩⟩⟩⟩
    | some e' =>
      have hye:y = e' := hy e' rfl
      subst hye
      have hlen := eff_len he
      refine ⟨fun h => (by simp at h),fun _ => ⟨fun hd => fail (by simp [stepS,he,hd]),fun hd => ⟨fun _ => by omega,fun hok => ⟨fun hq => ⟨?_,?_,fun hcond => fail ?_,fun hcond => .inl ?_⟩,fun hq xs cap hcap => ⟨?_,?_,fun hcond => fail ?_,fun hcond => .inr ?_⟩⟩,fun hok => ⟨⟨fun h => by simp [h],fun h => by simp [h]⟩,fail (by simp only [Option.isSome] at hok; simp [stepS,he,hok])⟩⟩⟩⟩
      · exact ops1
      · exact ops2
      · have hq0:y.2 = [] := by simpa using hq
        exact (step_cond he hok hd (b := false) (by simp [newA,hq0])).1 hcond
      · have hq0:y.2 = [] := by simpa using hq
        have hs := (step_cond he hok hd (b := false) (by simp [newA,hq0])).2 hcond
        have hn0:newA [] y.1 y.2 = [] := by simp [newA,hq0]
        rw [hn0] at hs
        refine ⟨(i + 1,max deep 0,em.set i true),nxt hs,by simp only; omega,⟨wrap_i64' (by omega) (by omega),fun _ _ => trivial,by rw [maxI0]; simp⟩,leS_to ?_⟩
        simp only [leS,chk_iff,leO,leT,getO,nodupB,weakO,List.map_cons,List.map_nil]
        simp [weakL_refl]
        exact fun j _ => by simpa [List.getD_eq_getElem?_getD] using upd_row em i true hiem j
      · exact ops1
      · exact ops3
      · exact (step_cond he hok hd (b := decide (0 < (y.2.length:Int))) (by rw [lenB]; simp [newA])).1 hcond
      · have hs := (step_cond he hok hd (b := decide (0 < (y.2.length:Int))) (by rw [lenB]; simp [newA])).2 hcond
        have hn0:newA [] y.1 y.2 = y.2 := by simp [newA]
        rw [hn0] at hs
        refine ⟨((i + 1,max deep y.2.length,em.set i true),y.2,xs,cap),⟨nxt hs,hcap⟩,by simp only; omega,⟨wrap_i64' (by omega) (by omega),⟨rfl,rfl,rfl⟩,maxI _ _⟩,?_⟩
        refine StTo.trans (B := ⟨[(5,xs,.vec 1 y.2.length cap (brow y.2)),(2,x9,.vec 1 (c.funs.getD f default).code.length (c.funs.getD f default).code.length (erow (em.set i true))),(1,x6,.cells (FnD.row (c.funs.getD f default))),(0,x2,.cells (O4.row dd))],[]⟩) (leS_to ?_) (StTo.pos ⟨⟨rfl,?_,rfl,?_,rfl,?_,rfl,?_,trivial⟩,trivial⟩)
        · simp only [leS,chk_iff,leO,leT,getO,nodupB,weakO,List.map_cons,List.map_nil]
          simp [weakL_refl,O4.row,FnD.row,gsl,I4.row,brow,erow]
          exact fun j _ => by simpa [List.getD_eq_getElem?_getD] using upd_row em i true hiem j
        · simp [weakO,chk_iff,brow]
        · simp [weakO,chk_iff,erow]
        · simp only [weakO]; exact weakL_refl _
        · simp only [weakO]; exact weakL_refl _
  · rintro ⟨⟨i,deep,em⟩,st,xs,cap⟩ ⟨hh,hcap⟩
    simp only at hh hcap ⊢
    refine ⟨fun hlt => ?_,fun hge => ⟨(deep,true,em),hh.done (by omega),⟨rfl,rfl⟩,fun _ _ => rfl,fun _ _ => trivial⟩⟩
    have hlt:i < (c.funs.getD f default).code.length := by omega
    have hx := hco i hlt
    have hiem:i < em.length := by rw [hh.hl]; exact hlt
    have hsl := hh.hs
    have fl := fun h => hh.fail hlt h
    have nxt := fun {nx:List UInt8} (h:stepS c f i ((c.funs.getD f default).code.getD i default) st = some nx) => hh.next hn hlt h
    generalize (c.funs.getD f default).code.getD i default = x at *
    have fail:stepS c f i x st = none→∃ y:Nat × Bool × List Bool,MidInv c f y.1 y.2.1 y.2.2∧((deep:Int) = (y.1:Int)∧false = y.2.1)∧(∀ j,j < (c.funs.getD f default).code.length→updF (fun j => [D.bool (em.getD j false)]) i [D.bool st.isEmpty] j = [D.bool (y.2.2.getD j false)])∧∀ j,j < (c.funs.getD f default).code.length→True :=
      fun h => ⟨(deep,false,em.set i st.isEmpty),.inr ⟨rfl,fl h⟩,⟨rfl,rfl⟩,fun j _ => upd_row em i _ hiem j,fun _ _ => trivial⟩
    have hie:((st.length:Int) == 0) = st.isEmpty := by cases st with
      | nil => rfl
      | cons a l => simp; omega
    simp only [hie]
    refine ⟨by omega,fun x4 _ => ⟨by omega,hlt,⟨hD,hx⟩,fun y hy x5 _ => ?_⟩⟩
    generalize he:effC c f ⟨x.a,x.b,x.c,x.d⟩ = e at *
    have he:effC c f x = e := he
    cases e with
    | none =>
      have flw := fail (by simp [stepS,he])
      refine ⟨fun _ => flw,fun _ => ⟨fun _ => flw,fun _ => ⟨st,⟨rfl,hcap,fun h => (by cases h),fun _ _ => rfl⟩,fun h => (by simp [okA] at h),fun _ => ⟨ops1,flw⟩⟩⟩⟩
    | some e' =>
      have hye:y = e' := hy e' rfl
      subst hye
      have hlen := eff_len he
      refine ⟨fun h => (by simp at h),fun _ => ⟨fun hd => fail (by simp [stepS,he,hd]),fun hd => ⟨st,⟨rfl,hcap,fun _ => by omega,fun _ _ => rfl⟩,fun hok x' cap' hcap' => ⟨ops1,ops3,fun hcond => fail ?_,fun hcond => .inr ?_⟩,fun hok => ⟨ops1,fail (by simp only [Option.isSome] at hok; simp [stepS,he,hok])⟩⟩⟩⟩
      · exact (step_cond he hok hd (b := decide (0 < ((newA st y.1 y.2).length:Int))) lenB).1 hcond
      · have hs := (step_cond he hok hd (b := decide (0 < ((newA st y.1 y.2).length:Int))) lenB).2 hcond
        refine ⟨((i + 1,max deep (newA st y.1 y.2).length,em.set i st.isEmpty),newA st y.1 y.2,x',cap'),⟨nxt hs,hcap'⟩,by simp only; omega,⟨wrap_i64' (by omega) (by omega),⟨rfl,rfl,rfl⟩,maxI _ _⟩,leS_to ?_⟩
        simp only [leS,chk_iff,leO,leT,getO,nodupB,weakO,List.map_cons,List.map_nil]
        simp [weakL_refl]
        exact fun j _ => by simpa [List.getD_eq_getElem?_getD] using upd_row em i st.isEmpty hiem j
  · rintro ⟨dp,r,em⟩ hm
    simp only at hm ⊢
    have hN:0 < (c.funs.getD f default).code.length := by omega
    have hok:between (c.funs.getD f default).slots 0 1000 = true∧(c.funs.getD f default).code ≠ []∧((c.funs.getD f default).code.getD ((c.funs.getD f default).code.length - 1) default).a = 25 := by
      refine ⟨by simpa [between] using h1,(fun e => by rw [e] at hN; cases hN),?_⟩
      rw [hw1,show (((c.funs.getD f default).code.length:Int) - 1).toNat = (c.funs.getD f default).code.length - 1 by omega] at h3
      simpa using h3
    have none_of:runS c f 0 (c.funs.getD f default).code [] 0 = none→funS c f = none := fun h => by simp only [funS]; rw [if_pos hok,h]
    refine ⟨⟨(0,r),⟨Nat.zero_le _,fun h => ⟨rfl,h⟩,fun h => ⟨h,by simp [guardsB]⟩⟩,⟨rfl,rfl⟩,fun _ _ => trivial⟩,?_⟩
    rintro ⟨j,q⟩ ⟨hj,hjf,hjt⟩
    simp only at hj hjf hjt ⊢
    refine ⟨fun hlt => ⟨by omega,fun x4 _ => ?_⟩,fun hge => ?_⟩
    · have hlt:j < (c.funs.getD f default).code.length := by omega
      have hmem:(c.funs.getD f default).code.getD j default ∈ (c.funs.getD f default).code := getD_mem hlt
      have htk := take_step hlt
      generalize (c.funs.getD f default).code.getD j default = x at *
      cases q with
      | false =>
        obtain ⟨hj0,hr0⟩ := hjf rfl
        rcases hm with ⟨hr1,_⟩ | ⟨_,hrun⟩
        · rw [hr0] at hr1; cases hr1
        · refine ⟨⟨fun h => (by cases h),fun _ => rfl⟩,fun _ => no (none_of hrun),fun h => (by simp at h)⟩
      | true =>
        obtain ⟨hr1,hgs⟩ := hjt rfl
        rcases hm with ⟨_,hrun,rfl⟩ | ⟨hr2,_⟩
        · have hrng:x.a = 24→0 ≤ x.b∧x.b < ((c.funs.getD f default).code.length:Int) := fun ha => (let ⟨_,he⟩ := run_mem _ _ _ _ _ hrun x hmem; eff_guard he ha)
          refine ⟨⟨fun _ => ⟨fun ha => by simp [ha],fun ha => ?_⟩,fun h => (by cases h)⟩,fun hno => no ?_,fun hyes => ⟨(j + 1,true),⟨by omega,fun h => (by cases h),fun _ => ⟨hr1,?_⟩⟩,by omega,⟨wrap_i64' (by omega) (by omega),?_⟩,fun _ _ => trivial⟩⟩
          · have ha:x.a = 24 := by simpa using ha
            have := hrng ha
            exact ⟨this,by omega,by simp [ha]⟩
          · simp only [funS]
            rw [if_pos hok,hrun]
            simp only
            rw [if_neg]
            intro hg
            have := List.all_eq_true.1 hg x hmem
            simp at hno this
            rcases this with h | h
            · exact absurd hno.1 h
            · rw [hno.2] at h; cases h
          · rw [htk]
            simp only [guardsB,List.all_append,Bool.and_eq_true] at hgs ⊢
            refine ⟨hgs,?_⟩
            simp only [List.all_cons,List.all_nil,Bool.and_true]
            exact (guard_one hyes).1
          · exact (guard_one hyes).2
        · rw [hr1] at hr2; cases hr2
    · have hjN:j = (c.funs.getD f default).code.length := by omega
      cases q with
      | false => obtain ⟨hj0,_⟩ := hjf rfl; omega
      | true =>
        obtain ⟨hr1,hgs⟩ := hjt rfl
        rcases hm with ⟨_,hrun,rfl⟩ | ⟨hr2,_⟩
        · rw [hjN,List.take_length] at hgs
          have:funS c f = some dp := by simp only [funS]; rw [if_pos hok,hrun]; simp only; rw [if_pos hgs]
          exact ⟨(),by rw [this]; rfl,by rw [this]; rfl⟩
        · rw [hr1] at hr2; cases hr2
end Go.Proofs.Ytoglbmhkfkghbaa
namespace Go.Proofs.Ytoglbmhkfkghbaa
open Go Go.Ab
def vecL4 (l:List Arr) (bV cV:Nat):St := ⟨[(0,bV,.vec 4 l.length cV (fun i => (l.getD i default).row1))],[]⟩
def sSt (ds:List D) (d:D) (S:St):FnSpec where
  β := Unit
  α := Unit
  args := fun _ => ds
  st := fun _ => S
  pre := fun _ => True
  post := fun _ _ => True
  res := fun _ _ => .ret d
  out := fun _ _ => S
def conBaV (l:List Arr):Con := fun k _ _ => match k with
  | 34 => some (sRc Arr.row1 (fun b => b ∈ l) badA)
  | _ => none
theorem conBaV_ok {l:List Arr} (hl:∀ a ∈ l,a.ok):ConOk Try.prog (conBaV l) := by
  intro k ds S A h
  unfold conBaV at h
  split at h
  · injection h with h; subst h
    exact ConOk.plain (fun b hb => sRc_q (bad_ok b (hl b hb))) rfl rfl
  · cases h
noncomputable def EixV (l:List Arr):Senv := { EC (conBaV l) 19 2 [4,5,7,8,9,16] (fun _ => ([],[])) with
  ann := fun b _ S => match b with
    | 0 => some { slots := [8],keep := [0,1,6,7],α := Nat,st := fun i => ([.int .i64 i],S),inv := fun i => IdxG (fun a => (chkA a).1 != 0) l i,mu := fun i => l.length - i }
    | _ => none }
noncomputable section
def ar7vq0 (p0:Arr):Bool := Prod.fst (chkA p0) != Z0
def ar7vq1 (p0:List Arr) (p1:Nat):Prop := IdxG (fun (a:Arr) => ar7vq0 a) p0 p1
def ar7vq2:Arr := DA
def ar7vq3 (p0:List Arr) (p1:Nat):Arr := List.getD p0 p1 ar7vq2
def ar7vq4 (p0:List Arr) (p1:Nat):List Int := Arr.sh (ar7vq3 p0 p1)
def ar7vq5 (p0:List Arr) (p1:Nat):List Int := Arr.nu (ar7vq3 p0 p1)
def ar7vq6 (p0:List Arr) (p1:Nat):List Arr := Arr.it (ar7vq3 p0 p1)
def ar7vq7 (p0:List Arr) (p1:Nat):List D := [ZI (Arr.k (ar7vq3 p0 p1)),SI (ar7vq4 p0 p1),SI (ar7vq5 p0 p1),D.sl N4 (LN (ar7vq6 p0 p1)) (fun (i:Nat) => Arr.row (List.getD (ar7vq6 p0 p1) i ar7vq2)) Mode.any]
def ar7vq8 (p0:Nat) (p1:List Arr) (p2:Nat):Prop := (SM p0∧(SM (LN p1)∧SM p2∧∀ (i:Nat),i < LN p1→SM (ar7vq7 p1 i))∧True)∧True
def ar7vq9 (p0:List Arr) (p1:Nat):Arr := List.getD p0 (Int.toNat (↑p1:Int)) ar7vq2
def ar7vq10 (p0:List Arr) (p1:Nat):List Int := Arr.sh (ar7vq9 p0 p1)
def ar7vq11 (p0:List Arr) (p1:Nat):Nat := LN (ar7vq10 p0 p1)
def ar7vq12 (p0:List Arr) (p1:Nat):List Int := Arr.nu (ar7vq9 p0 p1)
def ar7vq13 (p0:List Arr) (p1:Nat):Nat := LN (ar7vq12 p0 p1)
def ar7vq14 (p0:List Arr) (p1:Nat):List Arr := Arr.it (ar7vq9 p0 p1)
def ar7vq15 (p0:List Arr) (p1:Nat):Nat := LN (ar7vq14 p0 p1)
def ar7vq16 (p0:List Arr):Int := idxG (fun (a:Arr) => ar7vq0 a) p0 Z0
end
theorem ixv_ok (bV cV:Nat) (l:List Arr) (h:∀ a ∈ l,a.ok) (hl:l.length ≤ maxLen):ACalls Try.prog 55 [.vs 0 bV l.length cV 4,.fn (.func 34) [] []] (vecL4 l bV cV) (SpecR (sSt [.vs 0 bV l.length cV 4,.fn (.func 34) [] []] (.int .i64 (idxG (fun a => (chkA a).1 != 0) l 0)) (vecL4 l bV cV)) ()) := by
  refine con_of (A := sSt _ _ _) (x := ()) (E := EixV l) (eOk (conBaV_ok h) rfl) Try.func55 rfl (by kernel_rfl) rfl (by simp [sSt,EixV,EC,E0]) ?_
  refine vc_eq (T :=
    (∃ (x:Nat),ar7vq1 l x∧(Z0 = (↑x:Int)∧True)∧ar7vq8 bV l cV)∧∀ (x:Nat),ar7vq1 l x→ifB (decide ((↑x:Int) < (LI l))) (side (Z0 ≤ (↑x:Int)∧(↑x:Int) < (LI l)) (SM bV∧side (Int.toNat (↑x:Int) < LN l) (∃ (x_1:Arr),((Arr.k (ar7vq9 l x) = Arr.k x_1∧(ar7vq11 l x = LN (Arr.sh x_1)∧(∀ (i:Nat),i < ar7vq11 l x→[ZI (GI (ar7vq10 l x) i)] = [ZI (GI (Arr.sh x_1) i)])∧True)∧(ar7vq13 l x = LN (Arr.nu x_1)∧(∀ (i:Nat),i < ar7vq13 l x→[ZI (GI (ar7vq12 l x) i)] = [ZI (GI (Arr.nu x_1) i)])∧True)∧(ar7vq15 l x = LN (Arr.it x_1)∧(∀ (i:Nat),i < ar7vq15 l x→Arr.row (List.getD (ar7vq14 l x) i ar7vq2) = Arr.row (List.getD (Arr.it x_1) i ar7vq2))∧True)∧True)∧True)∧(True∧True)∧x_1 ∈ l∧∀ (y:Unit),True→ifB (ar7vq0 x_1) (True∧∃ (y:Unit),True∧(↑x:Int) = ar7vq16 l∧ar7vq8 bV l cV) ((SM (D.vs N0 bV (LN l) cV N4)∧SM (D.fn (Fn.func (34:Nat)) [] [])∧SM D.unk∧SM (ZI (LI l))∧True)∧∃ (y:Nat),ar7vq1 l y∧LN l - y < LN l - x∧(IntKind.wrap IntKind.i64 ((↑x:Int) + Z1) = (↑y:Int)∧True)∧ar7vq8 bV l cV)))) (True∧∃ (y:Unit),True∧(-1:Int) = ar7vq16 l∧ar7vq8 bV l cV)) (by kernel_rfl) ?_
  delta DA GI LI LN N0 N1 N4 SI SM Z0 Z1 ZI ar7vq0 ar7vq1 ar7vq10 ar7vq11 ar7vq12 ar7vq13 ar7vq14 ar7vq15 ar7vq16 ar7vq2 ar7vq3 ar7vq4 ar7vq5 ar7vq6 ar7vq7 ar7vq8 ar7vq9
  have da:(default:Arr) = Arr.mk 0 [] [] [] := rfl
  simp only [← da,eq_self,implies_true,Int.toNat_natCast,ifB_iff,side_iff,decide_eq_true_eq,decide_eq_false_iff_not,true_and,and_true,exists_const,forall_const]
  simp only [maxLen] at hl
  refine ⟨⟨0,⟨Nat.zero_le _,by simp⟩,rfl⟩,fun i hh => ⟨fun hlt => ?_,fun hge => ?_⟩⟩
  · have hlt':i < l.length := by omega
    obtain ⟨s1,s2⟩ := hh.step hlt'
    exact ⟨⟨by omega,hlt⟩,hlt',l.getD i default,⟨rfl,⟨rfl,fun _ _ => rfl⟩,⟨rfl,fun _ _ => rfl⟩,rfl,fun _ _ => rfl⟩,mem_getD hlt',fun e => (s1 e).symm,fun e => ⟨i + 1,s2 e,by omega,wrap_i64' (by omega) (by omega)⟩⟩
  · exact (hh.done hge).symm
def conCfV (bV cV:Nat) (l:List Arr):Con := fun k _ _ => match k with
  | 55 => some (sSt [.vs 0 bV l.length cV 4,.fn (.func 34) [] []] (.int .i64 (idxG (fun a => (chkA a).1 != 0) l 0)) (vecL4 l bV cV))
  | _ => none
noncomputable section
def ar7vq17:Arr := DA
def ar7vq18 (p0:List Arr) (p1:Nat):Arr := List.getD p0 p1 ar7vq17
def ar7vq19 (p0:List Arr) (p1:Nat):List Int := Arr.sh (ar7vq18 p0 p1)
def ar7vq20 (p0:List Arr) (p1:Nat):List Int := Arr.nu (ar7vq18 p0 p1)
def ar7vq21 (p0:List Arr) (p1:Nat):List Arr := Arr.it (ar7vq18 p0 p1)
def ar7vq22 (p0:List Arr) (p1:Nat):List D := [ZI (Arr.k (ar7vq18 p0 p1)),SI (ar7vq19 p0 p1),SI (ar7vq20 p0 p1),D.sl N4 (LN (ar7vq21 p0 p1)) (fun (i:Nat) => Arr.row (List.getD (ar7vq21 p0 p1) i ar7vq17)) Mode.any]
def ar7vq23 (p0:Nat) (p1:List Arr) (p2:Nat):Prop := (SM p0∧(SM (LN p1)∧SM p2∧∀ (i:Nat),i < LN p1→SM (ar7vq22 p1 i))∧True)∧True
end
theorem cfv_ok (bV cV:Nat) (l:List Arr) (h:∀ a ∈ l,a.ok) (hl:l.length ≤ maxLen):ACalls Try.prog 33 [.vs 0 bV l.length cV 4,.fn (.func 34) [] []] (vecL4 l bV cV) (SpecR (sSt [.vs 0 bV l.length cV 4,.fn (.func 34) [] []] (.bool (l.any fun a => (chkA a).1 != 0)) (vecL4 l bV cV)) ()) := by
  refine con_of (A := sSt _ _ _) (x := ()) (E := EC (conCfV bV cV l) 9 2 [4] (fun _ => ([],[]))) (eOk ?_ rfl) Try.func33 rfl (by kernel_rfl) rfl (by simp [sSt,EC,E0]) ?_
  · intro k ds S A hh
    dsimp only [conCfV] at hh
    split at hh
    · injection hh with hh; subst hh
      exact ConOk.plain (fun b hb => ixv_ok bV cV l h hl) rfl rfl
    · cases hh
  refine vc_eq (T :=
    ∃ (x:Unit),((SM bV∧SM (LN l)∧SM cV)∧SM (D.fn (Fn.func (34:Nat)) [] [])∧True)∧ar7vq23 bV l cV∧True∧∀ (y:Unit),True→True∧∃ (y:Unit),True∧(decide (Z0 ≤ idxG (fun (a:Arr) => Prod.fst (chkA a) != Z0) l Z0) = List.any l fun (a:Arr) => Prod.fst (chkA a) != Z0)∧ar7vq23 bV l cV) (by kernel_rfl) ?_
  delta DA GI LN N1 N4 SI SM Z0 ZI ar7vq17 ar7vq18 ar7vq19 ar7vq20 ar7vq21 ar7vq22 ar7vq23
  have da:(default:Arr) = Arr.mk 0 [] [] [] := rfl
  simp only [← da,eq_self,implies_true,true_and,and_true,exists_const,forall_const]
  exact idxG_any _ l 0 (Int.le_refl _)
end Go.Proofs.Ytoglbmhkfkghbaa
namespace Go.Proofs.Ytoglbmhkfkghbaa
open Go Go.Ab
def conRtV (bV cV:Nat) (c:CodD):Con := fun k ds _ => match k with
  | 33 => some (sSt [.vs 0 bV c.consts.length cV 4,.fn (.func 34) [] []] (.bool (c.consts.any fun a => (chkA a).1 != 0)) (vecL4 c.consts bV cV))
  | 36 => some (pC ds (.bool (c.kers.any fun a => !kerB a)) (weakL ds [gsl 4 KeD.row c.kers,.fn (.func 37) [] []]))
  | 39 => match ds with
    | [_,.int .i64 z] => some (pC ds (funD (funS c z.toNat)) (weakL ds [.agg (rowV c bV cV),.int .i64 z.toNat]∧z.toNat < c.funs.length))
    | _ => none
  | _ => none
theorem conRt_okV {bV cV:Nat} {c:CodD} (hc:c.ok) (hs:∀ f,f < c.funs.length→(c.funs.getD f default).code.length ≤ 65536):ConOk Try.prog (conRtV bV cV c) := by
  intro k ds S A h
  unfold conRtV at h
  split at h
  · injection h with h; subst h
    exact ConOk.plain (fun _ _ => cfv_ok bV cV _ hc.1 hc.2.2.2.2.1) rfl rfl
  · injection h with h; subst h
    exact pC_ok fun e => ⟨weakL_refl _,sC_weak e (cfk_ok _ hc.2.2.1 hc.2.2.2.2.2.2.1)⟩
  · split at h
    · injection h with h; subst h
      exact pC_ok fun ⟨e,hf⟩ => ⟨weakL_refl _,sC_weak e (fun_okV bV cV c _ hf hc (hs _ hf))⟩
    · cases h
  · cases h
noncomputable def ErtV (bV cV:Nat) (c:CodD):Senv := { EC (conRtV bV cV c) 82 4 [5,6,7,8,10,11,12,13,41,44,63,66,69,70,71,80] (fun _ => ([],[])) with
  ann := fun b _ S => match b with
    | 0 => some { slots := [12,3],keep := [0,1,2,10,11],α := Nat × Int,st := fun y => ([.int .i64 y.1,.int .i64 y.2],S),inv := fun y => y.1 ≤ c.funs.length∧totI (c.funs.drop y.1) y.2 = totI c.funs 0,mu := fun y => c.funs.length - y.1 }
    | 2 => some { slots := [70],keep := [0,1,2,68,69],α := Nat,st := fun i => ([.int .i64 i],S),inv := fun i => i ≤ c.funs.length∧∀ j,j < i→(funS c j).isSome = true,mu := fun i => c.funs.length - i }
    | _ => none }
noncomputable section
def ri1vq0 (p0:CodD):List FnD := CodD.funs p0
def ri1vq1 (p0:CodD):Nat := LN (ri1vq0 p0)
def ri1vq2 (p0:Nat) (p1:CodD) (p2:Int):Prop := p0 ≤ ri1vq1 p1∧totI (List.drop p0 (ri1vq0 p1)) p2 = totI (ri1vq0 p1) Z0
def ri1vq3 (p0:CodD):Nat := LN (CodD.consts p0)
def ri1vq4 (p0:CodD):Prop := SM (ri1vq3 p0)
def ri1vq5 (p0:Nat) (p1:CodD) (p2:Nat):Prop := SM p0∧ri1vq4 p1∧SM p2
def ri1vq6 (p0:CodD) (p1:Nat):FnD := List.getD (ri1vq0 p0) p1 DF
def ri1vq7 (p0:CodD) (p1:Nat):List I4 := FnD.code (ri1vq6 p0 p1)
def ri1vq8 (p0:CodD) (p1 p2:Nat):I4 := G4 (ri1vq7 p0 p1) p2
def ri1vq9 (p0:CodD) (p1:Nat):List D := [ZI (FnD.slots (ri1vq6 p0 p1)),D.sl N4 (LN (ri1vq7 p0 p1)) (fun (i:Nat) => (R4 (ri1vq8 p0 p1 i))) Mode.any]
def ri1vq10 (p0:CodD):Nat := LN (CodD.kers p0)
def ri1vq11 (p0:CodD) (p1:Nat):List D := KeD.row (GK p0 p1)
def ri1vq12 (p0:CodD):Prop := SM (ri1vq10 p0)∧(∀ (i:Nat),i < ri1vq10 p0→SM (ri1vq11 p0 i))∧True
def ri1vq13 (p0:CodD):Nat := LN (CodD.lanes p0)
def ri1vq14 (p0:CodD) (p1:Nat):List D := LaD.row (GL p0 p1)
def ri1vq15 (p0:Nat) (p1:CodD) (p2:Nat):Prop := ri1vq5 p0 p1 p2∧(SM (ri1vq1 p1)∧(∀ (i:Nat),i < ri1vq1 p1→SM (ri1vq9 p1 i))∧True)∧ri1vq12 p1∧(SM (ri1vq13 p1)∧(∀ (i:Nat),i < ri1vq13 p1→SM (ri1vq14 p1 i))∧True)∧True
def ri1vq16:Arr := DA
def ri1vq17 (p0:CodD) (p1:Nat):Arr := List.getD (CodD.consts p0) p1 ri1vq16
def ri1vq18 (p0:CodD) (p1:Nat):List Int := Arr.sh (ri1vq17 p0 p1)
def ri1vq19 (p0:CodD) (p1:Nat):List Int := Arr.nu (ri1vq17 p0 p1)
def ri1vq20 (p0:CodD) (p1:Nat):List Arr := Arr.it (ri1vq17 p0 p1)
def ri1vq21 (p0:CodD) (p1:Nat):List D := [ZI (Arr.k (ri1vq17 p0 p1)),SI (ri1vq18 p0 p1),SI (ri1vq19 p0 p1),D.sl N4 (LN (ri1vq20 p0 p1)) (fun (i:Nat) => Arr.row (List.getD (ri1vq20 p0 p1) i ri1vq16)) Mode.any]
def ri1vq22 (p0:CodD) (p1:Nat):Prop := ri1vq4 p0∧SM p1∧∀ (i:Nat),i < ri1vq3 p0→SM (ri1vq21 p0 i)
def ri1vq23 (p0:Nat) (p1:CodD) (p2:Nat):Prop := SM p0∧ri1vq22 p1 p2∧True
def ri1vq24 (p0 p1:Nat) (p2:CodD) (p3:Nat):Prop := (SM p0∧ri1vq15 p1 p2 p3∧ri1vq23 p1 p2 p3)∧True
def ri1vq25 (p0:CodD):Int := (NI (ri1vq1 p0))
def ri1vq26 (p0:CodD):D := D.sl N2 (ri1vq1 p0) (fun (i:Nat) => ri1vq9 p0 i) Mode.any
def ri1vq27 (p0:Nat) (p1:CodD) (p2:Nat):D := D.agg [D.vs N0 p0 (ri1vq3 p1) p2 N4,ri1vq26 p1,D.sl N4 (ri1vq10 p1) (fun (i:Nat) => ri1vq11 p1 i) Mode.any,D.sl N2 (ri1vq13 p1) (fun (i:Nat) => ri1vq14 p1 i) Mode.any]
def ri1vq28 (p0:Nat) (p1:CodD) (p2:Nat):Prop := SM (ri1vq27 p0 p1 p2)
def ri1vq29 (p0:Nat):Prop := SM (D.ref (max (N0 + N1) N0) p0 N0)
def ri1vq30 (p0:CodD):Prop := SM (ZI (ri1vq25 p0))∧True
def ri1vq31 (p0:CodD) (p1 p2:Nat):Prop := ri1vq1 p0 - p1 < ri1vq1 p0 - p2
def ri1vq32 (p0:CodD):Bool := decide ((1024:Int) < ri1vq25 p0)
def ri1vq33 (p0:CodD):Bool := decide ((65536:Int) < (NI (ri1vq3 p0)))
def ri1vq34 (p0:CodD):Bool := decide ((4096:Int) < (NI (ri1vq10 p0)))
def ri1vq35 (p0:CodD) (p1:Int):Bool := bif bif bif ri1vq32 p0 then true else decide ((65536:Int) < p1) then true else ri1vq33 p0 then true else ri1vq34 p0
def ri1vq36 (p0:CodD) (p1:Int):Prop := true = ri1vq35 p0 p1∧True
def ri1vq37 (p0:CodD):Int := rightC p0
def ri1vq38 (p0:Nat) (p1:CodD) (p2:Nat):Prop := ri1vq23 p0 p1 p2∧True
def ri1vq39 (p0:CodD):Bool := (NI (ri1vq13 p0)) != (NI (ri1vq10 p0))
def ri1vq40 (p0:CodD):Bool := bif ri1vq25 p0 == Z0 then true else bif (NI (ri1vq13 p0)) != Z0 then ri1vq39 p0 else false
def ri1vq41 (p0:CodD) (p1 p2:Nat):Prop := True∧∃ (_y:Unit),True∧(26:Int) = ri1vq37 p0∧ri1vq38 p1 p0 p2
def ri1vq42 (p0:Nat) (p1:CodD):Prop := p0 ≤ ri1vq1 p1∧∀ (j:Nat),j < p0→Option.isSome (funS p1 j) = true
def ri1vq43 (p0:Nat) (p1:CodD) (p2 p3:Nat):Prop := (SM p0∧ri1vq22 p1 p2∧SM p3∧ri1vq15 p0 p1 p2∧True)∧True
end
theorem rt_okV (bV cV:Nat) (c:CodD) (hc:c.ok) (hs:∀ f,f < c.funs.length→(c.funs.getD f default).code.length ≤ 65536):ACalls Try.prog 20 [.agg (rowV c bV cV)] (vecL4 c.consts bV cV) (SpecR (sSt [.agg (rowV c bV cV)] (.int .i64 (rightC c)) (vecL4 c.consts bV cV)) ()) := by
  refine con_of (A := sSt _ _ _) (x := ()) (E := ErtV bV cV c) (eOk (conRt_okV hc hs) rfl) Try.func20 rfl (by kernel_rfl) rfl (by simp [sSt,ErtV,EC,E0]) ?_
  refine vc_eq (T :=
    ∀ (x:Nat),bV ≠ x∧True→SM x∧(∃ (x_1:Nat × Int),ri1vq2 x_1.1 c x_1.2∧(Z0 = (NI x_1.1)∧Z0 = x_1.2∧True)∧ri1vq24 x bV c cV)∧∀ (x_1:Nat × Int),ri1vq2 x_1.1 c x_1.2→ifB (decide ((NI x_1.1) < ri1vq25 c)) (side (Z0 ≤ (NI x_1.1)∧(NI x_1.1) < ri1vq25 c) (∀ (x_2:Nat),x ≠ x_2∧bV ≠ x_2∧True→SM x_2∧SM x_2∧(ri1vq28 bV c cV∧ri1vq29 x∧SM (ZI Z0)∧SM (ri1vq26 c)∧ri1vq30 c)∧∃ (y:Nat × Int),ri1vq2 y.1 c y.2∧ri1vq31 c y.1 x_1.1∧(IntKind.wrap IntKind.i64 ((NI x_1.1) + Z1) = (NI y.1)∧IntKind.wrap IntKind.i64 (x_1.2 + (LI (FnD.code (List.getD (ri1vq0 c) (TN x_1.1) DF)))) = y.2∧True)∧ri1vq24 x bV c cV)) ((SM x∧ifB (ri1vq32 c) (ri1vq36 c x_1.2) (ifB (decide ((65536:Int) < x_1.2)) (ri1vq36 c x_1.2) (SM x∧ifB (ri1vq33 c) (ri1vq36 c x_1.2) (SM x∧ri1vq34 c = ri1vq35 c x_1.2∧True))))∧ifB (ri1vq35 c x_1.2) (True∧∃ (y:Unit),True∧(21:Int) = ri1vq37 c∧ri1vq38 bV c cV) (SM x∧∃ (x_2:Unit),(ri1vq5 bV c cV∧SM (D.fn (Fn.func (34:Nat)) [] [])∧True)∧ri1vq38 bV c cV∧True∧∀ (y:Unit),True→ifB (List.any (CodD.consts c) fun (a:Arr) => Prod.fst (chkA a) != Z0) (True∧∃ (y:Unit),True∧Z1 = ri1vq37 c∧ri1vq38 bV c cV) ((SM x∧ifB (ri1vq25 c == Z0) (true = ri1vq40 c∧True) (SM x∧ifB ((NI (ri1vq13 c)) != Z0) (SM x∧SM x∧ri1vq39 c = ri1vq40 c∧True) (false = ri1vq40 c∧True)))∧ifB (ri1vq40 c) (ri1vq41 c bV cV) (SM x∧(ri1vq12 c∧SM (D.fn (Fn.func (37:Nat)) [] [])∧True)∧∀ (y:Unit),True→ifB (List.any (CodD.kers c) fun (a:KeD) => !kerB a) (ri1vq41 c bV cV) (SM x∧(∃ (x_3:Nat),ri1vq42 x_3 c∧(Z0 = (↑x_3:Int)∧True)∧ri1vq43 bV c cV x)∧∀ (x_3:Nat),ri1vq42 x_3 c→ifB (decide ((↑x_3:Int) < ri1vq25 c)) (SM x∧((ri1vq15 bV c cV∧(↑x_3:Int) = (NI (Int.toNat (↑x_3:Int)))∧True)∧Int.toNat (↑x_3:Int) < ri1vq1 c)∧∀ (y:Unit),True→ifB (!Option.isSome (funS c (Int.toNat (↑x_3:Int)))) (ri1vq41 c bV cV) ((ri1vq28 bV c cV∧ri1vq29 x∧SM (ZI Z0)∧SM D.unk∧ri1vq30 c)∧∃ (y:Nat),ri1vq42 y c∧ri1vq31 c y x_3∧(IntKind.wrap IntKind.i64 ((↑x_3:Int) + Z1) = (↑y:Int)∧True)∧ri1vq43 bV c cV x)) (True∧∃ (y:Unit),True∧Z0 = ri1vq37 c∧ri1vq38 bV c cV))))))) (by kernel_rfl) ?_
  delta D4 DA DF DK DL G4 GI GK GL LI LN N0 N1 N2 N4 NI R4 SI SM TN Z0 Z1 ZI ri1vq0 ri1vq1 ri1vq10 ri1vq11 ri1vq12 ri1vq13 ri1vq14 ri1vq15 ri1vq16 ri1vq17 ri1vq18 ri1vq19 ri1vq2 ri1vq20 ri1vq21 ri1vq22 ri1vq23 ri1vq24 ri1vq25 ri1vq26 ri1vq27 ri1vq28 ri1vq29 ri1vq3 ri1vq30 ri1vq31 ri1vq32 ri1vq33 ri1vq34 ri1vq35 ri1vq36 ri1vq37 ri1vq38 ri1vq39 ri1vq4 ri1vq40 ri1vq41 ri1vq42 ri1vq43 ri1vq5 ri1vq6 ri1vq7 ri1vq8 ri1vq9
  intro x _
  simp only [eq_self,ne_eq,implies_true,Int.toNat_natCast,ifB_iff,side_iff,decide_eq_true_eq,decide_eq_false_iff_not,true_and,and_true,beq_iff_eq,Bool.cond_false_right,Bool.cond_true_left,Bool.and_eq_true,Bool.and_eq_false_iff,Bool.or_eq_true,Bool.or_eq_false_iff,beq_eq_false_iff_ne,exists_const,forall_const]
  have hfl:c.funs.length ≤ maxLen := hc.2.2.2.2.2.1
  simp only [maxLen] at hfl
  refine ⟨⟨(0,0),⟨Nat.zero_le _,rfl⟩,rfl,rfl⟩,?_⟩
  rintro ⟨i,t⟩ ⟨hi,ht⟩
  simp only at hi ht ⊢
  refine ⟨fun hlt => ⟨⟨by omega,hlt⟩,fun y _ => ?_⟩,fun hge => ?_⟩
  · have hlt':i < c.funs.length := by omega
    rw [drop_step hlt',totI] at ht
    exact ⟨(i + 1,_),⟨by simp only; omega,ht⟩,by simp only; omega,wrap_i64' (by omega) (by omega),rfl⟩
  have hi':i = c.funs.length := by omega
  rw [hi',List.drop_length,totI] at ht
  rw [ht]
  refine ⟨⟨fun h => by simp [h],fun h => ⟨fun h2 => by simp [h2],fun h2 => ⟨fun h3 => by simp [h3],fun h3 => by simp [h,h2,h3]⟩⟩⟩,fun h => ?_,fun h => ⟨fun h1 => ?_,fun h1 => ⟨⟨fun h2 => by simp [h2],fun h2 => ⟨fun h3 => by rw [h3,beq_eq_false_iff_ne.2 h2]; rfl,fun h3 => by rw [h3,beq_eq_false_iff_ne.2 h2]; rfl⟩⟩,fun h2 => ?_,fun h2 => ⟨fun h3 => ?_,fun h3 => ⟨⟨0,⟨Nat.zero_le _,fun j hj => absurd hj (Nat.not_lt_zero j)⟩,rfl⟩,fun j hj => ⟨fun hl => ⟨by omega,fun e => ?_,fun e => ⟨j + 1,⟨by omega,fun k hk => ?_⟩,by omega,wrap_i64' (by omega) (by omega)⟩⟩,fun hg => ?_⟩⟩⟩⟩⟩⟩
  · unfold rightC; rw [if_pos (by omega)]
  · unfold rightC; rw [if_neg (by omega),if_pos h1]
  · simp only [bne_iff_ne,ne_eq] at h2
    unfold rightC; rw [if_neg (by omega),if_neg (by rw [h1]; exact Bool.false_ne_true),if_pos (by omega)]
  · simp only [bne_eq_false_iff_eq] at h2
    unfold rightC; rw [if_neg (by omega),if_neg (by rw [h1]; exact Bool.false_ne_true),if_neg (by omega),if_pos h3]
  · simp only [bne_eq_false_iff_eq] at h2
    have hj':j < c.funs.length := by omega
    have e':(funS c j).isSome = false := by simpa using e
    have hall:¬ ((List.range c.funs.length).all fun f => (funS c f).isSome) = true := by
      rw [List.all_eq_true]
      intro hh
      have := hh j (List.mem_range.2 hj')
      rw [e'] at this; cases this
    unfold rightC; rw [if_neg (by omega),if_neg (by rw [h1]; exact Bool.false_ne_true),if_neg (by omega),if_neg (by rw [h3]; exact Bool.false_ne_true),if_neg hall]
  · have e':(funS c j).isSome = true := by simpa using e
    by_cases hk':k = j
    · rw [hk']; exact e'
    · exact hj.2 k (by omega)
  · simp only [bne_eq_false_iff_eq] at h2
    have hall:((List.range c.funs.length).all fun f => (funS c f).isSome) = true := by
      rw [List.all_eq_true]
      intro f hf
      exact hj.2 f (by have := List.mem_range.1 hf; omega)
    unfold rightC; rw [if_neg (by omega),if_neg (by rw [h1]; exact Bool.false_ne_true),if_neg (by omega),if_neg (by rw [h3]; exact Bool.false_ne_true),if_pos hall]
end Go.Proofs.Ytoglbmhkfkghbaa
namespace Go.Proofs.Ytoglbmhkfkghbaa
open Go Go.Ab
set_option maxRecDepth 100000
theorem listP_all {α:Type} {p:List UInt8→Option (α × List UInt8)} {P:α→Prop} (hp:∀ l y,p l = some y→P y.1):∀ (n:Nat) (l:List UInt8) (y:List α × List UInt8),listP p n l = some y→∀ a ∈ y.1,P a
  | 0,l,y,h,a,ha => by rw [listP] at h; injection h with h; subst h; cases ha
  | n + 1,l,y,h,a,ha => by
    rw [listP] at h
    split at h
    · cases h
    · rename_i z hz
      split at h
      · cases h
      · rename_i w hw
        injection h with h; subst h
        rcases List.mem_cons.1 ha with rfl | ha
        · exact hp _ _ hz
        · exact listP_all hp n _ _ hw a ha
theorem arrP_ok:∀ (f:Nat) (l:List UInt8) (y:Arr × List UInt8),l.length ≤ maxLen→arrP f l = some y→y.1.ok
  | 0,l,y,_,h => by simp [arrP] at h
  | f + 1,l,y,hl,h => by
    cases hk:numP l with
    | none => rw [arrP_num hk] at h; cases h
    | some k =>
      obtain ⟨k,r⟩ := k
      have k1 := numP_ok hk
      by_cases hg:1 ≤ k∧k ≤ 3
      · cases hn:cntP r with
        | none => rw [arrP_cnt hk hg hn] at h; cases h
        | some n =>
          obtain ⟨n,r1⟩ := n
          have k2 := cntP_ok hn
          cases hs:listP numP n r1 with
          | none => rw [arrP_shape hk hg hn hs] at h; cases h
          | some sh =>
            obtain ⟨sh,r2⟩ := sh
            have k3 := listP_len num_len _ _ _ hs
            have k4:∀ z ∈ sh,inI64 z := listP_all (P := inI64) (fun l y h => (numP_ok h).1) _ _ _ hs
            have k5:sh.length = n := listP_length _ _ _ hs
            have hS := sizeS_le (s := sh)
            simp only at k1 k3
            cases hr:rightS sh with
            | false => rw [arrP_right hk hg hn hs hr] at h; cases h
            | true =>
              by_cases h3:k = 3
              · rw [arrP_items hk hg hn hs hr h3] at h
                split at h
                · cases h
                · rename_i its hi
                  injection h with h; subst h
                  have k6 := listP_length _ _ _ hi
                  simp only [Arr.ok]
                  refine ⟨k1.1,k4,fun z hz => by (cases hz),by omega,by simp [maxLen],?_,(okL_iff _).2 ?_⟩
                  · simp only [maxLen]; omega
                  · have:∀ (n:Nat) (l:List UInt8) (y:List Arr × List UInt8),l.length ≤ maxLen→listP (arrP f) n l = some y→∀ a ∈ y.1,a.ok := by
                      intro n
                      induction n with
                      | zero => intro l y _ h a ha; rw [listP] at h; injection h with h; subst h; cases ha
                      | succ n ih =>
                        intro l y hl h a ha
                        rw [listP] at h
                        split at h
                        · cases h
                        · rename_i z hz
                          split at h
                          · cases h
                          · rename_i w hw
                            injection h with h; subst h
                            rcases List.mem_cons.1 ha with rfl | ha
                            · exact arrP_ok f _ _ hl hz
                            · have := arrP_len f _ _ hz
                              exact ih _ _ (by omega) hw a ha
                    exact this _ _ _ (by omega) hi
              · rw [arrP_nums hk hg hn hs hr h3] at h
                split at h
                · cases h
                · rename_i nu hi
                  injection h with h; subst h
                  have k6 := listP_length _ _ _ hi
                  simp only [Arr.ok]
                  refine ⟨k1.1,k4,listP_all (P := inI64) (fun l y h => (numP_ok h).1) _ _ _ hi,by omega,?_,by simp [maxLen],trivial⟩
                  simp only [maxLen]; omega
      · rw [arrP_kind hk hg] at h; cases h
theorem listP_allL {α:Type} {p:List UInt8→Option (α × List UInt8)} {P:α→Prop} {M:Nat} (hp:∀ l y,l.length ≤ M→p l = some y→P y.1) (hlen:∀ l y,p l = some y→y.2.length ≤ l.length):∀ (n:Nat) (l:List UInt8) (y:List α × List UInt8),l.length ≤ M→listP p n l = some y→∀ a ∈ y.1,P a
  | 0,l,y,_,h,a,ha => by rw [listP] at h; injection h with h; subst h; cases ha
  | n + 1,l,y,hl,h,a,ha => by
    rw [listP] at h
    split at h
    · cases h
    · rename_i z hz
      split at h
      · cases h
      · rename_i w hw
        injection h with h; subst h
        rcases List.mem_cons.1 ha with rfl | ha
        · exact hp _ _ hl hz
        · exact listP_allL hp hlen n _ _ (Nat.le_trans (hlen _ _ hz) hl) hw a ha
theorem p4_ok {l:List UInt8} {y:I4 × List UInt8} (h:p4 l = some y):y.1.ok := by
  obtain ⟨a,h1,h⟩ := bindP_some' h
  obtain ⟨b,h2,h⟩ := bindP_some' h
  obtain ⟨c,h3,h⟩ := bindP_some' h
  obtain ⟨d,h4,h⟩ := bindP_some' h
  injection h with h; subst h
  exact ⟨(numP_ok h1).1,(numP_ok h2).1,(numP_ok h3).1,(numP_ok h4).1⟩
theorem p6_ok {l:List UInt8} {y:I6 × List UInt8} (h:p6 l = some y):y.1.ok := by
  obtain ⟨a,h1,h⟩ := bindP_some' h
  obtain ⟨b,h2,h⟩ := bindP_some' h
  obtain ⟨c,h3,h⟩ := bindP_some' h
  obtain ⟨d,h4,h⟩ := bindP_some' h
  obtain ⟨e,h5,h⟩ := bindP_some' h
  obtain ⟨f,h6,h⟩ := bindP_some' h
  injection h with h; subst h
  exact ⟨(numP_ok h1).1,(numP_ok h2).1,(numP_ok h3).1,(numP_ok h4).1,(numP_ok h5).1,(numP_ok h6).1⟩
theorem cntP_le {l:List UInt8} {y:Nat × List UInt8} (h:cntP l = some y):y.1 ≤ l.length := by
  have := cntP_ok (n := y.1) (r := y.2) h; omega
theorem funP_ok {l:List UInt8} {y:FnD × List UInt8} (hl:l.length ≤ maxLen) (h:funP l = some y):y.1.ok := by
  obtain ⟨a,h1,h⟩ := bindP_some' h
  obtain ⟨m,h2,h⟩ := bindP_some' h
  obtain ⟨c,h3,h⟩ := bindP_some' h
  injection h with h; subst h
  have l1 := num_len _ _ h1
  have l2 := cntP_le h2
  refine ⟨(numP_ok h1).1,listP_all (P := I4.ok) (fun l y h => p4_ok h) _ _ _ h3,?_⟩
  rw [listP_length _ _ _ h3]; omega
theorem kerP_ok {l:List UInt8} {y:KeD × List UInt8} (hl:l.length ≤ maxLen) (h:kerP l = some y):y.1.ok := by
  obtain ⟨a,h1,h⟩ := bindP_some' h
  obtain ⟨m,h2,h⟩ := bindP_some' h
  obtain ⟨c,h3,h⟩ := bindP_some' h
  obtain ⟨d,h4,h⟩ := bindP_some' h
  obtain ⟨e,h5,h⟩ := bindP_some' h
  injection h with h; subst h
  have l1 := num_len _ _ h1
  have l2 := cntP_le h2
  refine ⟨(numP_ok h1).1,listP_all (P := I4.ok) (fun l y h => p4_ok h) _ _ _ h3,?_,(numP_ok h4).1,(numP_ok h5).1⟩
  rw [listP_length _ _ _ h3]; omega
theorem lanP_ok {l:List UInt8} {y:LaD × List UInt8} (hl:l.length ≤ maxLen) (h:lanP l = some y):y.1.ok := by
  obtain ⟨a,h1,h⟩ := bindP_some' h
  obtain ⟨m,h2,h⟩ := bindP_some' h
  obtain ⟨c,h3,h⟩ := bindP_some' h
  injection h with h; subst h
  have l1 := num_len _ _ h1
  have l2 := cntP_le h2
  refine ⟨(numP_ok h1).1,listP_all (P := I6.ok) (fun l y h => p6_ok h) _ _ _ h3,?_⟩
  rw [listP_length _ _ _ h3]; omega
theorem codP_ok {l:List UInt8} {y:CodD × List UInt8} (hl:l.length ≤ maxLen) (h:codP l = some y):y.1.ok := by
  obtain ⟨n1,h1,h⟩ := bindP_some' h
  obtain ⟨cs,h2,h⟩ := bindP_some' h
  obtain ⟨n3,h3,h⟩ := bindP_some' h
  obtain ⟨fs,h4,h⟩ := bindP_some' h
  obtain ⟨n5,h5,h⟩ := bindP_some' h
  obtain ⟨ks,h6,h⟩ := bindP_some' h
  obtain ⟨n7,h7,h⟩ := bindP_some' h
  obtain ⟨ls,h8,h⟩ := bindP_some' h
  injection h with h; subst h
  have l1 := cnt_len _ _ h1
  have l2 := listP_len (arrP_len 17) _ _ _ h2
  have l3 := cnt_len _ _ h3
  have l4 := listP_len (fun l y => funP_len l y) _ _ _ h4
  have l5 := cnt_len _ _ h5
  have l6 := listP_len (fun l y => kerP_len l y) _ _ _ h6
  have l7 := cnt_len _ _ h7
  have e1 := cntP_le h1
  have e3 := cntP_le h3
  have e5 := cntP_le h5
  have e7 := cntP_le h7
  refine ⟨listP_allL (M := maxLen) (fun l y hl h => arrP_ok 17 l y hl h) (arrP_len 17) _ _ _ (by omega) h2,
    listP_allL (M := maxLen) (fun l y hl h => funP_ok hl h) (fun l y => funP_len l y) _ _ _ (by omega) h4,
    listP_allL (M := maxLen) (fun l y hl h => kerP_ok hl h) (fun l y => kerP_len l y) _ _ _ (by omega) h6,
    listP_allL (M := maxLen) (fun l y hl h => lanP_ok hl h) (fun l y => lanP_len l y) _ _ _ (by omega) h8,?_,?_,?_,?_⟩
  · simp only [listP_length _ _ _ h2]; omega
  · simp only [listP_length _ _ _ h4]; omega
  · simp only [listP_length _ _ _ h6]; omega
  · simp only [listP_length _ _ _ h8]; omega
theorem bodyP_ok {l:List UInt8} {c:CodD} (hl:l.length ≤ maxLen) (h:bodyP l = some c):c.ok := codP_ok (y := (c,[])) hl (bodyP_some h)
end Go.Proofs.Ytoglbmhkfkghbaa
namespace Go.Proofs.Ytoglbmhkfkghbaa
open Go Go.Ab
set_option maxRecDepth 100000
noncomputable def Eeq (a b:List UInt8):Senv := { EC con0 26 2 [4,5,10,12,13,14,24] (fun id => match id with | 6 => ([0,1,2,3,4,5,6,7,8],[]) | _ => ([],[])) with
  ann := fun k _ S => match k with
    | 0 => some { slots := [13],keep := [0,1,12],α := Nat,st := fun i => ([.int .i64 i],S),inv := fun i => i ≤ a.length∧a.take i = b.take i,mu := fun i => a.length - i }
    | _ => none }
theorem getD_nat {a b:List UInt8} {i:Nat}:(((a.getD i 0).toNat:Int) = ((b.getD i 0).toNat:Int))↔a.getD i 0 = b.getD i 0 :=
  ⟨fun h => UInt8.toNat_inj.1 (by omega),fun h => by rw [h]⟩
noncomputable section
def eq1q0 (p0:List UInt8) (p1:Ab.Mode):D := D.sl N1 (LN p0) (fun (i:Nat) => [ZB (BI p0 i)]) p1
def eq1q1 (p0:List UInt8) (p1:Ab.Mode):Prop := SM (eq1q0 p0 p1)
end
theorem equal_ok (a b:List UInt8) (m m':Ab.Mode) (ha:a.length ≤ maxLen) (hb:b.length ≤ maxLen):ACalls Try.prog 24 [bsl a m,bsl b m'] ⟨[],[]⟩ (SpecR (sC [bsl a m,bsl b m'] (.bool (a == b))) ()) := by
  refine con_of (A := sC _ _) (x := ()) (E := Eeq a b) (eOk con0_ok rfl) Try.func24 rfl (by kernel_rfl) rfl (by simp [sC,Eeq,EC,E0]) ?_
  refine vc_eq (T :=
    ifB ((LI a) != (LI b)) (True∧∃ (y:Unit),True∧false = (a == b)∧True∧True) ((∃ (x:Nat),(x ≤ LN a∧List.take x a = List.take x b)∧(Z0 = (↑x:Int)∧True)∧True∧True)∧∀ (x:Nat),x ≤ LN a∧List.take x a = List.take x b→ifB (decide ((↑x:Int) < (LI a))) (side (Z0 ≤ (↑x:Int)∧(↑x:Int) < (LI a)) (side (Z0 ≤ (↑x:Int)∧(↑x:Int) < (LI b)) (ifB ((BI a (Int.toNat (↑x:Int))) != (BI b (Int.toNat (↑x:Int)))) (True∧∃ (y:Unit),True∧false = (a == b)∧True∧True) ((eq1q1 a m∧eq1q1 b m'∧SM (ZI (LI a))∧True)∧∃ (y:Nat),(y ≤ LN a∧List.take y a = List.take y b)∧LN a - y < LN a - x∧(IntKind.wrap IntKind.i64 ((↑x:Int) + Z1) = (↑y:Int)∧True)∧True∧True)))) (True∧∃ (y:Unit),True∧true = (a == b)∧True∧True))) (by kernel_rfl) ?_
  delta BI LI LN N1 SM U0 Z0 Z1 ZB ZI eq1q0 eq1q1
  simp only [eq_self,Int.toNat_natCast,ifB_iff,side_iff,decide_eq_true_eq,decide_eq_false_iff_not,true_and,and_true,exists_const]
  simp only [maxLen] at ha hb
  refine ⟨fun h => ?_,fun h => ⟨⟨0,⟨Nat.zero_le _,rfl⟩,rfl⟩,fun i hi => ⟨fun hlt => ⟨⟨by omega,hlt⟩,?_,fun hn => ?_,fun hn => ⟨i + 1,⟨by omega,?_⟩,by omega,wrap_i64' (by omega) (by omega)⟩⟩,fun hge => ?_⟩⟩⟩
  · symm
    rw [beq_eq_false_iff_ne]
    intro e
    subst e
    simp at h
  all_goals have hl:a.length = b.length := Int.ofNat.inj (by simpa using h)
  · omega
  · symm
    rw [beq_eq_false_iff_ne]
    intro e
    subst e
    simp at hn
  · have hn:(a.getD i 0) = (b.getD i 0) := getD_nat.1 (by simpa using hn)
    rw [take_step (show i < a.length by omega),take_step (show i < b.length by omega),hi.2]
    exact congrArg (fun z => b.take i ++ [z]) hn
  · symm
    rw [beq_iff_eq]
    have e:i = a.length := by omega
    have := hi.2
    rw [e,List.take_length,hl,List.take_length] at this
    exact this
end Go.Proofs.Ytoglbmhkfkghbaa
namespace Go.Proofs.Ytoglbmhkfkghbaa
open Go Go.Ab
set_option maxRecDepth 100000
theorem part_rows (b:List UInt8) (o n:Nat) (_h:o + n ≤ b.length):∀ i,i < n→[D.int .u8 ((b.getD (o + i) 0).toNat:Int)] = [D.int .u8 ((((b.drop o).take n).getD i 0).toNat:Int)] := by
  intro i hi
  simp [List.getD_eq_getElem?_getD,List.getElem?_take_of_lt hi,List.getElem?_drop]
theorem part_len (b:List UInt8) (o n:Nat) (h:o + n ≤ b.length):n = ((b.drop o).take n).length := by simp; omega
theorem bytesOf_part (b:List UInt8) (o n:Nat) (h:o + n ≤ b.length):bytesOf n (fun i => [D.int .u8 ((b.getD (o + i) 0).toNat:Int)]) = (b.drop o).take n := bytesOf_eq (part_len b o n h) (part_rows b o n h)
theorem rowsB_part (b:List UInt8) (o n:Nat) (h:o + n ≤ b.length):rowsB n (fun i => [D.int .u8 ((b.getD (o + i) 0).toNat:Int)]) = true := rowsB_eq (part_len b o n h) (part_rows b o n h)
theorem sum4 (s:Nat):∀ i,i < 4→([[D.int .u8 (IntKind.u8.wrap ((s:Int).fdiv 16777216))],[D.int .u8 (IntKind.u8.wrap ((s:Int).fdiv 65536))],[D.int .u8 (IntKind.u8.wrap ((s:Int).fdiv 256))],[D.int .u8 (IntKind.u8.wrap (s:Int))]]:List (List D)).getD i [] = [D.int .u8 (((sumB s).getD i 0).toNat:Int)] := by
  intro i hi
  match i,hi with
  | 0,_ => simp only [List.getD_cons_zero,sumB]; exact congrArg (fun z => [D.int .u8 z]) (wrapD _ 16777216)
  | 1,_ => simp only [List.getD_cons_zero,List.getD_cons_succ,sumB]; exact congrArg (fun z => [D.int .u8 z]) (wrapD _ 65536)
  | 2,_ => simp only [List.getD_cons_zero,List.getD_cons_succ,sumB]; exact congrArg (fun z => [D.int .u8 z]) (wrapD _ 256)
  | 3,_ =>
    simp only [List.getD_cons_zero,List.getD_cons_succ,sumB]
    rw [IntKind.wrap_u8,UInt8.toNat_ofNat']
    congr 2
    try omega
theorem bytesOf_sum4 (s:Nat):bytesOf 4 (fun i => ([[D.int .u8 (IntKind.u8.wrap ((s:Int).fdiv 16777216))],[D.int .u8 (IntKind.u8.wrap ((s:Int).fdiv 65536))],[D.int .u8 (IntKind.u8.wrap ((s:Int).fdiv 256))],[D.int .u8 (IntKind.u8.wrap (s:Int))]]:List (List D)).getD i []) = sumB s := bytesOf_eq rfl (sum4 s)
theorem rowsB_sum4 (s:Nat):rowsB 4 (fun i => ([[D.int .u8 (IntKind.u8.wrap ((s:Int).fdiv 16777216))],[D.int .u8 (IntKind.u8.wrap ((s:Int).fdiv 65536))],[D.int .u8 (IntKind.u8.wrap ((s:Int).fdiv 256))],[D.int .u8 (IntKind.u8.wrap (s:Int))]]:List (List D)).getD i []) = true := rowsB_eq rfl (sum4 s)
def ekB (b:List UInt8):Int :=
  if 1048576 < b.length then 2 else if b.length < 8 then 7 else if b.take 4 ≠ [65,76,67,49] then 25
  else if sumB (sumN (b.take (b.length - 4))) ≠ b.drop (b.length - 4) then 27 else 0
def conEa:Con := fun k ds S => match k with
  | 24 => match ds with
    | [.sl 1 n f m,.sl 1 n' f' m'] => some (pC [bsl (bytesOf n f) m,bsl (bytesOf n' f') m'] (.bool (bytesOf n f == bytesOf n' f')) (rowsB n f = true∧rowsB n' f' = true∧n ≤ maxLen∧n' ≤ maxLen))
    | _ => none
  | k => conS k ds S
theorem conEa_ok:ConOk Try.prog conEa := by
  intro k ds S A h
  unfold conEa at h
  split at h
  · split at h
    · injection h with h; subst h
      refine pC_ok fun e => ⟨⟨bsl_weak e.1,bsl_weak e.2.1,trivial⟩,equal_ok _ _ _ _ ?_ ?_⟩
      · simpa [bytesOf] using e.2.2.1
      · simpa [bytesOf] using e.2.2.2
    · cases h
  · exact conS_ok _ _ _ _ h
end Go.Proofs.Ytoglbmhkfkghbaa
namespace Go.Proofs.Ytoglbmhkfkghbaa
open Go Go.Ab
set_option maxRecDepth 100000
def _root_.Go.Ab.byX (L:List UInt8) (ok:Bool) (n:Nat) (S:St) (R:AEnd→St→Prop):Prop :=
  (ok = true∧n ≤ 4294967296) ∧
    (∀ c,bodyP L = some c→c.consts = []→R (.ret (.tup [.agg [.sl 1 0 (fun _ => []) .nil,gsl 2 FnD.row c.funs,gsl 4 KeD.row c.kers,gsl 2 LaD.row c.lanes],.int .i64 0])) S) ∧
    (∀ c,bodyP L = some c→c.consts ≠ []→∀ b cap,R (.ret (.tup [.agg [.vs (nextTag S.objs) b c.consts.length cap 4,gsl 2 FnD.row c.funs,gsl 4 KeD.row c.kers,gsl 2 LaD.row c.lanes],.int .i64 0])) ((⟨[(nextTag S.objs,b,.vec 4 c.consts.length cap (fun i => (c.consts.getD i default).row1))],[]⟩:St).add S)) ∧
    (bodyP L = none→R (.ret (.tup [.agg [.sl 1 0 (fun _ => []) .nil,.sl 1 0 (fun _ => []) .nil,.sl 1 0 (fun _ => []) .nil,.sl 1 0 (fun _ => []) .nil],.int .i64 25])) S)
theorem byX_ok {n:Nat} {f:Nat→List D} {m:Ab.Mode} {S:St} {R:AEnd→St→Prop} (h:byX (bytesOf n f) (rowsB n f) n S R):ACalls Try.prog 25 [.sl 1 n f m] S R := by
  obtain ⟨⟨h1,h2⟩,h4,h5,h6⟩ := h
  have hl:(bytesOf n f).length ≤ 4294967296 := by simpa [bytesOf] using h2
  have wa:weakL [D.sl 1 n f m] [bsl (bytesOf n f) .any] := by
    have := bsl_weak (m := m) h1
    simp only [bsl,weakD,chk_iff] at this
    refine ⟨?_,trivial⟩
    simp only [bsl,weakD,chk_iff]
    exact ⟨this.1,this.2.1,this.2.2.1,by cases m <;> simp [weakM]⟩
  generalize bytesOf n f = L at *
  have hc := ACalls.weakArgs (((by_ok L hl).frame S).from (S := S) (fun C F w H => by simpa [St.add] using H)) wa
  refine hc.weaken ?_
  rintro e S2 ⟨S0,hR,rfl⟩
  have drop:StTo (S0.add S) S := (StTo.frame (StTo.none S0) _).trans (fun C F w H => by simpa [St.add] using H)
  unfold endY at hR
  split at hR
  · rename_i dc df dk dl z
    obtain ⟨h25,hn25⟩ := hR
    by_cases hz:z = 25
    · obtain ⟨q1,q2⟩ := h25 hz
      subst hz
      exact ⟨.ret (.tup [.agg _,.int .i64 25]),_,(show weakL [D.agg [dc,df,dk,dl],D.int .i64 25] [D.agg _,D.int .i64 25] from ⟨q2,weakD_refl _,trivial⟩),drop,h6 q1⟩
    · obtain ⟨rfl,c,q1,q3,q4,q5,q6⟩ := hn25 hz
      unfold conIs at q6
      split at q6
      · rename_i w n0 f0
        obtain ⟨e,rfl,rfl⟩ := q6
        exact ⟨.ret (.tup [D.agg [.sl 1 0 (fun _ => []) .nil,gsl 2 FnD.row c.funs,gsl 4 KeD.row c.kers,gsl 2 LaD.row c.lanes],.int .i64 0]),_,(show weakL [D.agg [_,df,dk,dl],D.int .i64 0] [D.agg [.sl 1 0 (fun _ => []) .nil,gsl 2 FnD.row c.funs,gsl 4 KeD.row c.kers,gsl 2 LaD.row c.lanes],D.int .i64 0] from ⟨⟨chk_iff.2 ⟨rfl,rfl,fun i hi => absurd hi (Nat.not_lt_zero i),trivial⟩,q3,q4,q5,trivial⟩,weakD_refl _,trivial⟩),drop,h4 c q1 e⟩
      · obtain ⟨q6,hne⟩ := q6
        unfold vecIs at q6
        split at q6
        · rename_i k0 b len cap wd _
          obtain ⟨w4,e4,q7⟩ := chk_iff.1 q6
          have w4:wd = 4 := of_decide_eq_true w4
          subst w4
          subst e4
          exact ⟨.ret (.tup [.agg [.vs (nextTag S.objs) b c.consts.length cap 4,gsl 2 FnD.row c.funs,gsl 4 KeD.row c.kers,gsl 2 LaD.row c.lanes],.int .i64 0]),_,(show weakL [D.agg [_,df,dk,dl],D.int .i64 0] [D.agg [.vs (nextTag S.objs) b c.consts.length cap 4,gsl 2 FnD.row c.funs,gsl 4 KeD.row c.kers,gsl 2 LaD.row c.lanes],D.int .i64 0] from ⟨⟨chk_iff.2 ⟨rfl,rfl,rfl,rfl⟩,q3,q4,q5,trivial⟩,weakD_refl _,trivial⟩),StTo.frame ((leS_to q7).trans (StTo.pos (S := ⟨[(k0,b,.vec 4 c.consts.length cap (fun i => (c.consts.getD i default).row1))],[]⟩) (S' := ⟨[(nextTag S.objs,b,.vec 4 c.consts.length cap (fun i => (c.consts.getD i default).row1))],[]⟩) ⟨⟨rfl,chk_iff.2 ⟨rfl,rfl,rfl,fun _ _ => rfl⟩,trivial⟩,trivial⟩)) _,h5 c q1 hne b cap⟩
        · exact q6.elim
  · exact hR.elim
def sRg (n:CodD→Prop):FnSpec where
  β := CodD
  α := Unit
  args := fun c => [.agg [.sl 1 0 (fun _ => []) .nil,gsl 2 FnD.row c.funs,gsl 4 KeD.row c.kers,gsl 2 LaD.row c.lanes]]
  st := fun _ => ⟨[],[]⟩
  pre := fun c => n c∧c.consts = []
  post := fun _ _ => True
  res := fun c _ => .ret (.int .i64 (rightC c))
  out := fun _ _ => ⟨[],[]⟩
def sRv (k:Nat) (n:CodD→Prop):FnSpec where
  β := CodD × Nat × Nat
  α := Unit
  args := fun y => [.agg [.vs k y.2.1 y.1.consts.length y.2.2 4,gsl 2 FnD.row y.1.funs,gsl 4 KeD.row y.1.kers,gsl 2 LaD.row y.1.lanes]]
  st := fun y => ⟨[(k,y.2.1,.vec 4 y.1.consts.length y.2.2 (fun i => (y.1.consts.getD i default).row1))],[]⟩
  pre := fun y => n y.1
  post := fun _ _ => True
  res := fun y _ => .ret (.int .i64 (rightC y.1))
  out := fun y _ => ⟨[(k,y.2.1,.vec 4 y.1.consts.length y.2.2 (fun i => (y.1.consts.getD i default).row1))],[]⟩
def okC (c:CodD):Prop := c.ok∧∀ f,f < c.funs.length→(c.funs.getD f default).code.length ≤ 65536
theorem nil_any {C:Ctx} {w w':Nat} {f f':Nat→List D} {v:Value} (h:Rep C (.sl w 0 f .nil) v):Rep C (.sl w' 0 f' .any) v := by
  simp only [Rep] at h ⊢
  obtain ⟨a,len,cap,e,hh,_⟩ := h
  exact ⟨a,len,cap,e,⟨hh.1,hh.2.1,hh.2.2.1,hh.2.2.2.1,hh.2.2.2.2.1,trivial⟩,fun x _ i hi => absurd hi (Nat.not_lt_zero i)⟩
theorem ACalls.semArgs {P:Program} {k:FuncId} {ds us:List D} {S:St} {R:AEnd→St→Prop} (h:ACalls P k us S R) (hw:∀ C vs,RepL C ds vs→RepL C us vs):ACalls P k ds S R :=
  ⟨h.1,fun C F args w ha hs => h.2 C F args w (hw _ _ ha) hs⟩
def conTt (n:CodD→Prop):Con := fun k ds S => match k with
  | 20 => match ds with
    | [.agg [.vs kk _ _ _ _,_,_,_]] => some (sRv kk n)
    | [.agg [.sl _ _ _ _,_,_,_]] => some (sRg n)
    | _ => none
  | 26 => some (sCl Arr.row1 Arr.row1 (fun b => (chkA b).1 = 0))
  | k => conEa k ds S
theorem conTt_ok {n:CodD→Prop} (hn:∀ c,n c→okC c):ConOk Try.prog (conTt n) := by
  intro k ds S A h
  unfold conTt at h
  split at h
  · split at h
    · rename_i kk _ _ _ _ _ _ _
      injection h with h; subst h
      refine ConOk.plain (fun y hy => ?_) rfl rfl
      obtain ⟨c,b,cap⟩ := y
      obtain ⟨o1,o2⟩ := hn c hy
      refine ACalls.respec (A := sSt [.agg (rowV c b cap)] (.int .i64 (rightC c)) (vecL4 c.consts b cap)) (x := ()) (rt_okV b cap c o1 o2) (A' := sRv kk n) (x' := (c,b,cap)) ?_ ?_ fun y _ => ⟨(),trivial,?_,?_⟩
      · exact ⟨⟨chk_iff.2 ⟨rfl,rfl,rfl,rfl⟩,weakD_refl _,weakD_refl _,weakD_refl _,trivial⟩,trivial⟩
      · exact ⟨⟨rfl,chk_iff.2 ⟨rfl,rfl,rfl,fun _ _ => rfl⟩,trivial⟩,trivial⟩
      · exact weakD_refl _
      · exact ⟨⟨rfl,chk_iff.2 ⟨rfl,rfl,rfl,fun _ _ => rfl⟩,trivial⟩,trivial⟩
    · injection h with h; subst h
      refine ConOk.plain (fun c hy => ?_) rfl rfl
      obtain ⟨o1,o2⟩ := hn c hy.1
      refine (ACalls.semArgs (rt_ok c o1 o2) ?_).mono fun _ _ ⟨y,q1,q2,q3⟩ => ⟨(),trivial,q2,q3⟩
      intro C vs hv
      have e:c.row = [.sl 4 0 (fun i => Arr.row (c.consts.getD i default)) .any,gsl 2 FnD.row c.funs,gsl 4 KeD.row c.kers,gsl 2 LaD.row c.lanes] := by
        simp only [CodD.row,gsl,hy.2,List.length_nil]
      simp only [sRg,RepL] at hv
      obtain ⟨v,vs',e1,hv,e2⟩ := hv
      simp only [Rep,RepL] at hv
      obtain ⟨cs,e3,v1,r1,e4,q1,q2⟩ := hv
      simp only [RepL]
      refine ⟨v,vs',e1,?_,e2⟩
      rw [e]
      simp only [Rep,RepL]
      exact ⟨cs,e3,v1,r1,e4,nil_any q1,q2⟩
    · cases h
  · injection h with h; subst h
    exact ConOk.plain (fun b hb => (cl_all b hb).mono fun _ _ ⟨y,q1,q2,q3⟩ => ⟨y,q1,q2,q3⟩) rfl rfl
  · exact conEa_ok _ _ _ _ h
end Go.Proofs.Ytoglbmhkfkghbaa
namespace Go.Proofs.Ytoglbmhkfkghbaa
open Go Go.Ab
set_option maxRecDepth 100000
def _root_.Go.Ab.byX0 (L:List UInt8) (ok:Bool) (n:Nat) (S:St) (R:AEnd→St→Prop):Prop :=
  (ok = true∧n ≤ 4294967296∧∀ c,bodyP L = some c→c.consts = []) ∧
    (∀ c,bodyP L = some c→R (.ret (.tup [.agg [.sl 1 0 (fun _ => []) .nil,gsl 2 FnD.row c.funs,gsl 4 KeD.row c.kers,gsl 2 LaD.row c.lanes],.int .i64 0])) S) ∧
    (bodyP L = none→R (.ret (.tup [.agg [.sl 1 0 (fun _ => []) .nil,.sl 1 0 (fun _ => []) .nil,.sl 1 0 (fun _ => []) .nil,.sl 1 0 (fun _ => []) .nil],.int .i64 25])) S)
def _root_.Go.Ab.byX1 (L:List UInt8) (ok:Bool) (n:Nat) (S:St) (R:AEnd→St→Prop):Prop :=
  (ok = true∧n ≤ 4294967296∧∀ c,bodyP L = some c→c.consts ≠ []) ∧
    (∀ c,bodyP L = some c→∀ b cap,R (.ret (.tup [.agg [.vs (nextTag S.objs) b c.consts.length cap 4,gsl 2 FnD.row c.funs,gsl 4 KeD.row c.kers,gsl 2 LaD.row c.lanes],.int .i64 0])) ((⟨[(nextTag S.objs,b,.vec 4 c.consts.length cap (fun i => (c.consts.getD i default).row1))],[]⟩:St).add S)) ∧
    (bodyP L = none→R (.ret (.tup [.agg [.sl 1 0 (fun _ => []) .nil,.sl 1 0 (fun _ => []) .nil,.sl 1 0 (fun _ => []) .nil,.sl 1 0 (fun _ => []) .nil],.int .i64 25])) S)
theorem byX0_X {L:List UInt8} {ok:Bool} {n:Nat} {S:St} {R:AEnd→St→Prop} (h:byX0 L ok n S R):byX L ok n S R :=
  ⟨⟨h.1.1,h.1.2.1⟩,fun c hc _ => h.2.1 c hc,fun c hc he => (he (h.1.2.2 c hc)).elim,h.2.2⟩
theorem byX1_X {L:List UInt8} {ok:Bool} {n:Nat} {S:St} {R:AEnd→St→Prop} (h:byX1 L ok n S R):byX L ok n S R :=
  ⟨⟨h.1.1,h.1.2.1⟩,fun c hc he => (h.1.2.2 c hc he).elim,fun c hc _ => h.2.1 c hc,h.2.2⟩
noncomputable def _root_.Go.Ab.inlT (v:Bool) (con:Con) (k:Nat) (ds:List D) (S:St) (R:AEnd→St→Prop):Prop :=
  match Nat.beq k 25 with
  | true => match ds with
    | [.sl 1 n f _] => match v with
      | false => byX0 (bytesOf n f) (rowsB n f) n S R
      | true => byX1 (bytesOf n f) (rowsB n f) n S R
    | _ => False
  | false => inlD { E0 con 0 0 [] (fun _ => ([],[])) with auto := true } (frmGet frames) 9 k ds S R
theorem inlT_ok {v:Bool} {con:Con} (hc:ConOk Try.prog con) (k:Nat) (ds:List D) (S:St) (R:AEnd→St→Prop) (h:inlT v con k ds S R):ACalls Try.prog k ds S R := by
  unfold inlT at h
  split at h
  · rename_i hk
    have hk := Nat.eq_of_beq_eq_true hk
    subst hk
    split at h
    · split at h
      · exact byX_ok (byX0_X h)
      · exact byX_ok (byX1_X h)
    · exact h.elim
  · exact inlD_ok (E := { E0 con 0 0 [] (fun _ => ([],[])) with auto := true }) tab_ok hc mix frames_ok eqs_ok 9 k ds S R h
def midB (b:List UInt8):List UInt8 := (b.drop 4).take (b.length - 8)
def takeE (b:List UInt8):Int := if ekB b ≠ 0 then ekB b else match bodyP (midB b) with
  | none => 25
  | some c => if rightC c ≠ 0 then 26 else 0
theorem takeE_ek {b:List UInt8} (h:ekB b ≠ 0):takeE b = ekB b := by unfold takeE; rw [if_pos h]
theorem takeE_none {b:List UInt8} (h:ekB b = 0) (hn:bodyP (midB b) = none):takeE b = 25 := by unfold takeE; rw [if_neg (by simpa using h),hn]
theorem takeE_some {b:List UInt8} {c:CodD} (h:ekB b = 0) (hn:bodyP (midB b) = some c):takeE b = if rightC c ≠ 0 then 26 else 0 := by unfold takeE; rw [if_neg (by simpa using h),hn]
def _root_.Go.Ab.endT (b:List UInt8) (e:AEnd) (_:St):Prop :=
  match e with
  | .ret (.tup [.agg [dc, df, dk, dl], .int .i64 z]) => z = takeE b ∧ (z ≠ 0 → weakL [dc, df, dk, dl] [.sl 1 0 (fun _ => []) .nil, .sl 1 0 (fun _ => []) .nil, .sl 1 0 (fun _ => []) .nil, .sl 1 0 (fun _ => []) .nil]) ∧
      (z = 0→∃ c:CodD,bodyP (midB b) = some c∧rightC c = 0∧weakD df (gsl 2 FnD.row c.funs)∧weakD dk (gsl 4 KeD.row c.kers)∧weakD dl (gsl 2 LaD.row c.lanes)∧(match dc with
        | .sl w n _ .nil => c.consts = []∧w = 1∧n = 0
        | dc => weakD dc (gsl 4 Arr.row1 c.consts)))
  | _ => False
noncomputable def Ett (v:Bool) (b:List UInt8):Senv := { EC (conTt (fun c => bodyP (midB b) = some c)) 86 1 [2,3,4,5,6,7,8,9,10,15,20,51,63,68,71,72,73,74] (fun id => match id with | 19 => ([0,1,2,3,4,5,6],[4,6]) | _ => ([],[])) with
  inl := inlT v (conTt (fun c => bodyP (midB b) = some c))
  gz := fun r => match v with
    | false => []
    | true => match r with
      | 21 => [.cell 2 0]
      | _ => []
  ann := fun k env S => match k with
    | 1 => some { slots := [73],keep := [2,6,71,72],α := Nat,st := fun i => ([.int .i64 i],S),inv := fun i => i ≤ natOfR (Ab.look env 72),mu := fun i => natOfR (Ab.look env 72) - i }
    | _ => none }
noncomputable section
def rdbq0 (p0:List UInt8):Int := takeE p0
def rdbq1:Prop := SM N0∧(∀ (i:Nat),i < N0→eqOf (List D) [] [])∧True
def rdbq2:Prop := rdbq1∧rdbq1∧rdbq1∧rdbq1∧True
def rdbq3 (p0:List UInt8) (p1:CodD):Prop := bodyP (midB p0) = some p1
def rdbq4 (p0:CodD):List Arr := CodD.consts p0
def rdbq5 (p0:List UInt8):Prop := ∃ (c:CodD),rdbq3 p0 c∧rightC c = Z0∧False∧False∧False∧eqOf (List Arr) (rdbq4 c) []∧SM N1∧SM N0
def rdbq6 (p0:List UInt8) (p1:Nat):List D := [ZB (BI p0 (N0 + p1))]
def rdbq7 (p0:Nat) (p1:List UInt8):Prop := SM p0∧(SM p0∧True)∧(25:Int) = rdbq0 p1∧((25:Int) ≠ Z0→rdbq2)∧((25:Int) = Z0→rdbq5 p1)
def rdbq8 (p0:List UInt8):Int := IntKind.wrap IntKind.i64 ((LI p0) - (4:Int))
def rdbq9 (p0:List UInt8):Nat := Int.toNat (rdbq8 p0)
def rdbq10 (p0:List UInt8):List UInt8 := bytesOf (rdbq9 p0 - N0) fun (i:Nat) => rdbq6 p0 i
def rdbq11 (p0:List UInt8):Int := (NI (sumN (rdbq10 p0)))
def rdbq12 (p0:List UInt8) (p1:Nat):List D := List.getD [[ZB (IntKind.wrap IntKind.u8 (Int.fdiv (rdbq11 p0) (16777216:Int)))],[ZB (IntKind.wrap IntKind.u8 (Int.fdiv (rdbq11 p0) (65536:Int)))],[ZB (IntKind.wrap IntKind.u8 (Int.fdiv (rdbq11 p0) (256:Int)))],[ZB (IntKind.wrap IntKind.u8 (rdbq11 p0))]] p1 []
def rdbq13 (p0:List UInt8):Nat := TL p0 - rdbq9 p0
def rdbq14 (p0:List UInt8) (p1:Nat):List D := [ZB (BI p0 (rdbq9 p0 + p1))]
def rdbq15 (p0:List UInt8):Nat := rdbq9 p0 - N4
def rdbq16 (p0:List UInt8):Option CodD := bodyP (bytesOf (rdbq15 p0) fun (i:Nat) => [ZB (BI p0 (N4 + i))])
def rdbq17 (p0:List UInt8) (p1:CodD):Prop := rdbq16 p0 = some p1
def rdbq18 (p0:CodD):Nat := LN (rdbq4 p0)
def rdbq19 (p0 p1:CodD):Prop := rdbq18 p0 = rdbq18 p1
def rdbq20 (p0:CodD):Nat := LN (CodD.funs p0)
def rdbq21 (p0:CodD) (p1:Nat):List D := FnD.row (GF p0 p1)
def rdbq22 (p0 p1:CodD):Prop := rdbq20 p0 = rdbq20 p1∧(∀ (i:Nat),i < rdbq20 p0→rdbq21 p0 i = rdbq21 p1 i)∧True
def rdbq23 (p0:CodD):Nat := LN (CodD.kers p0)
def rdbq24 (p0:CodD) (p1:Nat):List D := KeD.row (GK p0 p1)
def rdbq25 (p0 p1:CodD):Prop := rdbq23 p0 = rdbq23 p1∧(∀ (i:Nat),i < rdbq23 p0→rdbq24 p0 i = rdbq24 p1 i)∧True
def rdbq26 (p0:CodD):Nat := LN (CodD.lanes p0)
def rdbq27 (p0:CodD) (p1:Nat):List D := LaD.row (GL p0 p1)
def rdbq28 (p0 p1:CodD):Prop := rdbq26 p0 = rdbq26 p1∧(∀ (i:Nat),i < rdbq26 p0→rdbq27 p0 i = rdbq27 p1 i)∧True
def rdbq29 (p0:Nat) (p1:CodD):Prop := p0 < rdbq18 p1
def rdbq30:Arr := DA
def rdbq31 (p0:CodD) (p1:Nat):Arr := List.getD (rdbq4 p0) p1 rdbq30
def rdbq32 (p0:CodD) (p1:Nat):List Int := Arr.sh (rdbq31 p0 p1)
def rdbq33 (p0:CodD) (p1:Nat):List Int := Arr.nu (rdbq31 p0 p1)
def rdbq34 (p0:CodD) (p1:Nat):List Arr := Arr.it (rdbq31 p0 p1)
def rdbq35 (p0:CodD) (p1:Nat):List D := [ZI (Arr.k (rdbq31 p0 p1)),SI (rdbq32 p0 p1),SI (rdbq33 p0 p1),D.sl N4 (LN (rdbq34 p0 p1)) (fun (i:Nat) => Arr.row (List.getD (rdbq34 p0 p1) i rdbq30)) Mode.any]
def rdbq36 (p0:CodD) (p1:Nat) (p2:CodD):Prop := rdbq35 p0 p1 = rdbq35 p2 p1
def rdbq37 (p0:CodD):Int := (NI (rdbq18 p0))
def rdbq38 (p0:CodD):D := ZI (rdbq37 p0)
def rdbq39 (p0:CodD):Nat := natOfR (rdbq38 p0)
def rdbq40 (p0:Nat) (p1:CodD):Prop := p0 ≤ rdbq39 p1
def rdbq41 (p0:CodD):Prop := SM (rdbq18 p0)
def rdbq42 (p0 p1:Nat) (p2:CodD) (p3 p4:Nat):Prop := SM p0∧((SM p1∧rdbq41 p2∧SM p3)∧(SM (rdbq20 p2)∧(∀ (i:Nat),i < rdbq20 p2→SM (rdbq21 p2 i))∧True)∧(SM (rdbq23 p2)∧(∀ (i:Nat),i < rdbq23 p2→SM (rdbq24 p2 i))∧True)∧(SM (rdbq26 p2)∧(∀ (i:Nat),i < rdbq26 p2→SM (rdbq27 p2 i))∧True)∧True)∧SM p4∧rdbq2∧True
def rdbq43 (p0:CodD) (p1:Nat):Arr := List.getD (rdbq4 p0) (Int.toNat (↑p1:Int)) rdbq30
def rdbq44 (p0:CodD) (p1:Nat):List Int := Arr.sh (rdbq43 p0 p1)
def rdbq45 (p0:CodD) (p1:Nat):Nat := LN (rdbq44 p0 p1)
def rdbq46 (p0:CodD) (p1:Nat):List Int := Arr.nu (rdbq43 p0 p1)
def rdbq47 (p0:CodD) (p1:Nat):Nat := LN (rdbq46 p0 p1)
def rdbq48 (p0:CodD) (p1:Nat):List Arr := Arr.it (rdbq43 p0 p1)
def rdbq49 (p0:CodD) (p1:Nat):Nat := LN (rdbq48 p0 p1)
def rdbq50 (p0:Arr) (p1:Nat):List D := Arr.row (List.getD (Arr.it p0) p1 rdbq30)
def rdbq51 (p0:Nat) (p1:CodD) (p2:Nat):Prop := SM (D.vs N1 p0 (rdbq18 p1) p2 N4)
def rdbq52 (p0:CodD) (p1:Nat):Nat := rdbq39 p0 - p1
end
theorem tt1 (b:List UInt8) (hb:b.length ≤ 1048576) (hmk:∀ c,bodyP (midB b) = some c→okC c) (hv:∀ c,bodyP (midB b) = some c→c.consts ≠ []):ACalls Try.prog 15 [bsl b .any] ⟨[],[]⟩ (endT b) := by
  refine call_of (E := Ett true b) (erOk (conTt_ok hmk) (inlT_ok (conTt_ok hmk)) rfl) Try.func15 rfl (by kernel_rfl) rfl (by simp [Ett,EC,E0]) ?_
  refine vc_eq (T :=
    ∀ (x:Nat),True→ifB (decide ((1048576:Int) < (LI b))) (SM x∧(SM x∧True)∧(2:Int) = rdbq0 b∧((2:Int) ≠ Z0→rdbq2)∧((2:Int) = Z0→rdbq5 b)) (ifB (decide ((LI b) < (8:Int))) (SM x∧(SM x∧True)∧(7:Int) = rdbq0 b∧((7:Int) ≠ Z0→rdbq2)∧((7:Int) = Z0→rdbq5 b)) (side (Z0 ≤ Z0∧Z0 ≤ (4:Int)∧(4:Int) ≤ (LI b)) (True∧chk (true && rowsB N4 fun (i:Nat) => rdbq6 b i) (ifB ((bytesOf N4 fun (i:Nat) => rdbq6 b i) != [(65:UInt8),(76:UInt8),(67:UInt8),(49:UInt8)]) (rdbq7 x b) (side (Z0 ≤ Z0∧Z0 ≤ rdbq8 b∧rdbq8 b ≤ (LI b)) (((rowsB (rdbq9 b - N0) fun (i:Nat) => rdbq6 b i) = true∧LN (rdbq10 b) ≤ (9223372036854775807:Nat))∧∀ (y:Unit),True→side (Z0 ≤ rdbq8 b∧rdbq8 b ≤ (LI b)∧(LI b) ≤ (LI b)) (((rowsB N4 fun (i:Nat) => rdbq12 b i) = true∧(rowsB (rdbq13 b) fun (i:Nat) => rdbq14 b i) = true∧N4 ≤ (9223372036854775807:Nat)∧rdbq13 b ≤ (9223372036854775807:Nat))∧∀ (y:Unit),True→ifB (! (bytesOf N4 fun (i:Nat) => rdbq12 b i) == bytesOf (rdbq13 b) fun (i:Nat) => rdbq14 b i) (SM x∧(SM x∧True)∧(27:Int) = rdbq0 b∧((27:Int) ≠ Z0→rdbq2)∧((27:Int) = Z0→rdbq5 b)) (side (Z0 ≤ (4:Int)∧(4:Int) ≤ rdbq8 b∧rdbq8 b ≤ (LI b)) (((rowsB (rdbq15 b) fun (i:Nat) => [ZB (BI b (N4 + i))]) = true∧rdbq15 b ≤ (4294967296:Nat)∧∀ (c:CodD),rdbq17 b c→rdbq4 c ≠ [])∧(∀ (c:CodD),rdbq17 b c→∀ (b_1 cap x_1:Nat),b_1 ≠ x_1∧x ≠ x_1∧True→SM x_1∧SM x_1∧∃ (x_2:CodD × Nat × Nat),(((b_1 = x_2.2.1∧rdbq19 c x_2.1∧cap = x_2.2.2)∧rdbq22 c x_2.1∧rdbq25 c x_2.1∧rdbq28 c x_2.1∧True)∧True)∧((b_1 = x_2.2.1∧(rdbq19 c x_2.1∧cap = x_2.2.2∧∀ (i:Nat),rdbq29 i c→rdbq36 c i x_2.1)∧True)∧True)∧rdbq3 b x_2.1∧∀ (y:Unit),True→ifB (rightC x_2.1 != Z0) (SM x∧(SM x∧True)∧(26:Int) = rdbq0 b∧((26:Int) ≠ Z0→rdbq2)∧((26:Int) = Z0→rdbq5 b)) (SM x_1∧(∃ (x_3:Nat),rdbq40 x_3 c∧(Z0 = (↑x_3:Int)∧True)∧(SM x_2.2.1∧(rdbq41 x_2.1∧SM x_2.2.2∧∀ (i:Nat),rdbq29 i x_2.1→SM (rdbq35 x_2.1 i))∧rdbq42 x_1 b_1 c cap x)∧True)∧∀ (x_3:Nat),rdbq40 x_3 c→ifB (decide ((↑x_3:Int) < rdbq37 c)) (side (Z0 ≤ (↑x_3:Int)∧(↑x_3:Int) < rdbq37 c) (x_2.2.1 = b_1∧side (Int.toNat (↑x_3:Int) < rdbq18 x_2.1) (∀ (x_4:Nat),x_2.2.1 ≠ x_4∧x_1 ≠ x_4∧x ≠ x_4∧True→SM x_4∧SM x_1∧SM x_4∧∃ (x_5:Arr),((Arr.k (rdbq43 x_2.1 x_3) = Arr.k x_5∧(rdbq45 x_2.1 x_3 = LN (Arr.sh x_5)∧(∀ (i:Nat),i < rdbq45 x_2.1 x_3→[ZI (GI (rdbq44 x_2.1 x_3) i)] = [ZI (GI (Arr.sh x_5) i)])∧True)∧(rdbq47 x_2.1 x_3 = LN (Arr.nu x_5)∧(∀ (i:Nat),i < rdbq47 x_2.1 x_3→[ZI (GI (rdbq46 x_2.1 x_3) i)] = [ZI (GI (Arr.nu x_5) i)])∧True)∧(rdbq49 x_2.1 x_3 = LN (Arr.it x_5)∧(∀ (i:Nat),i < rdbq49 x_2.1 x_3→Arr.row (List.getD (rdbq48 x_2.1 x_3) i rdbq30) = rdbq50 x_5 i)∧True)∧True)∧True)∧(True∧True)∧Prod.fst (chkA x_5) = Z0∧∀ (y:Unit),True→(SM x_1∧rdbq51 b_1 c cap)∧side (Z0 ≤ (↑x_3:Int)∧(↑x_3:Int) < rdbq37 c) (x_2.2.1 = b_1∧side (Int.toNat (↑x_3:Int) < rdbq18 x_2.1) ((SM (D.ref N0 x N0)∧SM (D.ref (max (N1 + N1) N1) x_1 N0)∧rdbq51 b_1 c cap∧SM (rdbq38 c)∧True)∧∃ (y:Nat),rdbq40 y c∧rdbq52 c y < rdbq52 c x_3∧(IntKind.wrap IntKind.i64 ((↑x_3:Int) + Z1) = (↑y:Int)∧True)∧(SM x_2.2.1∧(rdbq41 x_2.1∧SM x_2.2.2∧∀ (i:Nat),rdbq29 i x_2.1→updF (fun (i:Nat) => rdbq35 x_2.1 i) (Int.toNat (↑x_3:Int)) [ZI (Arr.k x_5),SI (Arr.sh x_5),SI (Arr.nu x_5),D.sl N4 (LN (Arr.it x_5)) (fun (i:Nat) => rdbq50 x_5 i) Mode.any] i = rdbq35 x_2.1 i)∧rdbq42 x_1 b_1 c cap x)∧True))))) (x_2.2.1 = b_1∧x_2.2.2 = cap∧side (rdbq18 c ≤ rdbq18 x_2.1) ((∀ (i:Nat),rdbq29 i c→(List.all (rdbq35 x_2.1 i) fun (x:D) => match x with | D.unk => false | D.agg cs => false | D.tup ds => false | x => true) = true)∧∀ (t:Nat),SM x_1∧SM x∧(SM x∧True)∧Z0 = rdbq0 b∧(Z0 ≠ Z0→False∧False∧False∧False∧True)∧(SM Z0→∃ (c_1:CodD),rdbq3 b c_1∧rightC c_1 = Z0∧rdbq22 c c_1∧rdbq25 c c_1∧rdbq28 c c_1∧rdbq19 c c_1∧(∀ (i:Nat),rdbq29 i c→rdbq36 x_2.1 i c_1)∧True)))))∧(rdbq16 b = none→∀ (x_1:Nat),x ≠ x_1∧True→SM x_1∧rdbq7 x b))))))))))) (by kernel_rfl) ?_
  delta BI DA DF DK DL GF GI GK GL LI LN N0 N1 N4 NI SI SM TL U0 Z0 Z1 ZB ZI rdbq0 rdbq1 rdbq10 rdbq11 rdbq12 rdbq13 rdbq14 rdbq15 rdbq16 rdbq17 rdbq18 rdbq19 rdbq2 rdbq20 rdbq21 rdbq22 rdbq23 rdbq24 rdbq25 rdbq26 rdbq27 rdbq28 rdbq29 rdbq3 rdbq30 rdbq31 rdbq32 rdbq33 rdbq34 rdbq35 rdbq36 rdbq37 rdbq38 rdbq39 rdbq4 rdbq40 rdbq41 rdbq42 rdbq43 rdbq44 rdbq45 rdbq46 rdbq47 rdbq48 rdbq49 rdbq5 rdbq50 rdbq51 rdbq52 rdbq6 rdbq7 rdbq8 rdbq9
  have da:(default:Arr) = Arr.mk 0 [] [] [] := rfl
  have dF:(default:FnD) = ⟨0,[]⟩ := rfl
  have dK:(default:KeD) = ⟨0,[],0,0⟩ := rfl
  have dL:(default:LaD) = ⟨0,[]⟩ := rfl
  simp only [← da,← dF,← dK,← dL,eq_self,ne_eq,implies_true,Int.toNat_natCast,ifB_iff,side_iff,decide_eq_true_eq,decide_eq_false_iff_not,true_and,and_true,beq_iff_eq,Bool.not_eq_true',Bool.not_eq_false',beq_eq_false_iff_ne,forall_const,natOfR]
  have z:∀ n:Int,n ≠ 0→∀ {p:Prop},n = 0→p := fun n h p e => (h e).elim
  intro x
  refine ⟨fun h1 => ⟨?_,z _ (by decide)⟩,fun h1 => ⟨fun h2 => ⟨?_,z _ (by decide)⟩,fun h2 => ?_⟩⟩
  · rw [takeE_ek (by unfold ekB; rw [if_pos (by omega)]; decide)]; unfold ekB; rw [if_pos (by omega)]
  · rw [takeE_ek (by unfold ekB; rw [if_neg (by omega),if_pos (by omega)]; decide)]; unfold ekB; rw [if_neg (by omega),if_pos (by omega)]
  have hw:(IntKind.i64.wrap ((b.length:Int) - 4)).toNat = b.length - 4 := by rw [wrap_i64' (by omega) (by omega)]; omega
  have e1 := bytesOf_part b 0 4 (by omega)
  have e2 := rowsB_part b 0 4 (by omega)
  have e3 := bytesOf_part b 0 (b.length - 4) (by omega)
  have e4 := rowsB_part b 0 (b.length - 4) (by omega)
  have e5 := bytesOf_part b (b.length - 4) (b.length - (b.length - 4)) (by omega)
  have e6 := rowsB_part b (b.length - 4) (b.length - (b.length - 4)) (by omega)
  have e7 := bytesOf_part b 4 (b.length - 4 - 4) (by omega)
  have e8 := rowsB_part b 4 (b.length - 4 - 4) (by omega)
  have em:(b.drop 4).take (b.length - 4 - 4) = midB b := by unfold midB; congr 1
  rw [em] at e7
  rw [List.take_of_length_le (by rw [List.length_drop]; exact Nat.le_refl _)] at e5
  simp only [List.drop_zero] at e1 e3
  simp only [hw,Nat.sub_zero,e1,e2,e3,e4,e5,e6,e7,e8,bytesOf_sum4,rowsB_sum4]
  have hw2:IntKind.i64.wrap ((b.length:Int) - 4) = (b.length:Int) - 4 := wrap_i64' (by omega) (by omega)
  simp only [hw2]
  refine ⟨by omega,fun hm => ⟨?_,z _ (by decide)⟩,fun hmg => ⟨by omega,⟨trivial,by rw [List.length_take]; omega⟩,by omega,⟨trivial,trivial,by omega,by omega⟩,fun hs => ⟨?_,z _ (by decide)⟩,fun hs => ?_⟩⟩
  · have hm':¬ b.take 4 = [65,76,67,49] := by simpa using hm
    have e:ekB b = 25 := by unfold ekB; rw [if_neg (by omega),if_neg (by omega),if_pos hm']
    rw [takeE_ek (by rw [e]; decide),e]
  · have hm':b.take 4 = [65,76,67,49] := by simpa using hmg
    have e:ekB b = 27 := by unfold ekB; rw [if_neg (by omega),if_neg (by omega),if_neg (by simpa using hm'),if_pos hs]
    rw [takeE_ek (by rw [e]; decide),e]
  have hm':b.take 4 = [65,76,67,49] := by simpa using hmg
  have ek0:ekB b = 0 := by unfold ekB; rw [if_neg (by omega),if_neg (by omega),if_neg (by simpa using hm'),if_neg (by simpa using hs)]
  refine ⟨by omega,⟨trivial,by omega,hv⟩,fun c hc b1 cap x1 _ => have hcl:c.consts.length ≤ 9223372036854775807 := (by have := (hmk c hc).1.2.2.2.2.1; simpa [maxLen] using this); ⟨(c,b1,cap),⟨⟨rfl,rfl,rfl⟩,⟨rfl,fun _ _ => rfl⟩,⟨rfl,fun _ _ => rfl⟩,rfl,fun _ _ => rfl⟩,⟨rfl,rfl,rfl,fun _ _ => rfl⟩,hc,fun hr => ⟨?_,z _ (by decide)⟩,fun hr => ⟨⟨0,Nat.zero_le _,rfl⟩,fun i hi => ⟨fun hlt => ⟨⟨by omega,hlt⟩,rfl,by simp only; omega,fun x4 _ => ⟨c.consts.getD i default,⟨rfl,⟨rfl,fun _ _ => rfl⟩,⟨rfl,fun _ _ => rfl⟩,rfl,fun _ _ => rfl⟩,?_,⟨by omega,hlt⟩,rfl,by simp only; omega,i + 1,by omega,by omega,wrap_i64' (by omega) (by omega),?_⟩⟩,fun hge => ⟨rfl,rfl,Nat.le_refl _,fun _ _ => rfl,?_,fun h => (h trivial).elim,c,hc,?_,⟨rfl,fun _ _ => rfl⟩,⟨rfl,fun _ _ => rfl⟩,⟨rfl,fun _ _ => rfl⟩,rfl,fun _ _ => rfl⟩⟩⟩⟩,fun hn x1 _ => ⟨(takeE_none ek0 hn).symm,z _ (by decide)⟩⟩
  · have hr':¬ rightC c = 0 := by simpa using hr
    rw [takeE_some ek0 hc,if_pos hr']
  · have hr':rightC c = 0 := by simpa using hr
    exact right_consts hr' _ (mem_getD (by omega))
  · intro j hj
    by_cases hji:j = i
    · subst hji; simp only [updF,if_pos]
    · simp only [updF,if_neg hji]
  · have hr':rightC c = 0 := by simpa using hr
    rw [takeE_some ek0 hc,if_neg (by simpa using hr')]
  · simpa using hr
noncomputable section
def rdbq53 (p0:List UInt8):Int := takeE p0
def rdbq54:Prop := SM N0∧(∀ (i:Nat),i < N0→eqOf (List D) [] [])∧True
def rdbq55:Prop := rdbq54∧rdbq54∧rdbq54∧rdbq54∧True
def rdbq56 (p0:List UInt8) (p1:CodD):Prop := bodyP (midB p0) = some p1
def rdbq57 (p0:CodD):Prop := eqOf (List Arr) (CodD.consts p0) []
def rdbq58 (p0:CodD):Prop := rdbq57 p0∧SM N1∧SM N0
def rdbq59 (p0:List UInt8):Prop := ∃ (c:CodD),rdbq56 p0 c∧rightC c = Z0∧False∧False∧False∧rdbq58 c
def rdbq60 (p0:List UInt8) (p1:Nat):List D := [ZB (BI p0 (N0 + p1))]
def rdbq61 (p0:Nat) (p1:List UInt8):Prop := SM p0∧(SM p0∧True)∧(25:Int) = rdbq53 p1∧((25:Int) ≠ Z0→rdbq55)∧((25:Int) = Z0→rdbq59 p1)
def rdbq62 (p0:List UInt8):Int := IntKind.wrap IntKind.i64 ((LI p0) - (4:Int))
def rdbq63 (p0:List UInt8):Nat := Int.toNat (rdbq62 p0)
def rdbq64 (p0:List UInt8):List UInt8 := bytesOf (rdbq63 p0 - N0) fun (i:Nat) => rdbq60 p0 i
def rdbq65 (p0:List UInt8):Int := (NI (sumN (rdbq64 p0)))
def rdbq66 (p0:List UInt8) (p1:Nat):List D := List.getD [[ZB (IntKind.wrap IntKind.u8 (Int.fdiv (rdbq65 p0) (16777216:Int)))],[ZB (IntKind.wrap IntKind.u8 (Int.fdiv (rdbq65 p0) (65536:Int)))],[ZB (IntKind.wrap IntKind.u8 (Int.fdiv (rdbq65 p0) (256:Int)))],[ZB (IntKind.wrap IntKind.u8 (rdbq65 p0))]] p1 []
def rdbq67 (p0:List UInt8):Nat := TL p0 - rdbq63 p0
def rdbq68 (p0:List UInt8) (p1:Nat):List D := [ZB (BI p0 (rdbq63 p0 + p1))]
def rdbq69 (p0:List UInt8):Nat := rdbq63 p0 - N4
def rdbq70 (p0:List UInt8):Option CodD := bodyP (bytesOf (rdbq69 p0) fun (i:Nat) => [ZB (BI p0 (N4 + i))])
def rdbq71 (p0:List UInt8) (p1:CodD):Prop := rdbq70 p0 = some p1
def rdbq72 (p0:CodD):Nat := LN (CodD.funs p0)
def rdbq73 (p0:CodD) (p1:Nat):List D := FnD.row (GF p0 p1)
def rdbq74 (p0 p1:CodD):Prop := rdbq72 p0 = rdbq72 p1∧(∀ (i:Nat),i < rdbq72 p0→rdbq73 p0 i = rdbq73 p1 i)∧True
def rdbq75 (p0:CodD):Nat := LN (CodD.kers p0)
def rdbq76 (p0:CodD) (p1:Nat):List D := KeD.row (GK p0 p1)
def rdbq77 (p0 p1:CodD):Prop := rdbq75 p0 = rdbq75 p1∧(∀ (i:Nat),i < rdbq75 p0→rdbq76 p0 i = rdbq76 p1 i)∧True
def rdbq78 (p0:CodD):Nat := LN (CodD.lanes p0)
def rdbq79 (p0:CodD) (p1:Nat):List D := LaD.row (GL p0 p1)
def rdbq80 (p0 p1:CodD):Prop := rdbq78 p0 = rdbq78 p1∧(∀ (i:Nat),i < rdbq78 p0→rdbq79 p0 i = rdbq79 p1 i)∧True
end
theorem tt0 (b:List UInt8) (hb:b.length ≤ 1048576) (hmk:∀ c,bodyP (midB b) = some c→okC c) (hv:∀ c,bodyP (midB b) = some c→c.consts = []):ACalls Try.prog 15 [bsl b .any] ⟨[],[]⟩ (endT b) := by
  refine call_of (E := Ett false b) (erOk (conTt_ok hmk) (inlT_ok (conTt_ok hmk)) rfl) Try.func15 rfl (by kernel_rfl) rfl (by simp [Ett,EC,E0]) ?_
  refine vc_eq (T :=
    ∀ (x:Nat),True→ifB (decide ((1048576:Int) < (LI b))) (SM x∧(SM x∧True)∧(2:Int) = rdbq53 b∧((2:Int) ≠ Z0→rdbq55)∧((2:Int) = Z0→rdbq59 b)) (ifB (decide ((LI b) < (8:Int))) (SM x∧(SM x∧True)∧(7:Int) = rdbq53 b∧((7:Int) ≠ Z0→rdbq55)∧((7:Int) = Z0→rdbq59 b)) (side (Z0 ≤ Z0∧Z0 ≤ (4:Int)∧(4:Int) ≤ (LI b)) (True∧chk (true && rowsB N4 fun (i:Nat) => rdbq60 b i) (ifB ((bytesOf N4 fun (i:Nat) => rdbq60 b i) != [(65:UInt8),(76:UInt8),(67:UInt8),(49:UInt8)]) (rdbq61 x b) (side (Z0 ≤ Z0∧Z0 ≤ rdbq62 b∧rdbq62 b ≤ (LI b)) (((rowsB (rdbq63 b - N0) fun (i:Nat) => rdbq60 b i) = true∧LN (rdbq64 b) ≤ (9223372036854775807:Nat))∧∀ (y:Unit),True→side (Z0 ≤ rdbq62 b∧rdbq62 b ≤ (LI b)∧(LI b) ≤ (LI b)) (((rowsB N4 fun (i:Nat) => rdbq66 b i) = true∧(rowsB (rdbq67 b) fun (i:Nat) => rdbq68 b i) = true∧N4 ≤ (9223372036854775807:Nat)∧rdbq67 b ≤ (9223372036854775807:Nat))∧∀ (y:Unit),True→ifB (! (bytesOf N4 fun (i:Nat) => rdbq66 b i) == bytesOf (rdbq67 b) fun (i:Nat) => rdbq68 b i) (SM x∧(SM x∧True)∧(27:Int) = rdbq53 b∧((27:Int) ≠ Z0→rdbq55)∧((27:Int) = Z0→rdbq59 b)) (side (Z0 ≤ (4:Int)∧(4:Int) ≤ rdbq62 b∧rdbq62 b ≤ (LI b)) (((rowsB (rdbq69 b) fun (i:Nat) => [ZB (BI b (N4 + i))]) = true∧rdbq69 b ≤ (4294967296:Nat)∧∀ (c:CodD),rdbq71 b c→rdbq57 c)∧(∀ (c:CodD),rdbq71 b c→∀ (x_1:Nat),x ≠ x_1∧True→SM x_1∧SM x_1∧∃ (x_2:CodD),((rdbq54∧rdbq74 c x_2∧rdbq77 c x_2∧rdbq80 c x_2∧True)∧True)∧(True∧True)∧(rdbq56 b x_2∧rdbq57 x_2)∧∀ (y:Unit),True→ifB (rightC x_2 != Z0) (SM x∧(SM x∧True)∧(26:Int) = rdbq53 b∧((26:Int) ≠ Z0→rdbq55)∧((26:Int) = Z0→rdbq59 b)) (SM x_1∧(∃ (x_3:Nat),x_3 ≤ natOfR (ZI Z0)∧(Z0 = (↑x_3:Int)∧True)∧(SM x_1∧(rdbq54∧(SM (rdbq72 c)∧(∀ (i:Nat),i < rdbq72 c→SM (rdbq73 c i))∧True)∧(SM (rdbq75 c)∧(∀ (i:Nat),i < rdbq75 c→SM (rdbq76 c i))∧True)∧(SM (rdbq78 c)∧(∀ (i:Nat),i < rdbq78 c→SM (rdbq79 c i))∧True)∧True)∧SM x∧rdbq55∧True)∧True)∧∀ (x_3:Nat),x_3 ≤ natOfR (ZI Z0)→SM x_1∧SM x∧(SM x∧True)∧Z0 = rdbq53 b∧(Z0 ≠ Z0→rdbq54∧False∧False∧False∧True)∧(SM Z0→∃ (c_1:CodD),rdbq56 b c_1∧rightC c_1 = Z0∧rdbq74 c c_1∧rdbq77 c c_1∧rdbq80 c c_1∧rdbq58 c_1)))∧(rdbq70 b = none→∀ (x_1:Nat),x ≠ x_1∧True→SM x_1∧rdbq61 x b))))))))))) (by kernel_rfl) ?_
  delta BI DF DK DL GF GK GL LI LN N0 N1 N4 NI SM TL U0 Z0 ZB ZI rdbq53 rdbq54 rdbq55 rdbq56 rdbq57 rdbq58 rdbq59 rdbq60 rdbq61 rdbq62 rdbq63 rdbq64 rdbq65 rdbq66 rdbq67 rdbq68 rdbq69 rdbq70 rdbq71 rdbq72 rdbq73 rdbq74 rdbq75 rdbq76 rdbq77 rdbq78 rdbq79 rdbq80
  have da:(default:Arr) = Arr.mk 0 [] [] [] := rfl
  have dF:(default:FnD) = ⟨0,[]⟩ := rfl
  have dK:(default:KeD) = ⟨0,[],0,0⟩ := rfl
  have dL:(default:LaD) = ⟨0,[]⟩ := rfl
  simp only [← dF,← dK,← dL,eq_self,ne_eq,implies_true,Int.toNat_natCast,ifB_iff,side_iff,decide_eq_true_eq,decide_eq_false_iff_not,true_and,and_true,beq_iff_eq,Bool.not_eq_true',Bool.not_eq_false',beq_eq_false_iff_ne,forall_const,natOfR]
  have z:∀ n:Int,n ≠ 0→∀ {p:Prop},n = 0→p := fun n h p e => (h e).elim
  intro x
  refine ⟨fun h1 => ⟨?_,z _ (by decide)⟩,fun h1 => ⟨fun h2 => ⟨?_,z _ (by decide)⟩,fun h2 => ?_⟩⟩
  · rw [takeE_ek (by unfold ekB; rw [if_pos (by omega)]; decide)]; unfold ekB; rw [if_pos (by omega)]
  · rw [takeE_ek (by unfold ekB; rw [if_neg (by omega),if_pos (by omega)]; decide)]; unfold ekB; rw [if_neg (by omega),if_pos (by omega)]
  have hw:(IntKind.i64.wrap ((b.length:Int) - 4)).toNat = b.length - 4 := by rw [wrap_i64' (by omega) (by omega)]; omega
  have e1 := bytesOf_part b 0 4 (by omega)
  have e2 := rowsB_part b 0 4 (by omega)
  have e3 := bytesOf_part b 0 (b.length - 4) (by omega)
  have e4 := rowsB_part b 0 (b.length - 4) (by omega)
  have e5 := bytesOf_part b (b.length - 4) (b.length - (b.length - 4)) (by omega)
  have e6 := rowsB_part b (b.length - 4) (b.length - (b.length - 4)) (by omega)
  have e7 := bytesOf_part b 4 (b.length - 4 - 4) (by omega)
  have e8 := rowsB_part b 4 (b.length - 4 - 4) (by omega)
  have em:(b.drop 4).take (b.length - 4 - 4) = midB b := by unfold midB; congr 1
  rw [em] at e7
  rw [List.take_of_length_le (by rw [List.length_drop]; exact Nat.le_refl _)] at e5
  simp only [List.drop_zero] at e1 e3
  simp only [hw,Nat.sub_zero,e1,e2,e3,e4,e5,e6,e7,e8,bytesOf_sum4,rowsB_sum4]
  have hw2:IntKind.i64.wrap ((b.length:Int) - 4) = (b.length:Int) - 4 := wrap_i64' (by omega) (by omega)
  simp only [hw2]
  refine ⟨by omega,fun hm => ⟨?_,z _ (by decide)⟩,fun hmg => ⟨by omega,⟨trivial,by rw [List.length_take]; omega⟩,by omega,⟨trivial,trivial,by omega,by omega⟩,fun hs => ⟨?_,z _ (by decide)⟩,fun hs => ?_⟩⟩
  · have hm':¬ b.take 4 = [65,76,67,49] := by simpa using hm
    have e:ekB b = 25 := by unfold ekB; rw [if_neg (by omega),if_neg (by omega),if_pos hm']
    rw [takeE_ek (by rw [e]; decide),e]
  · have hm':b.take 4 = [65,76,67,49] := by simpa using hmg
    have e:ekB b = 27 := by unfold ekB; rw [if_neg (by omega),if_neg (by omega),if_neg (by simpa using hm'),if_pos hs]
    rw [takeE_ek (by rw [e]; decide),e]
  have hm':b.take 4 = [65,76,67,49] := by simpa using hmg
  have ek0:ekB b = 0 := by unfold ekB; rw [if_neg (by omega),if_neg (by omega),if_neg (by simpa using hm'),if_neg (by simpa using hs)]
  refine ⟨by omega,⟨trivial,by omega,hv⟩,fun c hc x1 _ => ⟨c,⟨⟨rfl,fun _ _ => rfl⟩,⟨rfl,fun _ _ => rfl⟩,rfl,fun _ _ => rfl⟩,⟨hc,hv c hc⟩,fun hr => ⟨?_,z _ (by decide)⟩,fun hr => ⟨⟨0,Nat.zero_le _,rfl⟩,fun i hi => ⟨?_,fun h => (h trivial).elim,c,hc,?_,⟨rfl,fun _ _ => rfl⟩,⟨rfl,fun _ _ => rfl⟩,⟨rfl,fun _ _ => rfl⟩,hv c hc⟩⟩⟩,fun hn x1 _ => ⟨(takeE_none ek0 hn).symm,z _ (by decide)⟩⟩
  · have hr':¬ rightC c = 0 := by simpa using hr
    rw [takeE_some ek0 hc,if_pos hr']
  · have hr':rightC c = 0 := by simpa using hr
    rw [takeE_some ek0 hc,if_neg (by simpa using hr')]
  · simpa using hr
theorem take_ok (b:List UInt8) (hb:b.length ≤ 1048576) (hmk:∀ c,bodyP (midB b) = some c→okC c):ACalls Try.prog 15 [bsl b .any] ⟨[],[]⟩ (endT b) := by
  by_cases h:∀ c,bodyP (midB b) = some c→c.consts = []
  · exact tt0 b hb hmk h
  · refine tt1 b hb hmk fun c hc e => h fun c' hc' => ?_
    rw [hc] at hc'; injection hc' with hc'; rw [← hc']; exact e
end Go.Proofs.Ytoglbmhkfkghbaa
namespace Go.Proofs.Ytoglbmhkfkghbaa
open Go Go.Ab
set_option maxRecDepth 100000
theorem rows1_w {c:CodD}:wkL [gsl 4 Arr.row1 c.consts,gsl 2 FnD.row c.funs,gsl 4 KeD.row c.kers,gsl 2 LaD.row c.lanes] c.row := by
  simp only [CodD.row,gsl,wkL]
  exact ⟨chk_iff.2 ⟨rfl,rfl,fun i _ => row1_row _,by simp [weakM]⟩,wkD_refl _,wkD_refl _,wkD_refl _,trivial⟩
theorem dcod_d:DOk 27 [] codP (fun _ => True) (fun c => .agg c.row) := by
  intro x b at_ ok hb ha
  refine ACalls.wkEnd (dcod_c x b at_ ok hb ha) fun r S' hr => ?_
  cases r with
  | pan d => exact hr.elim
  | ret d =>
    obtain ⟨⟨a',o',cs,fs,ks,ls⟩,q1,q2,q3⟩ := hr
    refine ⟨.ret (.agg (CodD.mk cs fs ks ls).row),fun C e he => ?_,⟨(a',o',CodD.mk cs fs ks ls),q1,trivial,weakD_refl _,q3⟩⟩
    cases e with
    | returned v =>
      refine wkD_weak _ _ ?_ C v (weakD_weak _ _ q2 C v he)
      simp only [wkD]
      exact rows1_w (c := CodD.mk cs fs ks ls)
    | panicked _ => exact he.elim
    | outgrown => exact he.elim
noncomputable def _root_.Go.Ab.inlU (con:Con) (k:Nat) (ds:List D) (S:St) (R:AEnd→St→Prop):Prop :=
  match Nat.beq k 27 with
  | true => match ds with
    | [.ref kx x 0] => dX codP (fun _ => True) (fun c => .agg c.row) S R kx x
    | _ => False
  | false => inlD { E0 con 0 0 [] (fun _ => ([],[])) with auto := true } (frmGet frames) 9 k ds S R
theorem inlU_ok {con:Con} (hc:ConOk Try.prog con) (k:Nat) (ds:List D) (S:St) (R:AEnd→St→Prop) (h:inlU con k ds S R):ACalls Try.prog k ds S R := by
  unfold inlU at h
  split at h
  · rename_i hk
    have hk := Nat.eq_of_beq_eq_true hk
    subst hk
    split at h
    · exact dX_ok dcod_d h
    · exact h.elim
  · exact inlD_ok (E := { E0 con 0 0 [] (fun _ => ([],[])) with auto := true }) tab_ok hc mix frames_ok eqs_ok 9 k ds S R h
def sRr (n:CodD→Prop):FnSpec where
  β := CodD
  α := Unit
  args := fun c => [.agg c.row]
  st := fun _ => ⟨[],[]⟩
  pre := n
  post := fun _ _ => True
  res := fun c _ => .ret (.int .i64 (rightC c))
  out := fun _ _ => ⟨[],[]⟩
def conTr (n:CodD→Prop):Con := fun k ds S => match k with
  | 22 => some (sRr n)
  | k => conS k ds S
theorem conTr_ok {n:CodD→Prop} (hn:∀ c,n c→okC c):ConOk Try.prog (conTr n) := by
  intro k ds S A h
  unfold conTr at h
  split at h
  · injection h with h; subst h
    refine ConOk.plain (fun c hc => ?_) rfl rfl
    obtain ⟨o1,o2⟩ := hn c hc
    exact (rrt_ok c o1 o2).mono fun _ _ ⟨y,q1,q2,q3⟩ => ⟨(),trivial,q2,q3⟩
  · exact conS_ok _ _ _ _ h
def _root_.Go.Ab.endTr (b:List UInt8) (e:AEnd) (_:St):Prop :=
  match e with
  | .ret (.tup [.agg [dc, df, dk, dl], .int .i64 z]) => z = takeE b ∧ (z ≠ 0 → weakL [dc, df, dk, dl] [.sl 1 0 (fun _ => []) .nil, .sl 1 0 (fun _ => []) .nil, .sl 1 0 (fun _ => []) .nil, .sl 1 0 (fun _ => []) .nil]) ∧
      (z = 0→∃ c:CodD,bodyP (midB b) = some c∧weakL [dc,df,dk,dl] c.row)
  | _ => False
def be4 (l:List UInt8):Nat := (l.getD 0 0).toNat * 16777216 + (l.getD 1 0).toNat * 65536 + (l.getD 2 0).toNat * 256 + (l.getD 3 0).toNat
theorem or4 (a b c d:UInt8):orI .u32 (orI .u32 (orI .u32 (IntKind.u32.wrap (IntKind.u32.wrap (a.toNat:Int) * 16777216)) (IntKind.u32.wrap (IntKind.u32.wrap (b.toNat:Int) * 65536))) (IntKind.u32.wrap (IntKind.u32.wrap (c.toNat:Int) * 256))) (IntKind.u32.wrap (d.toNat:Int)) = ((a.toNat * 16777216 + b.toNat * 65536 + c.toNat * 256 + d.toNat:Nat):Int) := by
  have ha := a.toNat_lt
  have hb := b.toNat_lt
  have hc := c.toNat_lt
  have hd := d.toNat_lt
  generalize a.toNat = a at *
  generalize b.toNat = b at *
  generalize c.toNat = c at *
  generalize d.toNat = d at *
  have e1:IntKind.u32.wrap (IntKind.u32.wrap (a:Int) * 16777216) = ((a * 2 ^ 24:Nat):Int) := by simp only [IntKind.wrap_u32]; omega
  have e2:IntKind.u32.wrap (IntKind.u32.wrap (b:Int) * 65536) = ((b * 2 ^ 16:Nat):Int) := by simp only [IntKind.wrap_u32]; omega
  have e3:IntKind.u32.wrap (IntKind.u32.wrap (c:Int) * 256) = ((c * 2 ^ 8:Nat):Int) := by simp only [IntKind.wrap_u32]; omega
  have e4:IntKind.u32.wrap (d:Int) = ((d:Nat):Int) := by simp only [IntKind.wrap_u32]; omega
  rw [e1,e2,e3,e4]
  clear e1 e2 e3 e4
  have o1:a * 2 ^ 24 ||| b * 2 ^ 16 = a * 2 ^ 24 + b * 2 ^ 16 := by
    have := Nat.shiftLeft_add_eq_or_of_lt (i := 24) (b := b * 2 ^ 16) (by omega) a
    rw [Nat.shiftLeft_eq] at this
    exact this.symm
  have o2:(a * 2 ^ 24 + b * 2 ^ 16) ||| c * 2 ^ 8 = a * 2 ^ 24 + b * 2 ^ 16 + c * 2 ^ 8 := by
    have := Nat.shiftLeft_add_eq_or_of_lt (i := 16) (b := c * 2 ^ 8) (by omega) (a * 256 + b)
    rw [Nat.shiftLeft_eq,show (a * 256 + b) * 2 ^ 16 = a * 2 ^ 24 + b * 2 ^ 16 by rw [Nat.add_mul,Nat.mul_assoc,show 256 * 2 ^ 16 = 2 ^ 24 from rfl]] at this
    exact this.symm
  have o3:(a * 2 ^ 24 + b * 2 ^ 16 + c * 2 ^ 8) ||| d = a * 2 ^ 24 + b * 2 ^ 16 + c * 2 ^ 8 + d := by
    have := Nat.shiftLeft_add_eq_or_of_lt (i := 8) (b := d) (by omega) (a * 65536 + b * 256 + c)
    rw [Nat.shiftLeft_eq,show (a * 65536 + b * 256 + c) * 2 ^ 8 = a * 2 ^ 24 + b * 2 ^ 16 + c * 2 ^ 8 by rw [Nat.add_mul,Nat.add_mul,Nat.mul_assoc,Nat.mul_assoc,show 65536 * 2 ^ 8 = 2 ^ 24 from rfl,show 256 * 2 ^ 8 = 2 ^ 16 from rfl]] at this
    exact this.symm
  rw [orI_nat (k := .u32) rfl (by simp only [IntKind.bits]; omega) (by simp only [IntKind.bits]; omega),o1,orI_nat (k := .u32) rfl (by simp only [IntKind.bits]; omega) (by simp only [IntKind.bits]; omega),o2,orI_nat (k := .u32) rfl (by simp only [IntKind.bits]; omega) (by simp only [IntKind.bits]; omega),o3]
theorem sumN_lt (l:List UInt8):sumN l < 4294967296 := by
  unfold sumN
  exact Nat.xor_lt_two_pow (n := 32) (crc_lt l (by omega)) (by omega)
theorem be4_sumB {L:List UInt8} {s:Nat} (hl:L.length = 4) (hs:s < 4294967296):be4 L = s↔sumB s = L := by
  match L,hl with
  | [a,b,c,d],_ =>
    have ha := a.toNat_lt
    have hb := b.toNat_lt
    have hc := c.toNat_lt
    have hd := d.toNat_lt
    have hb4:be4 [a,b,c,d] = a.toNat * 16777216 + b.toNat * 65536 + c.toNat * 256 + d.toNat := rfl
    rw [hb4]
    simp only [sumB,List.cons.injEq,and_true,← UInt8.toNat_inj,UInt8.toNat_ofNat']
    omega
noncomputable def Etr (b:List UInt8) (v:Nat):Senv := { EC (conTr (fun c => bodyP (midB b) = some c)) 90 1 [2,3,4,5,6,7,10,14,19,58,83,87] (fun id => match id with | 8 => ([0,1,2,3,6,7,8,9,10,14,15,16,17,18,22,23,24,25,26,4,5,11,12,13,19,20,21,27,28,29],[4,11,19,27]) | 13 => ([0,1,2,3,4,5,6,7,8,9,10,11,12,13,14,15,16],[]) | _ => ([],[])) with
  inl := inlU (conTr (fun c => bodyP (midB b) = some c))
  cut := fun id _ S => match id with
    | 8 => some { slots := [5],keep := [],α := Unit,st := fun _ => ([.int .u32 (v:Int)],S),inv := fun _ => True,mu := fun _ => 0 }
    | _ => none }
noncomputable section
def dn6q0 (p0:List UInt8):Int := takeE p0
def dn6q1:Prop := SM N0∧(∀ (i:Nat),i < N0→eqOf (List D) [] [])∧True
def dn6q2:Prop := dn6q1∧dn6q1∧dn6q1∧dn6q1∧True
def dn6q3 (p0:List UInt8) (p1:CodD):Prop := bodyP (midB p0) = some p1
def dn6q4 (p0:List UInt8):Prop := ∃ (c:CodD),dn6q3 p0 c∧False∧False∧False∧False∧True
def dn6q5 (p0:List UInt8) (p1:Nat):List D := [ZB (BI p0 (N0 + p1))]
def dn6q6 (p0:Nat) (p1:List UInt8):Prop := SM p0∧(SM p0∧True)∧(25:Int) = dn6q0 p1∧((25:Int) ≠ Z0→dn6q2)∧((25:Int) = Z0→dn6q4 p1)
def dn6q7 (p0:List UInt8):Int := IntKind.wrap IntKind.i64 ((LI p0) - (4:Int))
def dn6q8 (p0:List UInt8):Int := IntKind.wrap IntKind.i64 (dn6q7 p0 + Z1)
def dn6q9 (p0:List UInt8):Int := IntKind.wrap IntKind.i64 (dn6q7 p0 + (2:Int))
def dn6q10 (p0:List UInt8):Int := IntKind.wrap IntKind.i64 (dn6q7 p0 + (3:Int))
def dn6q11 (p0:List UInt8):Nat := Int.toNat (dn6q7 p0)
def dn6q12 (p0:List UInt8) (p1 p2:Nat):Prop := ∃ (_x:Unit),True∧(orI IntKind.u32 (orI IntKind.u32 (orI IntKind.u32 (IntKind.wrap IntKind.u32 (IntKind.wrap IntKind.u32 (BI p0 (dn6q11 p0)) * (16777216:Int))) (IntKind.wrap IntKind.u32 (IntKind.wrap IntKind.u32 (BI p0 (Int.toNat (dn6q8 p0))) * (65536:Int)))) (IntKind.wrap IntKind.u32 (IntKind.wrap IntKind.u32 (BI p0 (Int.toNat (dn6q9 p0))) * (256:Int)))) (IntKind.wrap IntKind.u32 (BI p0 (Int.toNat (dn6q10 p0)))) = (↑p1:Int)∧True)∧(SM p2∧dn6q2∧True)∧True
def dn6q13 (p0:List UInt8) (p1 p2:Nat):Prop := dn6q12 p0 p1 p2∧dn6q12 p0 p1 p2
def dn6q14 (p0:List UInt8) (p1 p2:Nat):Prop := dn6q13 p0 p1 p2∧dn6q13 p0 p1 p2∧dn6q13 p0 p1 p2
def dn6q15 (p0:List UInt8):List UInt8 := bytesOf (dn6q11 p0 - N0) fun (i:Nat) => dn6q5 p0 i
def dn6q16 (p0:List UInt8):Nat := dn6q11 p0 - N4
def dn6q17 (p0:List UInt8) (p1:Nat):List D := [ZB (BI p0 (N4 + p1))]
def dn6q18 (p0:List UInt8):List UInt8 := bytesOf (dn6q16 p0) fun (i:Nat) => dn6q17 p0 i
def dn6q19 (p0:Bool) (p1:Nat) (p2:List UInt8):Bool := bif !p0 then true else (↑p1:Int) != (NI (dn6q16 p2))
def dn6q20 (p0:CodD):Nat := LN (CodD.consts p0)
def dn6q21 (p0:CodD) (p1:Nat):List D := Arr.row (GC p0 p1)
def dn6q22 (p0:CodD):Nat := LN (CodD.funs p0)
def dn6q23 (p0:CodD) (p1:Nat):List D := FnD.row (GF p0 p1)
def dn6q24 (p0:CodD):Nat := LN (CodD.kers p0)
def dn6q25 (p0:CodD) (p1:Nat):List D := KeD.row (GK p0 p1)
def dn6q26 (p0:CodD):Nat := LN (CodD.lanes p0)
def dn6q27 (p0:CodD) (p1:Nat):List D := LaD.row (GL p0 p1)
def dn6q28 (p0 p1:CodD):Prop := (dn6q20 p0 = dn6q20 p1∧(∀ (i:Nat),i < dn6q20 p0→dn6q21 p0 i = dn6q21 p1 i)∧True)∧(dn6q22 p0 = dn6q22 p1∧(∀ (i:Nat),i < dn6q22 p0→dn6q23 p0 i = dn6q23 p1 i)∧True)∧(dn6q24 p0 = dn6q24 p1∧(∀ (i:Nat),i < dn6q24 p0→dn6q25 p0 i = dn6q25 p1 i)∧True)∧(dn6q26 p0 = dn6q26 p1∧(∀ (i:Nat),i < dn6q26 p0→dn6q27 p0 i = dn6q27 p1 i)∧True)∧True
end
theorem rtake_v (b:List UInt8) (v:Nat) (hv:v = be4 (b.drop (b.length - 4))) (hb:b.length ≤ 1048576) (hmk:∀ c,bodyP (midB b) = some c→okC c):ACalls Try.prog 16 [bsl b .any] ⟨[],[]⟩ (endTr b) := by
  refine call_of (E := Etr b v) (erOk (conTr_ok hmk) (inlU_ok (conTr_ok hmk)) rfl) Try.func16 rfl (by kernel_rfl) rfl (by simp [Etr,EC,E0]) ?_
  refine vc_eq (T :=
    ∀ (x:Nat),True→ifB (decide ((1048576:Int) < (LI b))) (SM x∧(SM x∧True)∧(2:Int) = dn6q0 b∧((2:Int) ≠ Z0→dn6q2)∧((2:Int) = Z0→dn6q4 b)) (ifB (decide ((LI b) < (8:Int))) (SM x∧(SM x∧True)∧(7:Int) = dn6q0 b∧((7:Int) ≠ Z0→dn6q2)∧((7:Int) = Z0→dn6q4 b)) (side (Z0 ≤ Z0∧Z0 ≤ (4:Int)∧(4:Int) ≤ (LI b)) (True∧chk (true && rowsB N4 fun (i:Nat) => dn6q5 b i) (ifB ((bytesOf N4 fun (i:Nat) => dn6q5 b i) != [(65:UInt8),(76:UInt8),(67:UInt8),(49:UInt8)]) (dn6q6 x b) (side (Z0 ≤ dn6q7 b∧dn6q7 b < (LI b)) (side (Z0 ≤ dn6q8 b∧dn6q8 b < (LI b)) (side (Z0 ≤ dn6q9 b∧dn6q9 b < (LI b)) (side (Z0 ≤ dn6q10 b∧dn6q10 b < (LI b)) (dn6q14 b v x∧dn6q14 b v x∧dn6q14 b v x∧dn6q14 b v x))))∧∀ (x_1:Unit),True→side (Z0 ≤ Z0∧Z0 ≤ dn6q7 b∧dn6q7 b ≤ (LI b)) (((rowsB (dn6q11 b - N0) fun (i:Nat) => dn6q5 b i) = true∧LN (dn6q15 b) ≤ (9223372036854775807:Nat))∧∀ (y:Unit),True→ifB ((↑v:Int) != (NI (sumN (dn6q15 b)))) (SM x∧(SM x∧True)∧(27:Int) = dn6q0 b∧((27:Int) ≠ Z0→dn6q2)∧((27:Int) = Z0→dn6q4 b)) (side (Z0 ≤ (4:Int)∧(4:Int) ≤ dn6q7 b∧dn6q7 b ≤ (LI b)) (∀ (x_2:Nat),x ≠ x_2∧True→(SM x_2∧(rowsB (dn6q16 b) fun (i:Nat) => dn6q17 b i) = true∧dn6q16 b ≤ (4294967296:Nat)∧(Z0 ≤ Z0∧N0 ≤ dn6q16 b)∧(SM x_2∧((dn6q16 b = LN (dn6q18 b)∧(∀ (i:Nat),i < dn6q16 b→dn6q17 b i = [ZB (BI (dn6q18 b) i)])∧True)∧SM Z0∧SM true∧True)∧True)∧True)∧∀ (a':Nat) (o':Bool) (v:CodD),PX codP (dn6q18 b) N0 true a' o' v→True→∀ (x_3:Nat),x_2 ≠ x_3∧x ≠ x_3∧True→SM x_3∧(SM x_2∧ifB (!o') (true = dn6q19 o' a' b∧True) (SM x_2∧SM x_2∧((↑a':Int) != (NI (dn6q16 b))) = dn6q19 o' a' b∧True))∧ifB (dn6q19 o' a' b) (dn6q6 x b) (SM x_3∧∃ (x_4:CodD),(dn6q28 v x_4∧True)∧(True∧True)∧dn6q3 b x_4∧∀ (y:Unit),True→ifB (rightC x_4 != Z0) (SM x∧(SM x∧True)∧(26:Int) = dn6q0 b∧((26:Int) ≠ Z0→dn6q2)∧((26:Int) = Z0→dn6q4 b)) (SM x_3∧SM x∧(SM x∧True)∧Z0 = dn6q0 b∧(Z0 ≠ Z0→False∧False∧False∧False∧True)∧(SM Z0→∃ (c:CodD),dn6q3 b c∧dn6q28 v c)))))))))))) (by kernel_rfl) ?_
  delta BI DA DF DK DL GC GF GK GL LI LN N0 N4 NI SM U0 Z0 Z1 ZB dn6q0 dn6q1 dn6q10 dn6q11 dn6q12 dn6q13 dn6q14 dn6q15 dn6q16 dn6q17 dn6q18 dn6q19 dn6q2 dn6q20 dn6q21 dn6q22 dn6q23 dn6q24 dn6q25 dn6q26 dn6q27 dn6q28 dn6q3 dn6q4 dn6q5 dn6q6 dn6q7 dn6q8 dn6q9
  simp only [eq_self,ne_eq,implies_true,ifB_iff,side_iff,decide_eq_true_eq,decide_eq_false_iff_not,true_and,and_true,Bool.not_eq_true',Bool.not_eq_false',exists_const,forall_const]
  have z:∀ n:Int,n ≠ 0→∀ {p:Prop},n = 0→p := fun n h p e => (h e).elim
  intro x
  refine ⟨fun h1 => ⟨?_,z _ (by decide)⟩,fun h1 => ⟨fun h2 => ⟨?_,z _ (by decide)⟩,fun h2 => ?_⟩⟩
  · rw [takeE_ek (by unfold ekB; rw [if_pos (by omega)]; decide)]; unfold ekB; rw [if_pos (by omega)]
  · rw [takeE_ek (by unfold ekB; rw [if_neg (by omega),if_pos (by omega)]; decide)]; unfold ekB; rw [if_neg (by omega),if_pos (by omega)]
  have w0:IntKind.i64.wrap ((b.length:Int) - 4) = ((b.length - 4:Nat):Int) := by rw [wrap_i64' (by omega) (by omega)]; omega
  have w1:IntKind.i64.wrap (((b.length - 4:Nat):Int) + 1) = ((b.length - 4 + 1:Nat):Int) := by rw [wrap_i64' (by omega) (by omega)]; omega
  have w2:IntKind.i64.wrap (((b.length - 4:Nat):Int) + 2) = ((b.length - 4 + 2:Nat):Int) := by rw [wrap_i64' (by omega) (by omega)]; omega
  have w3:IntKind.i64.wrap (((b.length - 4:Nat):Int) + 3) = ((b.length - 4 + 3:Nat):Int) := by rw [wrap_i64' (by omega) (by omega)]; omega
  have hd:∀ i,(b.drop (b.length - 4)).getD i 0 = b.getD (b.length - 4 + i) 0 := fun i => by simp [List.getD_eq_getElem?_getD,List.getElem?_drop]
  have hA := or4 (b.getD (b.length - 4) 0) (b.getD (b.length - 4 + 1) 0) (b.getD (b.length - 4 + 2) 0) (b.getD (b.length - 4 + 3) 0)
  rw [show (b.getD (b.length - 4) 0).toNat * 16777216 + (b.getD (b.length - 4 + 1) 0).toNat * 65536 + (b.getD (b.length - 4 + 2) 0).toNat * 256 + (b.getD (b.length - 4 + 3) 0).toNat = v by rw [hv,be4,hd,hd,hd,hd]; rfl] at hA
  have e1 := bytesOf_part b 0 4 (by omega)
  have e2 := rowsB_part b 0 4 (by omega)
  have e3 := bytesOf_part b 0 (b.length - 4) (by omega)
  have e4 := rowsB_part b 0 (b.length - 4) (by omega)
  have e7 := bytesOf_part b 4 (b.length - 4 - 4) (by omega)
  have e8 := rowsB_part b 4 (b.length - 4 - 4) (by omega)
  have em:(b.drop 4).take (b.length - 4 - 4) = midB b := by unfold midB; congr 1
  rw [em] at e7
  simp only [List.drop_zero] at e1 e3
  simp only [w0,w1,w2,w3,Int.toNat_natCast,hA,Nat.sub_zero,e1,e2,e3,e4,e7,e8,and_self,true_and,chk_iff,Bool.and_self]
  have hs32:sumN (b.take (b.length - 4)) < 4294967296 := sumN_lt _
  have hl4:(b.drop (b.length - 4)).length = 4 := by rw [List.length_drop]; omega
  have hvs:(v = sumN (b.take (b.length - 4)))↔sumB (sumN (b.take (b.length - 4))) = b.drop (b.length - 4) := by rw [hv]; exact be4_sumB hl4 hs32
  have hml:(midB b).length = b.length - 4 - 4 := by unfold midB; rw [List.length_take,List.length_drop]; omega
  refine ⟨by omega,fun hm => ⟨?_,z _ (by decide)⟩,fun hmg => ⟨⟨by omega,by omega,by omega,by omega,trivial⟩,by omega,by rw [List.length_take]; omega,fun hs => ⟨?_,z _ (by decide)⟩,fun hs => ⟨by omega,fun x1 _ => ⟨⟨by omega,by omega,hml.symm,fun i hi => ?_⟩,fun a o c h x2 _ => ?_⟩⟩⟩⟩
  · have hm':¬ b.take 4 = [65,76,67,49] := by simpa using hm
    have e:ekB b = 25 := by unfold ekB; rw [if_neg (by omega),if_neg (by omega),if_pos hm']
    rw [takeE_ek (by rw [e]; decide),e]
  · have hm':b.take 4 = [65,76,67,49] := by simpa using hmg
    have hs':¬ v = sumN (b.take (b.length - 4)) := fun e => by rw [e] at hs; simp at hs
    have e:ekB b = 27 := by unfold ekB; rw [if_neg (by omega),if_neg (by omega),if_neg (by simpa using hm'),if_pos (fun e => hs' (hvs.2 e))]
    rw [takeE_ek (by rw [e]; decide),e]
  · unfold midB; rw [List.getD_eq_getElem?_getD,List.getD_eq_getElem?_getD,List.getElem?_take_of_lt (by omega),List.getElem?_drop]
  have hm':b.take 4 = [65,76,67,49] := by simpa using hmg
  have hs':v = sumN (b.take (b.length - 4)) := Int.ofNat_inj.1 (by simpa using hs)
  have ek0:ekB b = 0 := by unfold ekB; rw [if_neg (by omega),if_neg (by omega),if_neg (by simpa using hm'),if_neg (by simpa using hvs.1 hs')]
  have hP := h.he
  simp only [iT,List.drop_zero] at hP
  have hla := h.ha
  have none25:bodyP (midB b) = none→25 = takeE b := fun hn => (takeE_none ek0 hn).symm
  cases o with
  | false =>
    have hn:bodyP (midB b) = none := by unfold bodyP; exact bindP_none hP
    simp only [Bool.not_false,cond_true,Bool.false_eq_true,forall_const,false_implies,true_and,and_true,reduceCtorEq]
    exact ⟨none25 hn,z _ (by decide)⟩
  | true =>
    have hb2:bodyP (midB b) = if (midB b).drop a = [] then some c else none := by unfold bodyP; exact bindP_some hP
    simp only [Bool.not_true,cond_false,Bool.true_eq_false,forall_const,false_implies,true_and,and_true]
    refine ⟨fun hne => ⟨none25 ?_,z _ (by decide)⟩,fun heq => ?_⟩
    · have hne:¬ (a:Int) = ((b.length - 4 - 4:Nat):Int) := by simpa using hne
      rw [hb2,if_neg fun e => hne (by have := List.drop_eq_nil_iff.1 e; omega)]
    · have heq:(a:Int) = ((b.length - 4 - 4:Nat):Int) := by simpa using heq
      have hc:bodyP (midB b) = some c := by rw [hb2,if_pos (List.drop_eq_nil_iff.2 (by omega))]
      refine ⟨c,⟨⟨rfl,fun _ _ => rfl⟩,⟨rfl,fun _ _ => rfl⟩,⟨rfl,fun _ _ => rfl⟩,rfl,fun _ _ => rfl⟩,hc,fun hr => ⟨?_,z _ (by decide)⟩,fun hr => ⟨?_,fun h => (h trivial).elim,c,hc,⟨rfl,fun _ _ => rfl⟩,⟨rfl,fun _ _ => rfl⟩,⟨rfl,fun _ _ => rfl⟩,rfl,fun _ _ => rfl⟩⟩
      · have hr':¬ rightC c = 0 := by simpa using hr
        rw [takeE_some ek0 hc,if_pos hr']
      · have hr':rightC c = 0 := by simpa using hr
        rw [takeE_some ek0 hc,if_neg (by simpa using hr')]
theorem rtake_c (b:List UInt8) (hb:b.length ≤ 1048576) (hmk:∀ c,bodyP (midB b) = some c→okC c):ACalls Try.prog 16 [bsl b .any] ⟨[],[]⟩ (endTr b) := rtake_v b _ rfl hb hmk
end Go.Proofs.Ytoglbmhkfkghbaa
namespace Go.Proofs.Ytoglbmhkfkghbaa
open Go Go.Ab
set_option maxRecDepth 100000
noncomputable def Esh (l:List Int):Senv := { EC con0 26 2 [4,5,10,14,25] (fun id => match id with | 6 => ([0,1,2,3,4,5,6,7,8],[]) | _ => ([],[])) with
  ann := fun b _ S => match b with
    | 0 => some { slots := [5],keep := [0,1],α := Nat,st := fun i => ([.int .i64 i],S),inv := fun i => i ≤ l.length,mu := fun i => l.length - i }
    | _ => none }
noncomputable section
def sm1q0:Prop := True∧∃ (_y:Unit),True∧false = true∧True∧True
def sm1q1 (p0:List Int):D := SI p0
def sm1q2 (p0:List Int):Prop := SM (sm1q1 p0)
end
theorem shp_ok (l:List Int) (hl:l.length ≤ maxLen):ACalls Try.prog 54 [isl l .any,isl l .any] ⟨[],[]⟩ (SpecR (sC [isl l .any,isl l .any] (.bool true)) ()) := by
  refine con_of (A := sC _ _) (x := ()) (E := Esh l) (eOk con0_ok rfl) Try.func54 rfl (by kernel_rfl) rfl (by simp [sC,Esh,EC,E0]) ?_
  refine vc_eq (T :=
    ifB ((LI l) != (LI l)) sm1q0 ((∃ (x:Nat),x ≤ LN l∧(Z0 = (↑x:Int)∧True)∧True∧True)∧∀ (x:Nat),x ≤ LN l→ifB (decide ((↑x:Int) < (LI l))) (side (Z0 ≤ (↑x:Int)∧(↑x:Int) < (LI l)) (side (Z0 ≤ (↑x:Int)∧(↑x:Int) < (LI l)) (ifB (GI l (Int.toNat (↑x:Int)) != GI l (Int.toNat (↑x:Int))) sm1q0 ((sm1q2 l∧sm1q2 l∧True)∧∃ (y:Nat),y ≤ LN l∧LN l - y < LN l - x∧(IntKind.wrap IntKind.i64 ((↑x:Int) + Z1) = (↑y:Int)∧True)∧True∧True)))) (True∧∃ (y:Unit),True∧SM true∧True∧True))) (by kernel_rfl) ?_
  delta GI LI LN N1 SI SM Z0 Z1 ZI sm1q0 sm1q1 sm1q2
  simp only [eq_self,implies_true,Int.toNat_natCast,ifB_iff,side_iff,decide_eq_true_eq,decide_eq_false_iff_not,true_and,and_true,bne_self_eq_false,Bool.false_eq_true,false_implies,exists_const,forall_const]
  simp only [maxLen] at hl
  exact ⟨⟨0,Nat.zero_le _,rfl⟩,fun i hi hlt => ⟨⟨by omega,hlt⟩,⟨by omega,hlt⟩,i + 1,by omega,by omega,wrap_i64' (by omega) (by omega)⟩⟩
def sSm (row:Arr→List D) (q:Arr→Prop):FnSpec where
  β := Arr
  α := Unit
  args := fun a => [.agg (row a),.agg (row a)]
  st := fun _ => ⟨[],[]⟩
  pre := q
  post := fun _ _ => True
  res := fun _ _ => .ret (.bool true)
  out := fun _ _ => ⟨[],[]⟩
theorem sSm_row {k:Nat} {q q':Arr→Prop} {b:Arr} (h:ACalls Try.prog k ((sSm Arr.row2 q).args b) ⟨[],[]⟩ (SpecR (sSm Arr.row2 q) b)):ACalls Try.prog k ((sSm Arr.row1 q').args b) ⟨[],[]⟩ (SpecR (sSm Arr.row1 q') b) := by
  refine (h.wkArgs ?_).mono fun _ _ ⟨y,h1,h2,h3⟩ => ⟨y,h1,h2,h3⟩
  simp only [sSm,wkL,wkD]
  exact ⟨row1_wk b,row1_wk b,trivial⟩
def conSm (its:List Arr):Con := fun k ds _ => match k with
  | 54 => match ds with
    | [.sl 1 n f _,.sl 1 n' f' _] => some (pC ds (.bool true) (IntsP n f∧n ≤ maxLen∧n' = n∧∀ i,i < n→f' i = f i))
    | _ => none
  | 28 => some (sSm Arr.row1 (fun b => b ∈ its))
  | _ => none
theorem conSm_ok {its:List Arr} (ih:∀ b ∈ its,ACalls Try.prog 28 ((sSm Arr.row2 (fun _ => True)).args b) ⟨[],[]⟩ (SpecR (sSm Arr.row2 (fun _ => True)) b)):ConOk Try.prog (conSm its) := by
  intro k ds S A h
  unfold conSm at h
  split at h
  · split at h
    · rename_i n f m n' f' m'
      injection h with h; subst h
      refine pC_ok fun ⟨h1,h2,h3,h4⟩ => ⟨weakL_refl _,?_⟩
      subst h3
      have hl:(intsD n' f).length = n' := by simp [intsD]
      have w1 := (isl_weak (m := m) h1).1
      have w2:weakD (.sl 1 n' f' m') (isl (intsD n' f) .any) := by
        have := (isl_weak (m := m') (f := f') (n := n') (fun i hi => by rw [h4 i hi]; exact h1 i hi)).1
        have e:intsD n' f' = intsD n' f := List.map_congr_left fun i hi => by rw [h4 i (List.mem_range.1 hi)]
        rw [e] at this; exact this
      have w:weakL [.sl 1 n' f m,.sl 1 n' f' m'] [isl (intsD n' f) .any,isl (intsD n' f) .any] := ⟨w1,w2,trivial⟩
      exact sC_weak w (shp_ok _ (by rw [hl]; exact h2))
    · cases h
  · injection h with h; subst h
    exact ConOk.plain (fun b hb => sSm_row (ih b hb)) rfl rfl
  · cases h
noncomputable def Esm (a:Arr):Senv := { EC (conSm a.it) 55 6 [35,40,54] (fun id => match id with | 6 => ([0,1,2,3,4,5,6,7,8,9,10,11],[10]) | _ => ([],[])) with
  ann := fun b _ S => match b with
    | 0 => some { slots := [5],keep := [0,1,2,3],α := Nat,st := fun i => ([.int .i64 i],S),inv := fun i => i ≤ a.it.length,mu := fun i => a.it.length - i }
    | _ => none }
noncomputable section
def sm1q3 (p0:Arr):Int := Arr.k p0
def sm1q4:Prop := True∧∃ (_y:Unit),True∧false = true∧True∧True
def sm1q5 (p0:Arr):Nat := LN (Arr.sh p0)
def sm1q6 (p0:Arr) (p1:Nat):List D := [ZI (GI (Arr.sh p0) p1)]
def sm1q7 (p0:Arr):Prop := SM (sm1q5 p0)
def sm1q8 (p0:Arr):Prop := ∀ (i:Nat),i < sm1q5 p0→SM (sm1q6 p0 i)
def sm1q9 (p0:Arr):Nat := LN (Arr.nu p0)
def sm1q10 (p0:Arr) (p1:Nat):List D := [ZI (GI (Arr.nu p0) p1)]
def sm1q11 (p0:Arr):Prop := SM (sm1q9 p0)
def sm1q12 (p0:Arr):Prop := ∀ (i:Nat),i < sm1q9 p0→SM (sm1q10 p0 i)
def sm1q13 (p0:Arr):List Arr := Arr.it p0
def sm1q14 (p0:Arr):Nat := LN (sm1q13 p0)
def sm1q15 (p0:Arr):Int := (NI (sm1q14 p0))
def sm1q16:Arr := DA
def sm1q17 (p0:Arr) (p1:Nat):Arr := List.getD (sm1q13 p0) p1 sm1q16
def sm1q18 (p0:Arr) (p1:Nat):List Int := Arr.sh (sm1q17 p0 p1)
def sm1q19 (p0:Arr) (p1:Nat):List Int := Arr.nu (sm1q17 p0 p1)
def sm1q20 (p0:Arr) (p1:Nat):List Arr := Arr.it (sm1q17 p0 p1)
def sm1q21 (p0:Arr) (p1:Nat):List D := [ZI (Arr.k (sm1q17 p0 p1)),SI (sm1q18 p0 p1),SI (sm1q19 p0 p1),D.sl N4 (LN (sm1q20 p0 p1)) (fun (i:Nat) => Arr.row (List.getD (sm1q20 p0 p1) i sm1q16)) Mode.any]
def sm1q22 (p0:Arr):Prop := SM (sm1q3 p0)∧(sm1q7 p0∧sm1q8 p0∧True)∧(sm1q11 p0∧sm1q12 p0∧True)∧(SM (sm1q14 p0)∧(∀ (i:Nat),i < sm1q14 p0→SM (sm1q21 p0 i))∧True)∧True
def sm1q23 (p0:Nat) (p1:Arr) (p2:Nat):Prop := (SM p0∧sm1q22 p1∧SM p2∧sm1q22 p1∧True)∧True
def sm1q24 (p0:Arr) (p1:Nat):Arr := List.getD (sm1q13 p0) (Int.toNat (↑p1:Int)) sm1q16
def sm1q25 (p0:Arr) (p1:Nat):List Int := Arr.sh (sm1q24 p0 p1)
def sm1q26 (p0:Arr) (p1:Nat):Nat := LN (sm1q25 p0 p1)
def sm1q27 (p0:Arr) (p1:Nat):List Int := Arr.nu (sm1q24 p0 p1)
def sm1q28 (p0:Arr) (p1:Nat):Nat := LN (sm1q27 p0 p1)
def sm1q29 (p0:Arr) (p1:Nat):List Arr := Arr.it (sm1q24 p0 p1)
def sm1q30 (p0:Arr) (p1:Nat):Nat := LN (sm1q29 p0 p1)
def sm1q31 (p0:Arr) (p1:Nat) (p2:Arr):Prop := Arr.k (sm1q24 p0 p1) = sm1q3 p2∧(sm1q26 p0 p1 = sm1q5 p2∧(∀ (i:Nat),i < sm1q26 p0 p1→[ZI (GI (sm1q25 p0 p1) i)] = sm1q6 p2 i)∧True)∧(sm1q28 p0 p1 = sm1q9 p2∧(∀ (i:Nat),i < sm1q28 p0 p1→[ZI (GI (sm1q27 p0 p1) i)] = sm1q10 p2 i)∧True)∧(sm1q30 p0 p1 = sm1q14 p2∧(∀ (i:Nat),i < sm1q30 p0 p1→Arr.row (List.getD (sm1q29 p0 p1) i sm1q16) = Arr.row (sm1q17 p2 i))∧True)∧True
def sm1q32 (p0:Arr):D := D.agg [ZI (sm1q3 p0),D.sl N1 (sm1q5 p0) (fun (i:Nat) => sm1q6 p0 i) Mode.any,D.sl N1 (sm1q9 p0) (fun (i:Nat) => sm1q10 p0 i) Mode.any,D.sl N4 (sm1q14 p0) (fun (i:Nat) => sm1q21 p0 i) Mode.any]
def sm1q33 (p0:Arr):Prop := SM (sm1q32 p0)
end
theorem sm_step (a : Arr) (ha : a.nu.length ≤ maxLen ∧ a.it.length ≤ maxLen ∧ a.sh.length ≤ maxLen) (ih : ∀ b ∈ a.it, ACalls Try.prog 28 ((sSm Arr.row2 (fun _ => True)).args b) ⟨[], []⟩ (SpecR (sSm Arr.row2 (fun _ => True)) b)) :
    ACalls Try.prog 28 ((sSm Arr.row2 (fun _ => True)).args a) ⟨[],[]⟩ (SpecR (sSm Arr.row2 (fun _ => True)) a) := by
  refine con_of (A := sSm Arr.row2 (fun _ => True)) (x := a) (E := Esm a) (eOk (conSm_ok ih) rfl) Try.func28 rfl (by kernel_rfl) rfl (by simp [sSm,Esm,EC,E0]) ?_
  refine vc_eq (T :=
    ∀ (x:Nat),True→∀ (x_1:Nat),x ≠ x_1∧True→SM x∧SM x_1∧ifB (sm1q3 a != sm1q3 a) sm1q4 (SM x∧SM x_1∧((IntsP (sm1q5 a) fun (i:Nat) => sm1q6 a i)∧sm1q5 a ≤ (9223372036854775807:Nat)∧sm1q7 a∧sm1q8 a)∧∀ (y:Unit),True→SM x∧SM x_1∧((IntsP (sm1q9 a) fun (i:Nat) => sm1q10 a i)∧sm1q9 a ≤ (9223372036854775807:Nat)∧sm1q11 a∧sm1q12 a)∧∀ (y:Unit),True→SM x∧SM x_1∧ifB (sm1q15 a != sm1q15 a) sm1q4 ((∃ (x_2:Nat),x_2 ≤ sm1q14 a∧(Z0 = (↑x_2:Int)∧True)∧sm1q23 x_1 a x)∧∀ (x_2:Nat),x_2 ≤ sm1q14 a→SM x∧ifB (decide ((↑x_2:Int) < sm1q15 a)) (SM x∧side (Z0 ≤ (↑x_2:Int)∧(↑x_2:Int) < sm1q15 a) (SM x_1∧side (Z0 ≤ (↑x_2:Int)∧(↑x_2:Int) < sm1q15 a) (∃ (x_3:Arr),(sm1q31 a x_2 x_3∧sm1q31 a x_2 x_3∧True)∧(True∧True)∧x_3 ∈ sm1q13 a∧∀ (y:Unit),True→(sm1q33 a∧sm1q33 a∧SM (D.ref N0 x N0)∧SM (D.ref (max (N0 + N1) N0) x_1 N0)∧True)∧∃ (y:Nat),y ≤ sm1q14 a∧sm1q14 a - y < sm1q14 a - x_2∧(IntKind.wrap IntKind.i64 ((↑x_2:Int) + Z1) = (↑y:Int)∧True)∧sm1q23 x_1 a x))) (True∧∃ (y:Unit),True∧SM true∧True∧True)))) (by kernel_rfl) ?_
  delta DA GI LN N0 N1 N4 NI SI SM Z0 Z1 ZI sm1q10 sm1q11 sm1q12 sm1q13 sm1q14 sm1q15 sm1q16 sm1q17 sm1q18 sm1q19 sm1q20 sm1q21 sm1q22 sm1q23 sm1q24 sm1q25 sm1q26 sm1q27 sm1q28 sm1q29 sm1q3 sm1q30 sm1q31 sm1q32 sm1q33 sm1q4 sm1q5 sm1q6 sm1q7 sm1q8 sm1q9
  have da:(default:Arr) = Arr.mk 0 [] [] [] := rfl
  simp only [← da,eq_self,ne_eq,implies_true,Int.toNat_natCast,ifB_iff,side_iff,decide_eq_true_eq,decide_eq_false_iff_not,true_and,and_true,bne_self_eq_false,Bool.false_eq_true,false_implies,exists_const,forall_const]
  obtain ⟨l1,l2,l3⟩ := ha
  simp only [maxLen] at l1 l2 l3
  refine fun x x1 _ => ⟨⟨intsP_isl _,l3⟩,⟨intsP_isl _,l1⟩,⟨0,Nat.zero_le _,rfl⟩,fun i hi hlt => ⟨⟨by omega,hlt⟩,⟨by omega,hlt⟩,a.it.getD i default,⟨⟨rfl,⟨rfl,fun _ _ => rfl⟩,⟨rfl,fun _ _ => rfl⟩,rfl,fun _ _ => rfl⟩,rfl,⟨rfl,fun _ _ => rfl⟩,⟨rfl,fun _ _ => rfl⟩,rfl,fun _ _ => rfl⟩,mem_getD (by omega),i + 1,by omega,by omega,wrap_i64' (by omega) (by omega)⟩⟩
theorem sm_all:∀ (a:Arr),a.ok→ACalls Try.prog 28 ((sSm Arr.row2 (fun _ => True)).args a) ⟨[],[]⟩ (SpecR (sSm Arr.row2 (fun _ => True)) a)
  | .mk k s n is,h => by
    have h' := h
    simp only [Arr.ok] at h'
    obtain ⟨_,_,_,h1,h2,h3,h4⟩ := h'
    refine sm_step (.mk k s n is) ⟨h2,h3,h1⟩ fun b hb => ?_
    have hb':b ∈ is := hb
    exact sm_all b ((okL_iff _).1 h4 b hb')
termination_by a => SizeOf.sizeOf a
decreasing_by
  have := List.sizeOf_lt_of_mem hb'
  simp; omega
def sGG {α:Type} [Inhabited α] (w:Nat) (row:α→List D) (q:List α→Prop):FnSpec where
  β := List α
  α := Unit
  args := fun l => [gsl w row l,gsl w row l]
  st := fun _ => ⟨[],[]⟩
  pre := q
  post := fun _ _ => True
  res := fun _ _ => .ret (.bool true)
  out := fun _ _ => ⟨[],[]⟩
noncomputable def Esf (l:List FnD):Senv := { EC con0 71 2 [4,5,6,11,15,43,51,70] (fun id => match id with | 6 => ([0,1,2,3,4,5,6,7,8,9,10,11,12,13,14,15,16,17,18,19,20,21,22,23,24,25],[]) | 11 => ([0,1,2,3,4,5,6,7,8,9,10,11,12,13,14,15,16],[]) | _ => ([],[])) with
  ann := fun b env S => match b with
    | 0 => some { slots := [5],keep := [0,1],α := Nat,st := fun i => ([.int .i64 i],S),inv := fun i => i ≤ l.length,mu := fun i => l.length - i }
    | 2 => match Ab.look env 5 with
      | .int _ z => some { slots := [6],keep := [0,1,5],α := Nat,st := fun j => ([.int .i64 j],S),inv := fun j => j ≤ (l.getD z.toNat default).code.length,mu := fun j => (l.getD z.toNat default).code.length - j }
      | _ => none
    | _ => none }
noncomputable section
def sm1q34:Prop := True∧∃ (_y:Unit),True∧false = true∧True∧True
def sm1q35 (p0:List FnD) (p1:Nat):Int := FnD.slots (List.getD p0 (Int.toNat (↑p1:Int)) DF)
def sm1q36 (p0:List FnD) (p1:Nat):Bool := sm1q35 p0 p1 != sm1q35 p0 p1
def sm1q37 (p0:List FnD) (p1:Nat):List I4 := FnD.code (List.getD p0 (Int.toNat (↑p1:Int)) DF)
def sm1q38 (p0:List FnD) (p1:Nat):Nat := LN (sm1q37 p0 p1)
def sm1q39 (p0:List FnD) (p1:Nat):Int := (NI (sm1q38 p0 p1))
def sm1q40 (p0:List FnD) (p1:Nat):Bool := sm1q39 p0 p1 != sm1q39 p0 p1
def sm1q41 (p0:List FnD) (p1:Nat):Bool := bif sm1q36 p0 p1 then true else sm1q40 p0 p1
def sm1q42 (p0:Nat) (p1:List FnD) (p2:Nat):Prop := p0 ≤ sm1q38 p1 p2
def sm1q43 (p0:List FnD) (p1 p2:Nat):I4 := G4 (sm1q37 p0 p1) (Int.toNat (↑p2:Int))
def sm1q44 (p0:List FnD) (p1 p2:Nat):Int := I4.a (sm1q43 p0 p1 p2)
def sm1q45 (p0:List FnD) (p1 p2:Nat):Int := I4.b (sm1q43 p0 p1 p2)
def sm1q46 (p0:List FnD) (p1 p2:Nat):Int := I4.c (sm1q43 p0 p1 p2)
def sm1q47 (p0:List FnD) (p1 p2:Nat):Int := I4.d (sm1q43 p0 p1 p2)
def sm1q48 (p0:List FnD) (p1:Nat):List I4 := FnD.code (List.getD p0 p1 DF)
def sm1q49 (p0:List FnD) (p1 p2:Nat):I4 := G4 (sm1q48 p0 p1) p2
def sm1q50 (p0:List FnD):D := D.sl N2 (LN p0) (fun (i:Nat) => [ZI (FnD.slots (List.getD p0 i DF)),D.sl N4 (LN (sm1q48 p0 i)) (fun (i_1:Nat) => (R4 (sm1q49 p0 i i_1))) Mode.any]) Mode.any
def sm1q51 (p0:List FnD):Prop := SM (sm1q50 p0)
def sm1q52 (p0:List FnD) (p1 p2:Nat):Nat := sm1q38 p0 p1 - p2
def sm1q53 (p0 p1:Nat):Prop := (IntKind.wrap IntKind.i64 ((↑p0:Int) + Z1) = (↑p1:Int)∧True)∧True∧True
end
theorem sf_ok (l:List FnD) (hl:l.length ≤ maxLen) (ho:∀ x ∈ l,x.ok):ACalls Try.prog 29 ((sGG 2 FnD.row (fun _ => True)).args l) ⟨[],[]⟩ (SpecR (sGG 2 FnD.row (fun _ => True)) l) := by
  refine con_of (A := sGG 2 FnD.row (fun _ => True)) (x := l) (E := Esf l) (eOk con0_ok rfl) Try.func29 rfl (by kernel_rfl) rfl (by simp [sGG,Esf,EC,E0]) ?_
  refine vc_eq (T :=
    ifB ((LI l) != (LI l)) sm1q34 ((∃ (x:Nat),x ≤ LN l∧(Z0 = (↑x:Int)∧True)∧True∧True)∧∀ (x:Nat),x ≤ LN l→ifB (decide ((↑x:Int) < (LI l))) (side (Z0 ≤ (↑x:Int)∧(↑x:Int) < (LI l)) (side (Z0 ≤ (↑x:Int)∧(↑x:Int) < (LI l)) (ifB (sm1q36 l x) (true = sm1q41 l x∧True) (side (Z0 ≤ (↑x:Int)∧(↑x:Int) < (LI l)) (side (Z0 ≤ (↑x:Int)∧(↑x:Int) < (LI l)) (sm1q40 l x = sm1q41 l x∧True)))))∧ifB (sm1q41 l x) sm1q34 ((∃ (x_1:Nat),sm1q42 x_1 l x∧(Z0 = (↑x_1:Int)∧True)∧True∧True)∧∀ (x_1:Nat),sm1q42 x_1 l x→side (Z0 ≤ (↑x:Int)∧(↑x:Int) < (LI l)) (ifB (decide ((↑x_1:Int) < sm1q39 l x)) (side (Z0 ≤ (↑x:Int)∧(↑x:Int) < (LI l)) (side (Z0 ≤ (↑x_1:Int)∧(↑x_1:Int) < sm1q39 l x) (side (Z0 ≤ (↑x:Int)∧(↑x:Int) < (LI l)) (side (Z0 ≤ (↑x_1:Int)∧(↑x_1:Int) < sm1q39 l x) (ifB (! (sm1q44 l x x_1 == sm1q44 l x x_1 && (sm1q45 l x x_1 == sm1q45 l x x_1 && (sm1q46 l x x_1 == sm1q46 l x x_1 && (sm1q47 l x x_1 == sm1q47 l x x_1 && true))))) sm1q34 ((sm1q51 l∧sm1q51 l∧SM (ZI (↑x:Int))∧True)∧∃ (y:Nat),sm1q42 y l x∧sm1q52 l x y < sm1q52 l x x_1∧sm1q53 x_1 y)))))) ((sm1q51 l∧sm1q51 l∧True)∧∃ (y:Nat),y ≤ LN l∧LN l - y < LN l - x∧sm1q53 x y)))) (True∧∃ (y:Unit),True∧SM true∧True∧True))) (by kernel_rfl) ?_
  delta D4 DF G4 LI LN N2 N4 NI R4 SM Z0 Z1 ZI sm1q34 sm1q35 sm1q36 sm1q37 sm1q38 sm1q39 sm1q40 sm1q41 sm1q42 sm1q43 sm1q44 sm1q45 sm1q46 sm1q47 sm1q48 sm1q49 sm1q50 sm1q51 sm1q52 sm1q53
  have dF:(default:FnD) = ⟨0,[]⟩ := rfl
  have d4:(default:I4) = ⟨0,0,0,0⟩ := rfl
  simp only [← dF,← d4,eq_self,implies_true,Int.toNat_natCast,ifB_iff,side_iff,decide_eq_true_eq,decide_eq_false_iff_not,true_and,and_true,bne_self_eq_false,beq_self_eq_true,Bool.and_self,Bool.not_true,Bool.cond_false,Bool.false_eq_true,false_implies,exists_const,forall_const]
  simp only [maxLen] at hl
  refine ⟨⟨0,Nat.zero_le _,rfl⟩,fun i hi hlt => ?_⟩
  have hx:(l.getD i default).code.length ≤ 9223372036854775807 := (ho _ (mem_getD (by omega))).2.2
  refine ⟨⟨⟨by omega,hlt⟩,⟨by omega,hlt⟩,⟨by omega,hlt⟩,by omega,hlt⟩,⟨0,Nat.zero_le _,rfl⟩,fun j hj => ⟨⟨by omega,hlt⟩,fun hjl => ⟨⟨by omega,hlt⟩,⟨by omega,hjl⟩,⟨by omega,hlt⟩,⟨by omega,hjl⟩,j + 1,by omega,by omega,wrap_i64' (by omega) (by omega)⟩,fun hjg => ⟨i + 1,by omega,by omega,wrap_i64' (by omega) (by omega)⟩⟩⟩
noncomputable def Esk (l:List KeD):Senv := { EC con0 97 2 [4,5,6,11,15,69,77,96] (fun id => match id with | 6 => ([0,1,2,3,4,5,6,7,8,9,10,11,12,13,14,15,16,17,18,19,20,21,22,23,24,25,26,27,28,29,30,31,32,33,34,35,36,37,38,39,40,41,42,43,44,45,46,47,48,49,50,51],[]) | 11 => ([0,1,2,3,4,5,6,7,8,9,10,11,12,13,14,15,16],[]) | _ => ([],[])) with
  ann := fun b env S => match b with
    | 0 => some { slots := [5],keep := [0,1],α := Nat,st := fun i => ([.int .i64 i],S),inv := fun i => i ≤ l.length,mu := fun i => l.length - i }
    | 2 => match Ab.look env 5 with
      | .int _ z => some { slots := [6],keep := [0,1,5],α := Nat,st := fun j => ([.int .i64 j],S),inv := fun j => j ≤ (l.getD z.toNat default).ops.length,mu := fun j => (l.getD z.toNat default).ops.length - j }
      | _ => none
    | _ => none }
noncomputable section
def sm1q54:Prop := True∧∃ (_y:Unit),True∧false = true∧True∧True
def sm1q55:KeD := DK
def sm1q56 (p0:List KeD) (p1:Nat):KeD := List.getD p0 (Int.toNat (↑p1:Int)) sm1q55
def sm1q57 (p0:List KeD) (p1:Nat):Int := KeD.inputs (sm1q56 p0 p1)
def sm1q58 (p0:List KeD) (p1:Nat):Bool := sm1q57 p0 p1 != sm1q57 p0 p1
def sm1q59 (p0:List KeD) (p1:Nat):Int := KeD.reduce (sm1q56 p0 p1)
def sm1q60 (p0:List KeD) (p1:Nat):Bool := sm1q59 p0 p1 != sm1q59 p0 p1
def sm1q61 (p0:List KeD) (p1:Nat):Int := KeD.at_ (sm1q56 p0 p1)
def sm1q62 (p0:List KeD) (p1:Nat):Bool := sm1q61 p0 p1 != sm1q61 p0 p1
def sm1q63 (p0:List KeD) (p1:Nat):List I4 := KeD.ops (sm1q56 p0 p1)
def sm1q64 (p0:List KeD) (p1:Nat):Nat := LN (sm1q63 p0 p1)
def sm1q65 (p0:List KeD) (p1:Nat):Int := (NI (sm1q64 p0 p1))
def sm1q66 (p0:List KeD) (p1:Nat):Bool := sm1q65 p0 p1 != sm1q65 p0 p1
def sm1q67 (p0:List KeD) (p1:Nat):Bool := bif bif bif sm1q58 p0 p1 then true else sm1q60 p0 p1 then true else sm1q62 p0 p1 then true else sm1q66 p0 p1
def sm1q68 (p0:List KeD) (p1:Nat):Prop := true = sm1q67 p0 p1∧True
def sm1q69 (p0:Nat) (p1:List KeD) (p2:Nat):Prop := p0 ≤ sm1q64 p1 p2
def sm1q70 (p0:List KeD) (p1 p2:Nat):I4 := G4 (sm1q63 p0 p1) (Int.toNat (↑p2:Int))
def sm1q71 (p0:List KeD) (p1 p2:Nat):Int := I4.a (sm1q70 p0 p1 p2)
def sm1q72 (p0:List KeD) (p1 p2:Nat):Int := I4.b (sm1q70 p0 p1 p2)
def sm1q73 (p0:List KeD) (p1 p2:Nat):Int := I4.c (sm1q70 p0 p1 p2)
def sm1q74 (p0:List KeD) (p1 p2:Nat):Int := I4.d (sm1q70 p0 p1 p2)
def sm1q75 (p0:List KeD) (p1:Nat):KeD := List.getD p0 p1 sm1q55
def sm1q76 (p0:List KeD) (p1:Nat):List I4 := KeD.ops (sm1q75 p0 p1)
def sm1q77 (p0:List KeD) (p1 p2:Nat):I4 := G4 (sm1q76 p0 p1) p2
def sm1q78 (p0:List KeD):D := D.sl N4 (LN p0) (fun (i:Nat) => [ZI (KeD.inputs (sm1q75 p0 i)),D.sl N4 (LN (sm1q76 p0 i)) (fun (i_1:Nat) => (R4 (sm1q77 p0 i i_1))) Mode.any,ZI (KeD.reduce (sm1q75 p0 i)),ZI (KeD.at_ (sm1q75 p0 i))]) Mode.any
def sm1q79 (p0:List KeD):Prop := SM (sm1q78 p0)
def sm1q80 (p0:List KeD) (p1 p2:Nat):Nat := sm1q64 p0 p1 - p2
def sm1q81 (p0 p1:Nat):Prop := (IntKind.wrap IntKind.i64 ((↑p0:Int) + Z1) = (↑p1:Int)∧True)∧True∧True
end
theorem sk_ok (l:List KeD) (hl:l.length ≤ maxLen) (ho:∀ x ∈ l,x.ok):ACalls Try.prog 30 ((sGG 4 KeD.row (fun _ => True)).args l) ⟨[],[]⟩ (SpecR (sGG 4 KeD.row (fun _ => True)) l) := by
  refine con_of (A := sGG 4 KeD.row (fun _ => True)) (x := l) (E := Esk l) (eOk con0_ok rfl) Try.func30 rfl (by kernel_rfl) rfl (by simp [sGG,Esk,EC,E0]) ?_
  refine vc_eq (T :=
    ifB ((LI l) != (LI l)) sm1q54 ((∃ (x:Nat),x ≤ LN l∧(Z0 = (↑x:Int)∧True)∧True∧True)∧∀ (x:Nat),x ≤ LN l→ifB (decide ((↑x:Int) < (LI l))) (side (Z0 ≤ (↑x:Int)∧(↑x:Int) < (LI l)) (side (Z0 ≤ (↑x:Int)∧(↑x:Int) < (LI l)) (ifB (sm1q58 l x) (sm1q68 l x) (side (Z0 ≤ (↑x:Int)∧(↑x:Int) < (LI l)) (side (Z0 ≤ (↑x:Int)∧(↑x:Int) < (LI l)) (ifB (sm1q60 l x) (sm1q68 l x) (side (Z0 ≤ (↑x:Int)∧(↑x:Int) < (LI l)) (side (Z0 ≤ (↑x:Int)∧(↑x:Int) < (LI l)) (ifB (sm1q62 l x) (sm1q68 l x) (side (Z0 ≤ (↑x:Int)∧(↑x:Int) < (LI l)) (side (Z0 ≤ (↑x:Int)∧(↑x:Int) < (LI l)) (sm1q66 l x = sm1q67 l x∧True)))))))))))∧ifB (sm1q67 l x) sm1q54 ((∃ (x_1:Nat),sm1q69 x_1 l x∧(Z0 = (↑x_1:Int)∧True)∧True∧True)∧∀ (x_1:Nat),sm1q69 x_1 l x→side (Z0 ≤ (↑x:Int)∧(↑x:Int) < (LI l)) (ifB (decide ((↑x_1:Int) < sm1q65 l x)) (side (Z0 ≤ (↑x:Int)∧(↑x:Int) < (LI l)) (side (Z0 ≤ (↑x_1:Int)∧(↑x_1:Int) < sm1q65 l x) (side (Z0 ≤ (↑x:Int)∧(↑x:Int) < (LI l)) (side (Z0 ≤ (↑x_1:Int)∧(↑x_1:Int) < sm1q65 l x) (ifB (! (sm1q71 l x x_1 == sm1q71 l x x_1 && (sm1q72 l x x_1 == sm1q72 l x x_1 && (sm1q73 l x x_1 == sm1q73 l x x_1 && (sm1q74 l x x_1 == sm1q74 l x x_1 && true))))) sm1q54 ((sm1q79 l∧sm1q79 l∧SM (ZI (↑x:Int))∧True)∧∃ (y:Nat),sm1q69 y l x∧sm1q80 l x y < sm1q80 l x x_1∧sm1q81 x_1 y)))))) ((sm1q79 l∧sm1q79 l∧True)∧∃ (y:Nat),y ≤ LN l∧LN l - y < LN l - x∧sm1q81 x y)))) (True∧∃ (y:Unit),True∧SM true∧True∧True))) (by kernel_rfl) ?_
  delta D4 DK G4 LI LN N4 NI R4 SM Z0 Z1 ZI sm1q54 sm1q55 sm1q56 sm1q57 sm1q58 sm1q59 sm1q60 sm1q61 sm1q62 sm1q63 sm1q64 sm1q65 sm1q66 sm1q67 sm1q68 sm1q69 sm1q70 sm1q71 sm1q72 sm1q73 sm1q74 sm1q75 sm1q76 sm1q77 sm1q78 sm1q79 sm1q80 sm1q81
  have dK:(default:KeD) = ⟨0,[],0,0⟩ := rfl
  have d4:(default:I4) = ⟨0,0,0,0⟩ := rfl
  simp only [← dK,← d4,eq_self,implies_true,Int.toNat_natCast,ifB_iff,side_iff,decide_eq_true_eq,decide_eq_false_iff_not,true_and,and_true,bne_self_eq_false,beq_self_eq_true,Bool.and_self,Bool.not_true,Bool.cond_false,Bool.false_eq_true,false_implies,exists_const,forall_const]
  simp only [maxLen] at hl
  refine ⟨⟨0,Nat.zero_le _,rfl⟩,fun i hi hlt => ?_⟩
  have hx:(l.getD i default).ops.length ≤ 9223372036854775807 := (ho _ (mem_getD (by omega))).2.2.1
  refine ⟨⟨⟨by omega,hlt⟩,⟨by omega,hlt⟩,⟨by omega,hlt⟩,⟨by omega,hlt⟩,⟨by omega,hlt⟩,⟨by omega,hlt⟩,⟨by omega,hlt⟩,by omega,hlt⟩,⟨0,Nat.zero_le _,rfl⟩,fun j hj => ⟨⟨by omega,hlt⟩,fun hjl => ⟨⟨by omega,hlt⟩,⟨by omega,hjl⟩,⟨by omega,hlt⟩,⟨by omega,hjl⟩,j + 1,by omega,by omega,wrap_i64' (by omega) (by omega)⟩,fun hjg => ⟨i + 1,by omega,by omega,wrap_i64' (by omega) (by omega)⟩⟩⟩
noncomputable def Esl2 (l:List LaD):Senv := { EC con0 71 2 [4,5,6,11,15,43,51,70] (fun id => match id with | 6 => ([0,1,2,3,4,5,6,7,8,9,10,11,12,13,14,15,16,17,18,19,20,21,22,23,24,25],[]) | 11 => ([0,1,2,3,4,5,6,7,8,9,10,11,12,13,14,15,16],[]) | _ => ([],[])) with
  ann := fun b env S => match b with
    | 0 => some { slots := [5],keep := [0,1],α := Nat,st := fun i => ([.int .i64 i],S),inv := fun i => i ≤ l.length,mu := fun i => l.length - i }
    | 2 => match Ab.look env 5 with
      | .int _ z => some { slots := [6],keep := [0,1,5],α := Nat,st := fun j => ([.int .i64 j],S),inv := fun j => j ≤ (l.getD z.toNat default).code.length,mu := fun j => (l.getD z.toNat default).code.length - j }
      | _ => none
    | _ => none }
noncomputable section
def sm1q82:Prop := True∧∃ (_y:Unit),True∧false = true∧True∧True
def sm1q83 (p0:List LaD) (p1:Nat):Int := LaD.regs (List.getD p0 (Int.toNat (↑p1:Int)) DL)
def sm1q84 (p0:List LaD) (p1:Nat):Bool := sm1q83 p0 p1 != sm1q83 p0 p1
def sm1q85 (p0:List LaD) (p1:Nat):List I6 := LaD.code (List.getD p0 (Int.toNat (↑p1:Int)) DL)
def sm1q86 (p0:List LaD) (p1:Nat):Nat := LN (sm1q85 p0 p1)
def sm1q87 (p0:List LaD) (p1:Nat):Int := (NI (sm1q86 p0 p1))
def sm1q88 (p0:List LaD) (p1:Nat):Bool := sm1q87 p0 p1 != sm1q87 p0 p1
def sm1q89 (p0:List LaD) (p1:Nat):Bool := bif sm1q84 p0 p1 then true else sm1q88 p0 p1
def sm1q90 (p0:Nat) (p1:List LaD) (p2:Nat):Prop := p0 ≤ sm1q86 p1 p2
def sm1q91:I6 := D6
def sm1q92 (p0:List LaD) (p1 p2:Nat):I6 := List.getD (sm1q85 p0 p1) (Int.toNat (↑p2:Int)) sm1q91
def sm1q93 (p0:List LaD) (p1 p2:Nat):Int := I6.a (sm1q92 p0 p1 p2)
def sm1q94 (p0:List LaD) (p1 p2:Nat):Int := I6.b (sm1q92 p0 p1 p2)
def sm1q95 (p0:List LaD) (p1 p2:Nat):Int := I6.c (sm1q92 p0 p1 p2)
def sm1q96 (p0:List LaD) (p1 p2:Nat):Int := I6.d (sm1q92 p0 p1 p2)
def sm1q97 (p0:List LaD) (p1 p2:Nat):Int := I6.e (sm1q92 p0 p1 p2)
def sm1q98 (p0:List LaD) (p1 p2:Nat):Int := I6.f (sm1q92 p0 p1 p2)
def sm1q99 (p0:List LaD) (p1:Nat):List I6 := LaD.code (List.getD p0 p1 DL)
def sm1q100 (p0:List LaD) (p1 p2:Nat):I6 := List.getD (sm1q99 p0 p1) p2 sm1q91
def sm1q101 (p0:List LaD):D := D.sl N2 (LN p0) (fun (i:Nat) => [ZI (LaD.regs (List.getD p0 i DL)),D.sl N6 (LN (sm1q99 p0 i)) (fun (i_1:Nat) => (R6 (sm1q100 p0 i i_1))) Mode.any]) Mode.any
def sm1q102 (p0:List LaD):Prop := SM (sm1q101 p0)
def sm1q103 (p0:List LaD) (p1 p2:Nat):Nat := sm1q86 p0 p1 - p2
def sm1q104 (p0 p1:Nat):Prop := (IntKind.wrap IntKind.i64 ((↑p0:Int) + Z1) = (↑p1:Int)∧True)∧True∧True
end
theorem sl2_ok (l:List LaD) (hl:l.length ≤ maxLen) (ho:∀ x ∈ l,x.ok):ACalls Try.prog 31 ((sGG 2 LaD.row (fun _ => True)).args l) ⟨[],[]⟩ (SpecR (sGG 2 LaD.row (fun _ => True)) l) := by
  refine con_of (A := sGG 2 LaD.row (fun _ => True)) (x := l) (E := Esl2 l) (eOk con0_ok rfl) Try.func31 rfl (by kernel_rfl) rfl (by simp [sGG,Esl2,EC,E0]) ?_
  refine vc_eq (T :=
    ifB ((LI l) != (LI l)) sm1q82 ((∃ (x:Nat),x ≤ LN l∧(Z0 = (↑x:Int)∧True)∧True∧True)∧∀ (x:Nat),x ≤ LN l→ifB (decide ((↑x:Int) < (LI l))) (side (Z0 ≤ (↑x:Int)∧(↑x:Int) < (LI l)) (side (Z0 ≤ (↑x:Int)∧(↑x:Int) < (LI l)) (ifB (sm1q84 l x) (true = sm1q89 l x∧True) (side (Z0 ≤ (↑x:Int)∧(↑x:Int) < (LI l)) (side (Z0 ≤ (↑x:Int)∧(↑x:Int) < (LI l)) (sm1q88 l x = sm1q89 l x∧True)))))∧ifB (sm1q89 l x) sm1q82 ((∃ (x_1:Nat),sm1q90 x_1 l x∧(Z0 = (↑x_1:Int)∧True)∧True∧True)∧∀ (x_1:Nat),sm1q90 x_1 l x→side (Z0 ≤ (↑x:Int)∧(↑x:Int) < (LI l)) (ifB (decide ((↑x_1:Int) < sm1q87 l x)) (side (Z0 ≤ (↑x:Int)∧(↑x:Int) < (LI l)) (side (Z0 ≤ (↑x_1:Int)∧(↑x_1:Int) < sm1q87 l x) (side (Z0 ≤ (↑x:Int)∧(↑x:Int) < (LI l)) (side (Z0 ≤ (↑x_1:Int)∧(↑x_1:Int) < sm1q87 l x) (ifB (! (sm1q93 l x x_1 == sm1q93 l x x_1 && (sm1q94 l x x_1 == sm1q94 l x x_1 && (sm1q95 l x x_1 == sm1q95 l x x_1 && (sm1q96 l x x_1 == sm1q96 l x x_1 && (sm1q97 l x x_1 == sm1q97 l x x_1 && (sm1q98 l x x_1 == sm1q98 l x x_1 && true))))))) sm1q82 ((sm1q102 l∧sm1q102 l∧SM (ZI (↑x:Int))∧True)∧∃ (y:Nat),sm1q90 y l x∧sm1q103 l x y < sm1q103 l x x_1∧sm1q104 x_1 y)))))) ((sm1q102 l∧sm1q102 l∧True)∧∃ (y:Nat),y ≤ LN l∧LN l - y < LN l - x∧sm1q104 x y)))) (True∧∃ (y:Unit),True∧SM true∧True∧True))) (by kernel_rfl) ?_
  delta D6 DL LI LN N2 N6 NI R6 SM Z0 Z1 ZI sm1q100 sm1q101 sm1q102 sm1q103 sm1q104 sm1q82 sm1q83 sm1q84 sm1q85 sm1q86 sm1q87 sm1q88 sm1q89 sm1q90 sm1q91 sm1q92 sm1q93 sm1q94 sm1q95 sm1q96 sm1q97 sm1q98 sm1q99
  have dL:(default:LaD) = ⟨0,[]⟩ := rfl
  have d6:(default:I6) = ⟨0,0,0,0,0,0⟩ := rfl
  simp only [← dL,← d6,eq_self,implies_true,Int.toNat_natCast,ifB_iff,side_iff,decide_eq_true_eq,decide_eq_false_iff_not,true_and,and_true,bne_self_eq_false,beq_self_eq_true,Bool.and_self,Bool.not_true,Bool.cond_false,Bool.false_eq_true,false_implies,exists_const,forall_const]
  simp only [maxLen] at hl
  refine ⟨⟨0,Nat.zero_le _,rfl⟩,fun i hi hlt => ?_⟩
  have hx:(l.getD i default).code.length ≤ 9223372036854775807 := (ho _ (mem_getD (by omega))).2.2
  refine ⟨⟨⟨by omega,hlt⟩,⟨by omega,hlt⟩,⟨by omega,hlt⟩,by omega,hlt⟩,⟨0,Nat.zero_le _,rfl⟩,fun j hj => ⟨⟨by omega,hlt⟩,fun hjl => ⟨⟨by omega,hlt⟩,⟨by omega,hjl⟩,⟨by omega,hlt⟩,⟨by omega,hjl⟩,j + 1,by omega,by omega,wrap_i64' (by omega) (by omega)⟩,fun hjg => ⟨i + 1,by omega,by omega,wrap_i64' (by omega) (by omega)⟩⟩⟩
end Go.Proofs.Ytoglbmhkfkghbaa
namespace Go.Proofs.Ytoglbmhkfkghbaa
open Go Go.Ab
set_option maxRecDepth 100000
def conSs (c:CodD):Con := fun k _ds _ => match k with
  | 28 => some (sSm Arr.row (fun b => b ∈ c.consts))
  | 29 => some (sGG 2 FnD.row (fun l => l = c.funs))
  | 30 => some (sGG 4 KeD.row (fun l => l = c.kers))
  | 31 => some (sGG 2 LaD.row (fun l => l = c.lanes))
  | _ => none
theorem conSs_ok {c:CodD} (hc:c.ok):ConOk Try.prog (conSs c) := by
  obtain ⟨h1,h2,h3,h4,h5,h6,h7,h8⟩ := hc
  intro k ds S A h
  unfold conSs at h
  split at h
  · injection h with h; subst h
    refine ConOk.plain (fun b hb => ?_) rfl rfl
    refine (((sSm_row (q' := fun _ => True) (sm_all b (h1 b hb))).wkArgs ?_)).mono fun _ _ ⟨y,h1,h2,h3⟩ => ⟨y,h1,h2,h3⟩
    simp only [sSm,wkL,wkD]
    exact ⟨row_wk b,row_wk b,trivial⟩
  · injection h with h; subst h
    refine ConOk.plain (fun l (hl:l = c.funs) => ?_) rfl rfl
    subst hl
    exact (sf_ok _ h6 h2).mono fun _ _ ⟨y,h1,h2,h3⟩ => ⟨y,h1,h2,h3⟩
  · injection h with h; subst h
    refine ConOk.plain (fun l (hl:l = c.kers) => ?_) rfl rfl
    subst hl
    exact (sk_ok _ h7 h3).mono fun _ _ ⟨y,h1,h2,h3⟩ => ⟨y,h1,h2,h3⟩
  · injection h with h; subst h
    refine ConOk.plain (fun l (hl:l = c.lanes) => ?_) rfl rfl
    subst hl
    exact (sl2_ok _ h8 h4).mono fun _ _ ⟨y,h1,h2,h3⟩ => ⟨y,h1,h2,h3⟩
  · cases h
noncomputable def Ess (c:CodD):Senv := { EC (conSs c) 51 6 [12,17,31] (fun id => match id with | 6 => ([0,1,2,3,4,5,6,7,8,9,10,11],[10]) | _ => ([],[])) with
  ann := fun b _ S => match b with
    | 0 => some { slots := [5],keep := [0,1,2,3],α := Nat,st := fun i => ([.int .i64 i],S),inv := fun i => i ≤ c.consts.length,mu := fun i => c.consts.length - i }
    | _ => none }
noncomputable section
def sm2q0 (p0:CodD):List Arr := CodD.consts p0
def sm2q1 (p0:CodD):Nat := LN (sm2q0 p0)
def sm2q2 (p0:CodD):Int := (NI (sm2q1 p0))
def sm2q3 (p0:Nat) (p1:CodD):Prop := p0 ≤ sm2q1 p1
def sm2q4:Arr := DA
def sm2q5 (p0:CodD) (p1:Nat):List D := Arr.row (List.getD (sm2q0 p0) p1 sm2q4)
def sm2q6 (p0:CodD):Nat := LN (CodD.funs p0)
def sm2q7 (p0:CodD) (p1:Nat):List D := FnD.row (GF p0 p1)
def sm2q8 (p0:CodD):Nat := LN (CodD.kers p0)
def sm2q9:KeD := DK
def sm2q10 (p0:CodD) (p1:Nat):List D := KeD.row (List.getD (CodD.kers p0) p1 sm2q9)
def sm2q11 (p0:CodD):Nat := LN (CodD.lanes p0)
def sm2q12 (p0:CodD) (p1:Nat):List D := LaD.row (GL p0 p1)
def sm2q13 (p0:CodD):Prop := (SM (sm2q1 p0)∧(∀ (i:Nat),i < sm2q1 p0→SM (sm2q5 p0 i))∧True)∧(SM (sm2q6 p0)∧(∀ (i:Nat),i < sm2q6 p0→SM (sm2q7 p0 i))∧True)∧(SM (sm2q8 p0)∧(∀ (i:Nat),i < sm2q8 p0→SM (sm2q10 p0 i))∧True)∧(SM (sm2q11 p0)∧(∀ (i:Nat),i < sm2q11 p0→SM (sm2q12 p0 i))∧True)∧True
def sm2q14 (p0:Nat) (p1:CodD) (p2:Nat):Prop := (SM p0∧sm2q13 p1∧SM p2∧sm2q13 p1∧True)∧True
def sm2q15 (p0:CodD) (p1:Nat):List D := Arr.row (List.getD (sm2q0 p0) (Int.toNat (↑p1:Int)) sm2q4)
def sm2q16 (p0:CodD) (p1:Nat):Nat := LN (sm2q15 p0 p1)
def sm2q17 (p0:CodD) (p1:Nat) (p2:Arr):Prop := weakL (List.take N4 (List.drop N0 (sm2q15 p0 p1))) (Arr.row p2)
def sm2q18 (p0:CodD):D := D.agg [D.sl N4 (sm2q1 p0) (fun (i:Nat) => sm2q5 p0 i) Mode.any,D.sl N2 (sm2q6 p0) (fun (i:Nat) => sm2q7 p0 i) Mode.any,D.sl N4 (sm2q8 p0) (fun (i:Nat) => sm2q10 p0 i) Mode.any,D.sl N2 (sm2q11 p0) (fun (i:Nat) => sm2q12 p0 i) Mode.any]
def sm2q19 (p0:CodD):Prop := SM (sm2q18 p0)
def sm2q20 (p0:CodD) (p1:List FnD):Prop := sm2q6 p0 = LN p1∧(∀ (i:Nat),i < sm2q6 p0→sm2q7 p0 i = FnD.row (List.getD p1 i DF))∧True
def sm2q21 (p0:CodD) (p1:List KeD):Prop := sm2q8 p0 = LN p1∧(∀ (i:Nat),i < sm2q8 p0→sm2q10 p0 i = KeD.row (List.getD p1 i sm2q9))∧True
def sm2q22 (p0:CodD) (p1:List LaD):Prop := sm2q11 p0 = LN p1∧(∀ (i:Nat),i < sm2q11 p0→sm2q12 p0 i = LaD.row (List.getD p1 i DL))∧True
end
theorem same_ok (c:CodD) (hc:c.ok):ACalls Try.prog 17 [.agg c.row,.agg c.row] ⟨[],[]⟩ (SpecR (sC [.agg c.row,.agg c.row] (.bool true)) ()) := by
  refine con_of (A := sC _ _) (x := ()) (E := Ess c) (eOk (conSs_ok hc) rfl) Try.func17 rfl (by kernel_rfl) rfl (by simp [sC,Ess,EC,E0]) ?_
  refine vc_eq (T :=
    ∀ (x:Nat),True→∀ (x_1:Nat),x ≠ x_1∧True→SM x∧SM x_1∧ifB (sm2q2 c != sm2q2 c) (True∧∃ (y:Unit),True∧false = true∧True∧True) ((∃ (x_2:Nat),sm2q3 x_2 c∧(Z0 = (↑x_2:Int)∧True)∧sm2q14 x_1 c x)∧∀ (x_2:Nat),sm2q3 x_2 c→SM x∧ifB (decide ((↑x_2:Int) < sm2q2 c)) (SM x∧side (Z0 ≤ (↑x_2:Int)∧(↑x_2:Int) < sm2q2 c) (side (N4 ≤ sm2q16 c x_2) (SM x_1∧side (Z0 ≤ (↑x_2:Int)∧(↑x_2:Int) < sm2q2 c) (side (N4 ≤ sm2q16 c x_2) (∃ (x_3:Arr),(sm2q17 c x_2 x_3∧sm2q17 c x_2 x_3∧True)∧(True∧True)∧x_3 ∈ sm2q0 c∧∀ (y:Unit),True→(sm2q19 c∧sm2q19 c∧SM (D.ref N0 x N0)∧SM (D.ref (max (N0 + N1) N0) x_1 N0)∧True)∧∃ (y:Nat),sm2q3 y c∧sm2q1 c - y < sm2q1 c - x_2∧(IntKind.wrap IntKind.i64 ((↑x_2:Int) + Z1) = (↑y:Int)∧True)∧sm2q14 x_1 c x))))) (SM x∧SM x_1∧∃ (x_3:List FnD),(sm2q20 c x_3∧sm2q20 c x_3∧True)∧(True∧True)∧x_3 = CodD.funs c∧∀ (y:Unit),True→SM x∧SM x_1∧∃ (x_4:List KeD),(sm2q21 c x_4∧sm2q21 c x_4∧True)∧(True∧True)∧x_4 = CodD.kers c∧∀ (y:Unit),True→SM x∧SM x_1∧∃ (x:List LaD),(sm2q22 c x∧sm2q22 c x∧True)∧(True∧True)∧x = CodD.lanes c∧∀ (y:Unit),True→True∧∃ (y:Unit),True∧SM true∧True∧True))) (by kernel_rfl) ?_
  delta DA DF DK DL GF GL LN N0 N1 N2 N4 NI SM Z0 Z1 sm2q0 sm2q1 sm2q10 sm2q11 sm2q12 sm2q13 sm2q14 sm2q15 sm2q16 sm2q17 sm2q18 sm2q19 sm2q2 sm2q20 sm2q21 sm2q22 sm2q3 sm2q4 sm2q5 sm2q6 sm2q7 sm2q8 sm2q9
  have da:(default:Arr) = Arr.mk 0 [] [] [] := rfl
  have dF:(default:FnD) = ⟨0,[]⟩ := rfl
  have dK:(default:KeD) = ⟨0,[],0,0⟩ := rfl
  have dL:(default:LaD) = ⟨0,[]⟩ := rfl
  simp only [← da,← dF,← dK,← dL,eq_self,ne_eq,implies_true,Int.toNat_natCast,ifB_iff,side_iff,decide_eq_true_eq,decide_eq_false_iff_not,true_and,and_true,bne_self_eq_false,Bool.false_eq_true,false_implies,exists_const,forall_const]
  have hl:c.consts.length ≤ 9223372036854775807 := by have := hc.2.2.2.2.1; simpa [maxLen] using this
  have r4:∀ a:Arr,a.row.length = 4 := fun a => by cases a; rfl
  have t4:∀ a:Arr,List.take 4 (List.drop 0 a.row) = a.row := fun a => by rw [List.drop_zero,List.take_of_length_le (by rw [r4]; exact Nat.le_refl _)]
  have g0:∀ {α:Type} [Inhabited α] (g:α→List D) (l:List α),l.length = l.length∧∀ i,i < l.length→g (l.getD i default) = g (l.getD i default) := fun g l => ⟨rfl,fun _ _ => rfl⟩
  simp only [t4,r4]
  exact fun x x1 _ => ⟨⟨0,Nat.zero_le _,rfl⟩,fun i hi => ⟨fun hlt => ⟨⟨by omega,hlt⟩,Nat.le_refl _,⟨by omega,hlt⟩,Nat.le_refl _,c.consts.getD i default,⟨weakL_refl _,weakL_refl _⟩,mem_getD (by omega),i + 1,by omega,by omega,wrap_i64' (by omega) (by omega)⟩,fun hge => ⟨c.funs,⟨g0 _ _,g0 _ _⟩,rfl,c.kers,⟨g0 _ _,g0 _ _⟩,rfl,c.lanes,⟨g0 _ _,g0 _ _⟩,rfl⟩⟩⟩
end Go.Proofs.Ytoglbmhkfkghbaa
namespace Go.Proofs.Ytoglbmhkfkghbaa
open Go Go.Ab
set_option maxRecDepth 100000
def nilCode:CodD := ⟨[],[],[],[]⟩
def takeC (b:List UInt8):CodD := if takeE b = 0 then (bodyP (midB b)).getD nilCode else nilCode
theorem takeC_some {b:List UInt8} {c:CodD} (h:takeE b = 0) (hc:bodyP (midB b) = some c):takeC b = c := by unfold takeC; rw [if_pos h,hc]; rfl
theorem takeC_nil {b:List UInt8} (h:takeE b ≠ 0):takeC b = nilCode := by unfold takeC; rw [if_neg h]
theorem repL_cons {C:Ctx} {d u:D} {ds us:List D} {vs:List Value} (h1:∀ v,Rep C d v→Rep C u v) (h2:∀ ws,RepL C ds ws→RepL C us ws) (h:RepL C (d :: ds) vs):RepL C (u :: us) vs := by
  simp only [RepL] at h ⊢
  obtain ⟨v,r,e,a,b⟩ := h
  exact ⟨v,r,e,h1 v a,h2 r b⟩
theorem nil_row {C:Ctx} {α:Type} [Inhabited α] (w:Nat) (g:α→List D) {v:Value} (h:Rep C (.sl 1 0 (fun _ => []) .nil) v):Rep C (gsl w g ([]:List α)) v := nil_any h
theorem nils_row {C:Ctx} {vs:List Value} (h:RepL C [.sl 1 0 (fun _ => []) .nil,.sl 1 0 (fun _ => []) .nil,.sl 1 0 (fun _ => []) .nil,.sl 1 0 (fun _ => []) .nil] vs):RepL C nilCode.row vs :=
  repL_cons (fun _ => nil_row 4 Arr.row) (fun _ => repL_cons (fun _ => nil_row 2 FnD.row) (fun _ => repL_cons (fun _ => nil_row 4 KeD.row) (fun _ => repL_cons (fun _ => nil_row 2 LaD.row) (fun _ h => h)))) h
theorem tup_rep {C:Ctx} {ds us:List D} {z:Int} (h:∀ cs,RepL C ds cs→RepL C us cs) {e:Ending} (he:RepEnd C (.ret (.tup [.agg ds,.int .i64 z])) e):RepEnd C (.ret (.tup [.agg us,.int .i64 z])) e := by
  cases e with
  | returned v =>
    simp only [RepEnd,Rep] at he ⊢
    obtain ⟨vs,e1,h1⟩ := he
    refine ⟨vs,e1,repL_cons (fun v hv => ?_) (fun _ h => h) h1⟩
    simp only [Rep] at hv ⊢
    obtain ⟨cs,e2,h2⟩ := hv
    exact ⟨cs,e2,h _ h2⟩
  | panicked _ => exact he.elim
  | outgrown => exact he.elim
theorem row_rep {C:Ctx} {c:CodD} {d1 d2 d3 d4:D} {vs:List Value} (h1:∀ v,Rep C d1 v→Rep C (gsl 4 Arr.row c.consts) v) (h2:weakD d2 (gsl 2 FnD.row c.funs)) (h3:weakD d3 (gsl 4 KeD.row c.kers)) (h4:weakD d4 (gsl 2 LaD.row c.lanes)) (h:RepL C [d1,d2,d3,d4] vs):RepL C c.row vs :=
  repL_cons h1 (fun _ => repL_cons (weakD_weak _ _ h2 C) (fun _ => repL_cons (weakD_weak _ _ h3 C) (fun _ => repL_cons (weakD_weak _ _ h4 C) (fun _ h => h)))) h
theorem drop_st {k:Nat} {ds:List D} {S:St} {Q:AEnd→Prop} (h:ACalls Try.prog k ds S (fun r _ => Q r)):ACalls Try.prog k ds S (fun r S' => Q r∧S' = ⟨[],[]⟩) :=
  h.weaken fun r S' hr => ⟨r,⟨[],[]⟩,by cases r <;> exact weakD_refl _,StTo.none S',hr,rfl⟩
theorem take_j (b:List UInt8) (hb:b.length ≤ 1048576) (hmk:∀ c,bodyP (midB b) = some c→okC c):ACalls Try.prog 15 [bsl b .any] ⟨[],[]⟩ (SpecR (sC [bsl b .any] (.tup [.agg (takeC b).row,.int .i64 (takeE b)])) ()) := by
  refine ACalls.wkEnd (drop_st (Q := fun r => endT b r ⟨[],[]⟩) (take_ok b hb hmk)) fun r S' hr => ?_
  obtain ⟨hr,rfl⟩ := hr
  refine ⟨.ret (.tup [.agg (takeC b).row,.int .i64 (takeE b)]),?_,(),trivial,rfl,rfl⟩
  · unfold endT at hr
    split at hr
    · rename_i dc df dk dl z
      obtain ⟨rfl,q1,q2⟩ := hr
      intro C e he
      refine tup_rep (fun cs hcs => ?_) he
      by_cases h0:takeE b = 0
      · obtain ⟨c,k1,k2,k3,k4,k5,k6⟩ := q2 h0
        rw [takeC_some h0 k1]
        refine row_rep (fun v hv => ?_) k3 k4 k5 hcs
        split at k6
        · obtain ⟨k6,rfl,rfl⟩ := k6
          rw [k6]
          exact nil_any hv
        · refine wkD_weak _ _ ?_ C v (weakD_weak _ _ k6 C v hv)
          simp only [wkD,gsl]
          exact chk_iff.2 ⟨rfl,trivial,fun i _ => row1_row _,by simp [weakM]⟩
      · rw [takeC_nil h0]
        exact nils_row (weakL_weak _ _ (q1 h0) C _ hcs)
    · exact hr.elim
theorem rtake_j (b:List UInt8) (hb:b.length ≤ 1048576) (hmk:∀ c,bodyP (midB b) = some c→okC c):ACalls Try.prog 16 [bsl b .any] ⟨[],[]⟩ (SpecR (sC [bsl b .any] (.tup [.agg (takeC b).row,.int .i64 (takeE b)])) ()) := by
  refine ACalls.wkEnd (drop_st (Q := fun r => endTr b r ⟨[],[]⟩) (rtake_c b hb hmk)) fun r S' hr => ?_
  obtain ⟨hr,rfl⟩ := hr
  refine ⟨.ret (.tup [.agg (takeC b).row,.int .i64 (takeE b)]),?_,(),trivial,rfl,rfl⟩
  · unfold endTr at hr
    split at hr
    · rename_i dc df dk dl z
      obtain ⟨rfl,q1,q2⟩ := hr
      intro C e he
      refine tup_rep (fun cs hcs => ?_) he
      by_cases h0:takeE b = 0
      · obtain ⟨c,k1,k2⟩ := q2 h0
        rw [takeC_some h0 k1]
        exact weakL_weak _ _ k2 C _ hcs
      · rw [takeC_nil h0]
        exact nils_row (weakL_weak _ _ (q1 h0) C _ hcs)
    · exact hr.elim
theorem funP_code {l:List UInt8} {y:FnD × List UInt8} (h:funP l = some y):y.1.code.length ≤ l.length := by
  obtain ⟨a,h1,h⟩ := bindP_some' h
  obtain ⟨m,h2,h⟩ := bindP_some' h
  obtain ⟨c,h3,h⟩ := bindP_some' h
  injection h with h; subst h
  have l1 := num_len _ _ h1
  have l2 := cntP_le h2
  simp only [listP_length _ _ _ h3]; omega
theorem bodyP_codes {l:List UInt8} {c:CodD} (h:bodyP l = some c):∀ f ∈ c.funs,f.code.length ≤ l.length := by
  have h := bodyP_some h
  obtain ⟨n1,h1,h⟩ := bindP_some' h
  obtain ⟨cs,h2,h⟩ := bindP_some' h
  obtain ⟨n3,h3,h⟩ := bindP_some' h
  obtain ⟨fs,h4,h⟩ := bindP_some' h
  obtain ⟨n5,h5,h⟩ := bindP_some' h
  obtain ⟨ks,h6,h⟩ := bindP_some' h
  obtain ⟨n7,h7,h⟩ := bindP_some' h
  obtain ⟨ls,h8,h⟩ := bindP_some' h
  injection h with h; injection h with h _; subst h
  have l1 := cnt_len _ _ h1
  have l2 := listP_len (arrP_len 17) _ _ _ h2
  have l3 := cnt_len _ _ h3
  exact listP_allL (M := l.length) (P := fun f => f.code.length ≤ l.length) (fun l' y hl h => Nat.le_trans (funP_code h) hl) (fun l y => funP_len l y) _ _ _ (by omega) h4
theorem body_okC {l:List UInt8} (hl:l.length ≤ 65536):∀ c,bodyP l = some c→okC c := fun c hc =>
  ⟨bodyP_ok (by simp only [maxLen]; omega) hc,fun f hf => Nat.le_trans (bodyP_codes hc _ (mem_getD hf)) hl⟩
theorem midB_len (b:List UInt8):(midB b).length ≤ b.length := by unfold midB; rw [List.length_take,List.length_drop]; omega
end Go.Proofs.Ytoglbmhkfkghbaa
namespace Go.Proofs.Ytoglbmhkfkghbaa
open Go Go.Ab
set_option maxRecDepth 100000
theorem numsB_cons (a:Int) (l:List Int):numsB (a :: l) = uBf 9 (zig a) ++ numsB l := by simp [numsB]
theorem numsB_nil:numsB [] = [] := rfl
theorem zig_unzig (u:Nat):zig (unzig u) = u := by
  unfold unzig
  split
  · rw [show (-((u / 2:Nat):Int) - 1) = Int.negSucc (u / 2) by rw [Int.negSucc_eq]; omega]; simp only [zig]; omega
  · rw [show (((u / 2:Nat):Int)) = Int.ofNat (u / 2) from rfl]; simp only [zig]; omega
theorem uP_forth:∀ (l:List UInt8) (i u:Nat) (y:Nat × List UInt8),i ≤ 9→uP i u l = some y→∃ v,y.1 = u + v * 2 ^ (7 * i)∧l = uBf (9 - i) v ++ y.2∧(i ≠ 0→0 < v)
  | [],i,u,y,_,h => by simp [uP] at h
  | c :: r,i,u,y,hi,h => by
    rw [uP] at h
    split at h
    · cases h
    · rename_i h1
      split at h
      · rename_i hc
        split at h
        · cases h
        · rename_i h2
          injection h with h; subst h
          refine ⟨c.toNat,by rw [Nat.mod_eq_of_lt hc],?_,by omega⟩
          rw [uBf_end hc]; simp
      · rename_i hc
        have hi8:i ≤ 8 := by omega
        obtain ⟨v,e1,e2,e3⟩ := uP_forth r (i + 1) _ y (by omega) h
        have hv := e3 (by omega)
        have hcl := c.toNat_lt
        refine ⟨c.toNat % 128 + 128 * v,?_,?_,by omega⟩
        · rw [e1,show 7 * (i + 1) = 7 + 7 * i by omega,Nat.pow_add,Nat.add_mul,← Nat.mul_assoc,Nat.mul_comm v (2 ^ 7),Nat.add_assoc]
        · rw [show 9 - i = (9 - (i + 1)) + 1 by omega,uBf_go (by omega),show (c.toNat % 128 + 128 * v) % 128 + 128 = c.toNat by omega,show (c.toNat % 128 + 128 * v) / 128 = v by omega,List.cons_append,← e2]
          simp
theorem num_forth {l:List UInt8} {y:Int × List UInt8} (h:numP l = some y):l = uBf 9 (zig y.1) ++ y.2 := by
  unfold numP at h
  split at h
  · cases h
  · rename_i w hw
    injection h with h; subst h
    obtain ⟨v,e1,e2,_⟩ := uP_forth l 0 0 w (by omega) hw
    simp only [Nat.zero_add,Nat.mul_zero,Nat.pow_zero,Nat.mul_one] at e1
    simp only [zig_unzig,e1]
    exact e2
theorem cnt_forth {l:List UInt8} {y:Nat × List UInt8} (h:cntP l = some y):l = uBf 9 (zig (y.1:Int)) ++ y.2 := by
  unfold cntP at h
  split at h
  · cases h
  · rename_i w hw
    split at h
    · rename_i hc
      injection h with h; subst h
      rw [num_forth hw]
      simp only
      rw [Int.toNat_of_nonneg hc.1]
    · cases h
theorem list_forth {α:Type} {p:List UInt8→Option (α × List UInt8)} {q:α→List UInt8} (h:∀ l y,p l = some y→l = q y.1 ++ y.2):∀ (n:Nat) (l:List UInt8) (y:List α × List UInt8),listP p n l = some y→l = y.1.flatMap q ++ y.2
  | 0,l,y,e => by rw [listP] at e; injection e with e; subst e; simp
  | n + 1,l,y,e => by
    rw [listP] at e
    split at e
    · cases e
    · rename_i z hz
      split at e
      · cases e
      · rename_i w hw
        injection e with e; subst e
        have e1 := h _ _ hz
        have e2 := list_forth h _ _ _ hw
        simp only [List.flatMap_cons,List.append_assoc]
        rw [← e2]; exact e1
theorem arrBL_flat:∀ l:List Arr,arrBL l = l.flatMap arrB
  | [] => rfl
  | a :: l => by rw [arrBL,List.flatMap_cons,arrBL_flat l]
theorem nums_forth {n:Nat} {l:List UInt8} {y:List Int × List UInt8} (h:listP numP n l = some y):l = numsB y.1 ++ y.2 := list_forth (fun _ _ h => num_forth h) n l y h
theorem arr_forth:∀ (f:Nat) (l:List UInt8) (y:Arr × List UInt8),arrP f l = some y→l = arrB y.1 ++ y.2
  | 0,l,y,h => by simp [arrP] at h
  | f + 1,l,y,h => by
    cases hk:numP l with
    | none => rw [arrP_num hk] at h; cases h
    | some k =>
      obtain ⟨k,r⟩ := k
      have e1 := num_forth hk
      by_cases hg:1 ≤ k∧k ≤ 3
      · cases hn:cntP r with
        | none => rw [arrP_cnt hk hg hn] at h; cases h
        | some n =>
          obtain ⟨n,r1⟩ := n
          have e2 := cnt_forth hn
          cases hs:listP numP n r1 with
          | none => rw [arrP_shape hk hg hn hs] at h; cases h
          | some sh =>
            obtain ⟨sh,r2⟩ := sh
            have e3 := nums_forth hs
            have e4:sh.length = n := listP_length _ _ _ hs
            simp only at e1 e2 e3
            cases hr:rightS sh with
            | false => rw [arrP_right hk hg hn hs hr] at h; cases h
            | true =>
              by_cases h3:k = 3
              · rw [arrP_items hk hg hn hs hr h3] at h
                split at h
                · cases h
                · rename_i its hi
                  injection h with h; subst h
                  have e5 := list_forth (arr_forth f) _ _ _ hi
                  simp only [arrB,numsB_cons,numsB_nil,List.append_nil,List.append_assoc,arrBL_flat,e4]
                  rw [← e5,← e3,← e2]; exact e1
              · rw [arrP_nums hk hg hn hs hr h3] at h
                split at h
                · cases h
                · rename_i nu hi
                  injection h with h; subst h
                  have e5 := nums_forth hi
                  simp only [arrB,numsB_cons,numsB_nil,List.append_nil,List.append_assoc,arrBL,e4]
                  rw [← e5,← e3,← e2]; exact e1
      · rw [arrP_kind hk hg] at h; cases h
theorem p4_forth (l:List UInt8) (y:I4 × List UInt8) (h:p4 l = some y):l = i4B y.1 ++ y.2 := by
  obtain ⟨a,h1,h⟩ := bindP_some' h
  obtain ⟨b,h2,h⟩ := bindP_some' h
  obtain ⟨c,h3,h⟩ := bindP_some' h
  obtain ⟨d,h4,h⟩ := bindP_some' h
  injection h with h; subst h
  simp only [i4B,numsB_cons,numsB_nil,List.append_nil,List.append_assoc]
  rw [← num_forth h4,← num_forth h3,← num_forth h2,← num_forth h1]
theorem p6_forth (l:List UInt8) (y:I6 × List UInt8) (h:p6 l = some y):l = i6B y.1 ++ y.2 := by
  obtain ⟨a,h1,h⟩ := bindP_some' h
  obtain ⟨b,h2,h⟩ := bindP_some' h
  obtain ⟨c,h3,h⟩ := bindP_some' h
  obtain ⟨d,h4,h⟩ := bindP_some' h
  obtain ⟨e,h5,h⟩ := bindP_some' h
  obtain ⟨f,h6,h⟩ := bindP_some' h
  injection h with h; subst h
  simp only [i6B,numsB_cons,numsB_nil,List.append_nil,List.append_assoc]
  rw [← num_forth h6,← num_forth h5,← num_forth h4,← num_forth h3,← num_forth h2,← num_forth h1]
theorem fun_forth (l:List UInt8) (y:FnD × List UInt8) (h:funP l = some y):l = funB y.1 ++ y.2 := by
  obtain ⟨a,h1,h⟩ := bindP_some' h
  obtain ⟨b,h2,h⟩ := bindP_some' h
  obtain ⟨c,h3,h⟩ := bindP_some' h
  injection h with h; subst h
  simp only [funB,numsB_cons,numsB_nil,List.append_nil,List.append_assoc]
  rw [← list_forth p4_forth _ _ _ h3,listP_length _ _ _ h3,← cnt_forth h2,← num_forth h1]
theorem ker_forth (l:List UInt8) (y:KeD × List UInt8) (h:kerP l = some y):l = kerY y.1 ++ y.2 := by
  obtain ⟨a,h1,h⟩ := bindP_some' h
  obtain ⟨b,h2,h⟩ := bindP_some' h
  obtain ⟨c,h3,h⟩ := bindP_some' h
  obtain ⟨d,h4,h⟩ := bindP_some' h
  obtain ⟨e,h5,h⟩ := bindP_some' h
  injection h with h; subst h
  simp only [kerY,numsB_cons,numsB_nil,List.append_nil,List.append_assoc]
  rw [← num_forth h5,← num_forth h4,← list_forth p4_forth _ _ _ h3,listP_length _ _ _ h3,← cnt_forth h2,← num_forth h1]
theorem lan_forth (l:List UInt8) (y:LaD × List UInt8) (h:lanP l = some y):l = lanB y.1 ++ y.2 := by
  obtain ⟨a,h1,h⟩ := bindP_some' h
  obtain ⟨b,h2,h⟩ := bindP_some' h
  obtain ⟨c,h3,h⟩ := bindP_some' h
  injection h with h; subst h
  simp only [lanB,numsB_cons,numsB_nil,List.append_nil,List.append_assoc]
  rw [← list_forth p6_forth _ _ _ h3,listP_length _ _ _ h3,← cnt_forth h2,← num_forth h1]
theorem body_forth {l:List UInt8} {c:CodD} (h:bodyP l = some c):codeB c = l := by
  have h := bodyP_some h
  obtain ⟨n1,h1,h⟩ := bindP_some' h
  obtain ⟨cs,h2,h⟩ := bindP_some' h
  obtain ⟨n3,h3,h⟩ := bindP_some' h
  obtain ⟨fs,h4,h⟩ := bindP_some' h
  obtain ⟨n5,h5,h⟩ := bindP_some' h
  obtain ⟨ks,h6,h⟩ := bindP_some' h
  obtain ⟨n7,h7,h⟩ := bindP_some' h
  obtain ⟨ls,h8,h⟩ := bindP_some' h
  injection h with h; injection h with h h9; subst h
  have e := list_forth lan_forth _ _ _ h8
  rw [h9,List.append_nil] at e
  simp only [codeB,tl2,tl3,tl4,numsB_cons,numsB_nil,List.append_nil,arrBL_flat]
  rw [← e,listP_length _ _ _ h8,← cnt_forth h7,← list_forth ker_forth _ _ _ h6,listP_length _ _ _ h6,← cnt_forth h5,← list_forth fun_forth _ _ _ h4,listP_length _ _ _ h4,← cnt_forth h3,← list_forth (arr_forth 17) _ _ _ h2,listP_length _ _ _ h2,← cnt_forth h1]
theorem sumB_len (s:Nat):(sumB s).length = 4 := rfl
theorem seal_len (l:List UInt8):(sealB l).length = l.length + 8 := by simp [sealB,sumB_len]
theorem mid_seal (l:List UInt8):midB (sealB l) = l := by
  unfold midB
  rw [seal_len]
  simp only [sealB,List.append_assoc]
  rw [List.drop_append_of_le_length (by simp)]
  simp []
theorem ek_seal {l:List UInt8} (h:l.length ≤ 1048568):ekB (sealB l) = 0 := by
  unfold ekB
  have hl := seal_len l
  have e1:(sealB l).take ((sealB l).length - 4) = [65,76,67,49] ++ l := by
    rw [hl]; unfold sealB
    rw [List.take_append_of_le_length (by simp),List.take_of_length_le (by simp)]
  have e2:(sealB l).drop ((sealB l).length - 4) = sumB (sumN ([65,76,67,49] ++ l)) := by
    rw [hl]; unfold sealB
    rw [List.drop_append_of_le_length (by simp),List.drop_of_length_le (by simp)]; rfl
  have e3:(sealB l).take 4 = [65,76,67,49] := by simp [sealB]
  rw [if_neg (by omega),if_neg (by omega),if_neg (by simp [e3]),if_neg (by rw [e1,e2]; simp)]
end Go.Proofs.Ytoglbmhkfkghbaa
namespace Go.Proofs.Ytoglbmhkfkghbaa
open Go Go.Ab
set_option maxRecDepth 100000
theorem right_c0 (m m':Ab.Mode):ACalls Try.prog 20 [c0 m m'] ⟨[],[]⟩ (fun r _ => weakEnd r (.ret (.int .i64 0))) := by
  refine inlS conS_ok _ _ _ _ ?_
  refine vc_eq (T :=
    ∀ (x:Nat),True→SM x∧∀ (x_1:Nat),x ≠ x_1∧True→SM x_1∧SM x_1∧SM x∧SM x∧SM x∧SM x∧True∧True∧SM x∧SM x∧SM x∧True∧True∧SM x∧SM x∧∀ (x_2:Nat),x_1 ≠ x_2∧x ≠ x_2∧True→SM x_2∧∀ (x_3:Nat),x_2 ≠ x_3∧x_1 ≠ x_3∧x ≠ x_3∧True→SM x_3∧SM x_3∧SM x_3∧True∧SM x_3∧∀ (x_4:Nat),x_3 ≠ x_4∧x_2 ≠ x_4∧x_1 ≠ x_4∧x ≠ x_4∧True→SM x_3∧∀ (x_5:Nat),x_4 ≠ x_5∧x_3 ≠ x_5∧x_2 ≠ x_5∧x_1 ≠ x_5∧x ≠ x_5∧True→SM x_5∧SM x_4∧SM x_2∧SM x_5∧∀ (x_6:Nat),x_5 ≠ x_6∧x_4 ≠ x_6∧x_3 ≠ x_6∧x_2 ≠ x_6∧x_1 ≠ x_6∧x ≠ x_6∧True→∀ (x_7:Nat),x_6 ≠ x_7∧x_5 ≠ x_7∧x_4 ≠ x_7∧x_3 ≠ x_7∧x_2 ≠ x_7∧x_1 ≠ x_7∧x ≠ x_7∧True→∀ (x_8:Nat),x_7 ≠ x_8∧x_6 ≠ x_8∧x_5 ≠ x_8∧x_4 ≠ x_8∧x_3 ≠ x_8∧x_2 ≠ x_8∧x_1 ≠ x_8∧x ≠ x_8∧True→SM x_7∧∀ (x_9:Nat),x_8 ≠ x_9∧x_7 ≠ x_9∧x_6 ≠ x_9∧x_5 ≠ x_9∧x_4 ≠ x_9∧x_3 ≠ x_9∧x_2 ≠ x_9∧x_1 ≠ x_9∧x ≠ x_9∧True→SM x_7∧SM x_7∧∀ (x_10:Nat),x_9 ≠ x_10∧x_8 ≠ x_10∧x_7 ≠ x_10∧x_6 ≠ x_10∧x_5 ≠ x_10∧x_4 ≠ x_10∧x_3 ≠ x_10∧x_2 ≠ x_10∧x_1 ≠ x_10∧x ≠ x_10∧True→∀ (x_11:Nat),x_10 ≠ x_11∧x_9 ≠ x_11∧x_8 ≠ x_11∧x_7 ≠ x_11∧x_6 ≠ x_11∧x_5 ≠ x_11∧x_4 ≠ x_11∧x_3 ≠ x_11∧x_2 ≠ x_11∧x_1 ≠ x_11∧x ≠ x_11∧True→SM x_10∧SM x_10∧SM x_10∧SM x_11∧(SM x_11∧True)∧SM x_8∧(SM x_8∧True)∧∀ (x_12:Nat),x_11 ≠ x_12∧x_10 ≠ x_12∧x_9 ≠ x_12∧x_8 ≠ x_12∧x_7 ≠ x_12∧x_6 ≠ x_12∧x_5 ≠ x_12∧x_4 ≠ x_12∧x_3 ≠ x_12∧x_2 ≠ x_12∧x_1 ≠ x_12∧x ≠ x_12∧True→SM x_12∧SM x_12∧SM x_5∧SM x_12∧∀ (x_13:Nat),x_12 ≠ x_13∧x_11 ≠ x_13∧x_10 ≠ x_13∧x_9 ≠ x_13∧x_8 ≠ x_13∧x_7 ≠ x_13∧x_6 ≠ x_13∧x_5 ≠ x_13∧x_4 ≠ x_13∧x_3 ≠ x_13∧x_2 ≠ x_13∧x_1 ≠ x_13∧x ≠ x_13∧True→SM x_13∧SM x_13∧SM x_13∧SM x_13∧SM x_13∧∀ (t:Nat),True∧SM x_5∧SM x_5∧SM x_3∧∀ (x_14:Nat),x_13 ≠ x_14∧x_12 ≠ x_14∧x_11 ≠ x_14∧x_10 ≠ x_14∧x_9 ≠ x_14∧x_8 ≠ x_14∧x_7 ≠ x_14∧x_6 ≠ x_14∧x_5 ≠ x_14∧x_4 ≠ x_14∧x_3 ≠ x_14∧x_2 ≠ x_14∧x_1 ≠ x_14∧x ≠ x_14∧True→SM x_14∧SM x_14∧True∧True∧SM Z0) (by kernel_rfl) ?_
  delta SM Z0
  repeat' (first | exact trivial | refine And.intro ?_ ?_ | exact rows_eq (by kernel_rfl) | intro _ | kernel_rfl | exact weakM_refl _ | exact Nat.le_of_ble_eq_true (by kernel_rfl))
def conA1 (k:Nat) (ds:List D) (S:St):Option FnSpec :=
  match k with
  | 20 => match ds with
    | [.agg [_,.sl 2 1 f m,_,_]] => match f 0 with
      | [_,.sl 4 1 _ m'] => some (sC [c0 m m'] (.int .i64 0))
      | _ => none
    | _ => none
  | _ => conS k ds S
theorem conA1_ok:ConOk Try.prog conA1 := by
  intro k ds S A h
  unfold conA1 at h
  split at h
  · split at h
    · split at h
      · injection h with h; subst h
        exact ConOk.closed (right_c0 _ _)
      · cases h
    · cases h
  · exact conS_ok _ _ _ _ h
end Go.Proofs.Ytoglbmhkfkghbaa
namespace Go.Proofs.Ytoglbmhkfkghbaa
open Go Go.Ab
set_option maxRecDepth 100000
theorem tokIs_one (a:Nat):tokIs [(0,a)] 0 a := rfl
noncomputable section
def aw2q0:Prop := SM N0∧(∀ (i:Nat),i < N0→eqOf (List D) [] [])∧True
def aw2q1:List D := [ZI Z0]
def aw2q2 (p0:Ab.Mode) (p1:Nat):List D := List.getD [[ZI Z0,D.sl N4 N1 (fun (i:Nat) => List.getD [ZI (25:Int) :: ZI Z0 :: ZI Z0 :: aw2q1] i []) p0]] p1 []
def aw2q3 (p0:Nat):Prop := tokIs [(N0,p0)] N0 p0
def aw2q4 (p0:List UInt8) (p1:Nat):List D := [ZB (BI p0 p1)]
def aw2q5 (p0:List UInt8):List UInt8 := bytesOf (LN p0) fun (i:Nat) => aw2q4 p0 i
def aw2q6 (p0 p1:Nat) (p2:List UInt8):Prop := (SM p0∧aw2q3 p1∧fitP (LN p2) (fun (i:Nat) => aw2q4 p2 i) N1 fun (i:Nat) => List.getD [aw2q1] i [])∧True
def aw2q7 (p0 p1:List UInt8):Prop := p0 = aw2q5 p1 ++ [U0]
def aw2q8 (p0:List UInt8) (p1:Nat):D := D.sl N1 (LN p0) (fun (i:Nat) => aw2q4 p0 i) (Mode.tok N0 p1)
def aw2q9 (p0:Nat) (p1:List UInt8) (p2:Nat):Prop := SM p0∧SM (aw2q8 p1 p2)
def aw2q10 (p0:List UInt8):Int := (NI (sumN (aw2q5 p0)))
def aw2q11 (p0:List UInt8) (p1:Nat):D := D.sl N1 (LN p0 + N1) (appF (LN p0) (fun (i:Nat) => aw2q4 p0 i) fun (i:Nat) => List.getD [[ZB (IntKind.wrap IntKind.u8 (Int.fdiv (aw2q10 p0) (16777216:Int)))]] i []) (Mode.tok N0 p1)
def aw2q12 (p0:Nat) (p1:List UInt8) (p2:Nat):Prop := SM p0∧SM (aw2q11 p1 p2)
def aw2q13 (p0:List UInt8) (p1:Nat):D := D.sl N1 (LN p0 + N1 + N1) (appF (LN p0 + N1) (appF (LN p0) (fun (i:Nat) => aw2q4 p0 i) fun (i:Nat) => List.getD [[ZB (IntKind.wrap IntKind.u8 (Int.fdiv (aw2q10 p0) (16777216:Int)))]] i []) fun (i:Nat) => List.getD [[ZB (IntKind.wrap IntKind.u8 (Int.fdiv (aw2q10 p0) (65536:Int)))]] i []) (Mode.tok N0 p1)
def aw2q14 (p0:Nat) (p1:List UInt8) (p2:Nat):Prop := SM p0∧SM (aw2q13 p1 p2)
def aw2q15 (p0:List UInt8):Nat := LN p0 + N1 + N1 + N1
def aw2q16 (p0:List UInt8) (p1:Nat):D := D.sl N1 (aw2q15 p0) (appF (LN p0 + N1 + N1) (appF (LN p0 + N1) (appF (LN p0) (fun (i:Nat) => aw2q4 p0 i) fun (i:Nat) => List.getD [[ZB (IntKind.wrap IntKind.u8 (Int.fdiv (aw2q10 p0) (16777216:Int)))]] i []) fun (i:Nat) => List.getD [[ZB (IntKind.wrap IntKind.u8 (Int.fdiv (aw2q10 p0) (65536:Int)))]] i []) fun (i:Nat) => List.getD [[ZB (IntKind.wrap IntKind.u8 (Int.fdiv (aw2q10 p0) (256:Int)))]] i []) (Mode.tok N0 p1)
def aw2q17 (p0:Nat) (p1:List UInt8) (p2:Nat):Prop := SM p0∧SM (aw2q16 p1 p2)
def aw2q18 (p0:List UInt8):Nat := aw2q15 p0 + N1
def aw2q19:List D := [ZB Z0]
def aw2q20 (p0:Nat):List D := List.getD [[ZB (65:Int)],[ZB (76:Int)],[ZB (67:Int)],[ZB (49:Int)],aw2q19,[ZB (2:Int)],aw2q19,[ZB (2:Int)],[ZB (50:Int)],aw2q19,aw2q19,aw2q19,aw2q19,aw2q19,[ZB (116:Int)],[ZB (248:Int)],[ZB (41:Int)],[ZB (197:Int)]] p0 []
end
theorem put0 (m m':Ab.Mode):ACalls Try.prog 13 [c0 m m'] ⟨[],[]⟩ (fun r _ => weakEnd r (.ret (.tup [d0 .any,.int .i64 0]))) := by
  refine inlS (conW_ok conA1_ok) _ _ _ _ ?_
  refine vc_eq (T :=
    ∀ (x:Nat),True→SM x∧∃ (x_1:Unit),((aw2q0∧(SM N1∧(∀ (i:Nat),i < N1→SM (aw2q2 m' i))∧weakM m m)∧aw2q0∧aw2q0∧True)∧True)∧(True∧True)∧True∧∀ (y:Unit),True→True∧∀ (x_2:Nat),x ≠ x_2∧True→SM x∧∀ (x_3:Nat),x_2 ≠ x_3∧x ≠ x_3∧True→SM x_3∧((SM x_2∧fitP N4 (fun (i:Nat) => List.getD [[ZB (65:Int)],[ZB (76:Int)],[ZB (67:Int)],[ZB (49:Int)]] i []) N1 fun (i:Nat) => List.getD [aw2q1] i [])∧True)∧∀ (y:Nat × List UInt8),y.2 = [(65:UInt8),(76:UInt8),(67:UInt8),(49:UInt8),U0]→SM x_3∧SM x_3∧((SM x_2∧aw2q3 y.1∧fitP (LN y.2) (fun (i:Nat) => aw2q4 y.2 i) N1 fun (i:Nat) => List.getD [[ZI Z1]] i [])∧True)∧∀ (y_1:Nat × List UInt8),y_1.2 = aw2q5 y.2 ++ [(2:UInt8)]→SM x_3∧∀ (x_4:Nat),x_2 ≠ x_4∧x_3 ≠ x_4∧x ≠ x_4∧True→SM x_4∧SM x_4∧SM x_4∧((SM x_2∧aw2q3 y_1.1∧fitP (LN y_1.2) (fun (i:Nat) => aw2q4 y_1.2 i) N2 fun (i:Nat) => List.getD [aw2q1,[ZI Z1]] i [])∧True)∧∀ (y:Nat × List UInt8),y.2 = aw2q5 y_1.2 ++ [U0,(2:UInt8)]→SM x_4∧∀ (x_5:Nat),x_2 ≠ x_5∧x_4 ≠ x_5∧x_3 ≠ x_5∧x ≠ x_5∧True→SM x_5∧SM x_5∧SM x_5∧SM x_5∧SM x_5∧((SM x_2∧aw2q3 y.1∧fitP (LN y.2) (fun (i:Nat) => aw2q4 y.2 i) N4 fun (i:Nat) => List.getD [[ZI (25:Int)],aw2q1,aw2q1,aw2q1] i [])∧True)∧∀ (y_2:Nat × List UInt8),y_2.2 = aw2q5 y.2 ++ [(50:UInt8),U0,U0,U0]→SM x_3∧aw2q6 x_2 y_2.1 y_2.2∧∀ (y:Nat × List UInt8),aw2q7 y.2 y_2.2→SM x_3∧SM x_3∧aw2q6 x_2 y.1 y.2∧∀ (y_3:Nat × List UInt8),aw2q7 y_3.2 y.2→SM x_3∧True∧SM x_2∧((rowsB (LN y_3.2) fun (i:Nat) => aw2q4 y_3.2 i) = true∧LN (aw2q5 y_3.2) ≤ (9223372036854775807:Nat))∧∀ (y:Unit),True→SM x_2∧aw2q9 x_2 y_3.2 y_3.1∧aw2q9 x_2 y_3.2 y_3.1∧SM y_3.1∧side ((LN y_3.2 + N1) * N1 ≤ (140737488355328:Nat)∧LN y_3.2 + N1 ≤ (9223372036854775807:Nat)) (∀ (t:Nat),SM x_2∧SM x_2∧aw2q12 x_2 y_3.2 t∧aw2q12 x_2 y_3.2 t∧SM t∧side ((LN y_3.2 + N1 + N1) * N1 ≤ (140737488355328:Nat)∧LN y_3.2 + N1 + N1 ≤ (9223372036854775807:Nat)) (∀ (t:Nat),SM x_2∧SM x_2∧aw2q14 x_2 y_3.2 t∧aw2q14 x_2 y_3.2 t∧SM t∧side (aw2q15 y_3.2 * N1 ≤ (140737488355328:Nat)∧aw2q15 y_3.2 ≤ (9223372036854775807:Nat)) (∀ (t:Nat),SM x_2∧SM x_2∧aw2q17 x_2 y_3.2 t∧aw2q17 x_2 y_3.2 t∧SM t∧side (aw2q18 y_3.2 * N1 ≤ (140737488355328:Nat)∧aw2q18 y_3.2 ≤ (9223372036854775807:Nat)) (∀ (t:Nat),SM x_2∧SM x_2∧ifB (decide ((1048576:Int) < (NI (aw2q18 y_3.2)))) (True∧(N0 = (18:Nat)∧(∀ (i:Nat),i < N0→eqOf (List D) [] (aw2q20 i))∧True)∧(21:Int) = Z0∧True) (SM x_2∧True∧(aw2q18 y_3.2 = (18:Nat)∧(∀ (i:Nat),i < aw2q18 y_3.2→appF (aw2q15 y_3.2) (appF (LN y_3.2 + N1 + N1) (appF (LN y_3.2 + N1) (appF (LN y_3.2) (fun (i:Nat) => aw2q4 y_3.2 i) fun (i:Nat) => List.getD [[ZB (IntKind.wrap IntKind.u8 (Int.fdiv (aw2q10 y_3.2) (16777216:Int)))]] i []) fun (i:Nat) => List.getD [[ZB (IntKind.wrap IntKind.u8 (Int.fdiv (aw2q10 y_3.2) (65536:Int)))]] i []) fun (i:Nat) => List.getD [[ZB (IntKind.wrap IntKind.u8 (Int.fdiv (aw2q10 y_3.2) (256:Int)))]] i []) (fun (i:Nat) => List.getD [[ZB (IntKind.wrap IntKind.u8 (Int.fdiv (aw2q10 y_3.2) Z1))]] i []) i = aw2q20 i)∧True)∧SM Z0∧True)))))) (by kernel_rfl) ?_
  delta BI LN N0 N1 N2 N4 NI SM U0 Z0 Z1 ZB ZI aw2q0 aw2q1 aw2q10 aw2q11 aw2q12 aw2q13 aw2q14 aw2q15 aw2q16 aw2q17 aw2q18 aw2q19 aw2q2 aw2q20 aw2q3 aw2q4 aw2q5 aw2q6 aw2q7 aw2q8 aw2q9
  simp only [Prod.forall,forall_eq,bytesOf_bsl,rowsB_bsl,side_iff,ifB_iff,true_and,and_true,fitP,List.cons_append,List.nil_append,List.length_cons,List.length_nil,Nat.reduceAdd,Nat.reduceMul,Int.cast_ofNat_Int,Int.reduceLT,decide_eq_true_eq,decide_eq_false_iff_not,false_implies,not_false_eq_true,forall_const]
  repeat' (first | exact trivial | exact tokIs_one _ | refine Exists.intro () ?_ | refine And.intro ?_ ?_ | exact rows_eq (by kernel_rfl) | intro _ | kernel_rfl | exact weakM_refl _ | exact Nat.le_of_ble_eq_true (by kernel_rfl))
  all_goals trace_state
end Go.Proofs.Ytoglbmhkfkghbaa
namespace Go.Proofs.Ytoglbmhkfkghbaa
open Go Go.Ab
set_option maxRecDepth 100000
noncomputable section
def aw3q0:Prop := SM N0∧(∀ (i:Nat),i < N0→eqOf (List D) [] [])∧True
end
theorem takeN (m:Ab.Mode):ACalls Try.prog 15 [.sl 1 0 (fun _ => []) m] ⟨[],[]⟩ (fun r _ => weakEnd r (.ret (.tup [.agg [nils,nils,nils,nils],.int .i64 7]))) := by
  refine inlS conA1_ok _ _ _ _ ?_
  refine vc_eq (T :=
    ∀ (x:Nat),True→SM x∧(SM x∧True)∧(aw3q0∧aw3q0∧aw3q0∧aw3q0∧True)∧SM (7:Int)∧True) (by kernel_rfl) ?_
  delta N0 SM aw3q0
  simp only [true_and,and_true]
  repeat' (first | exact trivial | refine Exists.intro () ?_ | refine And.intro ?_ ?_ | exact rows_eq (by kernel_rfl) | intro _ | kernel_rfl | exact weakM_refl _ | exact Nat.le_of_ble_eq_true (by kernel_rfl))
noncomputable section
def aw3q1 (p0:Nat):Prop := SM p0∧SM (D.sl N1 N0 (fun (_x:Nat) => []) Mode.nil)
def aw3q2:Prop := SM N0∧(∀ (i:Nat),i < N0→eqOf (List D) [] [])∧True
def aw3q3:List (List D) := [[ZI (25:Int),ZI Z0,ZI Z0,ZI Z0]]
def aw3q4 (p0 p1:Nat):List D := appF N0 (fun (_x:Nat) => []) (fun (i:Nat) => List.getD [[ZI Z0,D.sl N4 N1 (fun (i:Nat) => List.getD aw3q3 (i - N0) []) (Mode.tok N0 p0)]] i []) p1
def aw3q5 (p0 p1:Nat):List D := List.getD [[ZI Z0,D.sl N4 N1 (fun (i:Nat) => List.getD aw3q3 i []) (Mode.tok N0 p0)]] p1 []
def aw3q6:Prop := aw3q2∧aw3q2∧True
end
theorem take0:ACalls Try.prog 15 [d0 .any] ⟨[],[]⟩ (fun r _ => ∃ t,weakEnd r (.ret (.tup [c0 .any (.tok 0 t),.int .i64 0]))) := by
  refine inlS conA1_ok _ _ _ _ ?_
  refine vc_eq (T :=
    ∀ (x:Nat),True→True∧(SM true∧(14:Nat) ≤ (9223372036854775807:Nat))∧∀ (y:Unit),True→True∧∀ (x_1:Nat),x ≠ x_1∧True→∀ (x_2:Nat),x_1 ≠ x_2∧x ≠ x_2∧True→∀ (x_3:Nat),x_2 ≠ x_3∧x_1 ≠ x_3∧x ≠ x_3∧True→∀ (x_4:Nat),x_3 ≠ x_4∧x_2 ≠ x_4∧x_1 ≠ x_4∧x ≠ x_4∧True→∀ (x_5:Nat),x_4 ≠ x_5∧x_3 ≠ x_5∧x_2 ≠ x_5∧x_1 ≠ x_5∧x ≠ x_5∧True→SM x_3∧True∧SM x_3∧SM x_3∧SM x_3∧True∧True∧True∧SM x_3∧True∧True∧SM x_3∧True∧SM x_3∧SM x_3∧SM x_3∧True∧True∧True∧SM x_3∧True∧True∧SM x_3∧True∧SM x_3∧SM x_3∧SM x_3∧True∧True∧True∧∀ (x_6:Nat),x_5 ≠ x_6∧x_4 ≠ x_6∧x_3 ≠ x_6∧x_2 ≠ x_6∧x_1 ≠ x_6∧x ≠ x_6∧True→SM x_6∧SM x_3∧True∧SM x_3∧SM x_3∧SM x_3∧True∧True∧True∧SM x_3∧True∧True∧SM x_6∧SM x_3∧True∧SM x_3∧SM x_3∧SM x_3∧True∧True∧True∧aw3q1 x_6∧SM x_3∧True∧SM x_3∧SM x_3∧SM x_3∧True∧True∧True∧aw3q1 x_6∧SM x_3∧True∧SM x_3∧SM x_3∧SM x_3∧True∧True∧True∧aw3q1 x_6∧SM x_3∧True∧SM x_3∧SM x_3∧SM x_3∧True∧True∧True∧aw3q1 x_6∧aw3q1 x_6∧∀ (t:Nat),SM x_6∧SM x_5∧SM x_6∧∀ (t_1:Nat),SM x_5∧SM x_3∧True∧SM x_3∧SM x_3∧SM x_3∧True∧True∧True∧SM x_3∧True∧True∧SM x_3∧True∧SM x_3∧SM x_3∧SM x_3∧True∧True∧True∧SM x_3∧True∧True∧SM x_3∧True∧SM x_5∧SM x_4∧(SM x_4∧True)∧SM x_1∧SM x_2∧(SM x_1∧SM x_2∧True)∧∀ (x_7:Nat),x_6 ≠ x_7∧x_5 ≠ x_7∧x_4 ≠ x_7∧x_3 ≠ x_7∧x_2 ≠ x_7∧x_1 ≠ x_7∧x ≠ x_7∧True→SM x_7∧SM x_7∧∃ (x_8:Unit),((aw3q2∧(SM N1∧(∀ (i:Nat),i < N1→aw3q4 t i = aw3q5 t i)∧SM t_1)∧aw3q6)∧True)∧(True∧True)∧True∧∀ (y:Unit),True→SM x_7∧SM x_7∧SM x∧(SM x∧True)∧∃ (t_2:Nat),(aw3q2∧(SM N1∧(∀ (i:Nat),i < N1→aw3q4 t i = aw3q5 t_2 i)∧True)∧aw3q6)∧SM Z0∧True) (by kernel_rfl) ?_
  delta N0 N1 N4 SM Z0 ZI aw3q1 aw3q2 aw3q3 aw3q4 aw3q5 aw3q6
  simp only [true_and,and_true]
  repeat' (first | exact trivial | refine Exists.intro () ?_ | refine And.intro ?_ ?_ | exact rows_eq (by kernel_rfl) | intro _ | kernel_rfl | exact weakM_refl _ | exact Nat.le_of_ble_eq_true (by kernel_rfl))
  rename_i t1 t2 x7 h1 u h2
  refine ⟨t1,?_⟩
  repeat' (first | exact trivial | refine Exists.intro () ?_ | refine And.intro ?_ ?_ | exact rows_eq (by kernel_rfl) | intro _ | kernel_rfl | exact weakM_refl _ | exact Nat.le_of_ble_eq_true (by kernel_rfl))
end Go.Proofs.Ytoglbmhkfkghbaa
namespace Go.Proofs.Ytoglbmhkfkghbaa
open Go Go.Ab
set_option maxRecDepth 100000
theorem same0 (t:Nat):ACalls Try.prog 17 [c0 .any .full,c0 .any (.tok 0 t)] ⟨[],[]⟩ (fun r _ => weakEnd r (.ret (.bool true))) := by
  refine inlS conS_ok _ _ _ _ ?_
  refine vc_eq (T :=
    ∀ (x:Nat),True→∀ (x_1:Nat),x ≠ x_1∧True→SM x∧SM x_1∧SM x∧SM x∧SM x_1∧True∧SM x∧SM x_1∧True∧SM x∧SM x_1∧True∧True∧SM true) (by kernel_rfl) ?_
  delta SM
  simp only [and_true]
  repeat' (first | exact trivial | refine Exists.intro () ?_ | refine And.intro ?_ ?_ | exact rows_eq (by kernel_rfl) | intro _ | kernel_rfl | exact weakM_refl _ | exact Nat.le_of_ble_eq_true (by kernel_rfl))
end Go.Proofs.Ytoglbmhkfkghbaa
namespace Go.Proofs.Ytoglbmhkfkghbaa
open Go Go.Ab
set_option maxRecDepth 100000
def sTake:FnSpec where
  β := Unit
  α := Nat
  args := fun _ => [d0 .any]
  st := fun _ => ⟨[],[]⟩
  pre := fun _ => True
  post := fun _ _ => True
  res := fun _ t => .ret (.tup [c0 .any (.tok 0 t),.int .i64 0])
  out := fun _ _ => ⟨[],[]⟩
def b9:List (List D) := [[.int .u8 49],[.int .u8 50],[.int .u8 51],[.int .u8 52],[.int .u8 53],[.int .u8 54],[.int .u8 55],[.int .u8 56],[.int .u8 57]]
theorem sum9:ACalls Try.prog 10 [.sl 1 9 (fun i => b9.getD i []) .any] ⟨[],[]⟩ (fun r _ => weakEnd r (.ret (.int .u32 3421780262))) := by
  refine (sum_ok [49,50,51,52,53,54,55,56,57] .any (by simp)).respec (A' := sC [.sl 1 9 (fun i => b9.getD i []) .any] (.int .u32 3421780262)) (x' := ()) ?_ ?_ (fun y _ => ⟨(),trivial,?_,?_⟩) |>.mono ?_
  · exact ⟨⟨rfl,rows_eq rfl,trivial⟩,trivial⟩
  · simp [sC,sSum,posS,posO,posT]
  · show (sumN [49,50,51,52,53,54,55,56,57]:Int) = 3421780262
    kernel_rfl
  · simp [sC,sSum,posS,posO,posT]
  · rintro r S' ⟨_,_,rfl,_⟩
    exact weakD_refl _
def conK (k:Nat) (ds:List D) (S:St):Option FnSpec :=
  match k with
  | 10 => match ds with
    | [.sl 1 9 _ _] => some (sC [.sl 1 9 (fun i => b9.getD i []) .any] (.int .u32 3421780262))
    | _ => none
  | 13 => match ds with
    | [.agg [_,.sl 2 1 f m,_,_]] => match f 0 with
      | [_,.sl 4 1 _ m'] => some (sC [c0 m m'] (.tup [d0 .any,.int .i64 0]))
      | _ => none
    | _ => none
  | 15 => match ds with
    | [.sl 1 18 _ _] => some sTake
    | [.sl 1 0 _ m] => some (sC [.sl 1 0 (fun _ => []) m] (.tup [.agg [nils,nils,nils,nils],.int .i64 7]))
    | _ => none
  | 17 => match ds with
    | [_,.agg [_,.sl 2 1 f _,_,_]] => match f 0 with
      | [_,.sl 4 1 _ (.tok 0 t)] => some (sC [c0 .any .full,c0 .any (.tok 0 t)] (.bool true))
      | _ => none
    | _ => none
  | _ => conS k ds S
theorem conK_ok:ConOk Try.prog conK := by
  intro k ds S A h
  unfold conK at h
  split at h
  · split at h
    · injection h with h; subst h
      exact ConOk.closed sum9
    · cases h
  · split at h
    · split at h
      · injection h with h; subst h
        exact ConOk.closed (put0 _ _)
      · cases h
    · cases h
  · split at h
    · injection h with h; subst h
      refine ConOk.plain (A := sTake) (fun _ _ => take0.weaken ?_) rfl rfl
      rintro r S' ⟨t,hw⟩
      exact ⟨_,⟨[],[]⟩,hw,.none S',t,trivial,rfl,rfl⟩
    · injection h with h; subst h
      exact ConOk.closed (takeN _)
    · cases h
  · split at h
    · split at h
      · injection h with h; subst h
        exact ConOk.closed (same0 _)
      · cases h
    · cases h
  · exact conS_ok _ _ _ _ h
noncomputable section
def aw4q0:Prop := SM N0∧(∀ (i:Nat),i < N0→eqOf (List D) [] [])∧True
def aw4q1 (p0:Nat):List D := List.getD [[ZI (25:Int),ZI Z0,ZI Z0,ZI Z0]] p0 []
def aw4q2 (p0:Nat):List D := List.getD [[ZI Z0,D.sl N4 N1 (fun (i:Nat) => aw4q1 i) Mode.full]] p0 []
def aw4q3:Prop := aw4q0∧True
def aw4q4:Prop := aw4q0∧aw4q3
def aw4q5:Prop := aw4q0∧(SM N1∧(∀ (i:Nat),i < N1→SM (aw4q2 i))∧True)∧aw4q4
def aw4q6:List D := [ZB Z0]
def aw4q7 (p0:Nat):List D := List.getD [[ZB (65:Int)],[ZB (76:Int)],[ZB (67:Int)],[ZB (49:Int)],aw4q6,[ZB (2:Int)],aw4q6,[ZB (2:Int)],[ZB (50:Int)],aw4q6,aw4q6,aw4q6,aw4q6,aw4q6,[ZB (116:Int)],[ZB (248:Int)],[ZB (41:Int)],[ZB (197:Int)]] p0 []
def aw4q8 (p0 p1:Nat):List D := List.getD [[ZI Z0,D.sl N4 N1 (fun (i:Nat) => aw4q1 i) (Mode.tok N0 p0)]] p1 []
def aw4q9 (p0:Nat):List D := List.getD [[ZB (49:Int)],[ZB (50:Int)],[ZB (51:Int)],[ZB (52:Int)],[ZB (53:Int)],[ZB (54:Int)],[ZB (55:Int)],[ZB (56:Int)],[ZB (57:Int)]] p0 []
end
theorem awake0:ACalls Try.prog 9 [] ⟨[],[]⟩ (fun r _ => weakEnd r (.ret (.bool true))) := by
  refine inlS conK_ok _ _ _ _ ?_
  refine vc_eq (T :=
    ∀ (x:Nat),True→SM x∧SM x∧∃ (x_1:Unit),(aw4q5∧True)∧(True∧True)∧True∧∀ (y:Unit),True→∃ (x_2:Unit),((SM (18:Nat)∧(∀ (i:Nat),i < (18:Nat)→SM (aw4q7 i))∧True)∧True)∧(True∧True)∧True∧∀ (y:Nat),True→∀ (x_3:Nat),x ≠ x_3∧True→SM x_3∧∃ (x_4:Unit),aw4q3∧(True∧True)∧True∧∀ (y_1:Unit),True→∀ (x_5:Nat),x_3 ≠ x_5∧x ≠ x_5∧True→SM x_5∧True∧SM x∧SM x_3∧∃ (x:Unit),(aw4q5∧(aw4q0∧(SM N1∧(∀ (i:Nat),i < N1→SM (aw4q8 y i))∧True)∧aw4q4)∧True)∧(True∧True)∧True∧∀ (y:Unit),True→True∧∃ (x:Unit),((SM (9:Nat)∧(∀ (i:Nat),i < (9:Nat)→SM (aw4q9 i))∧True)∧True)∧(True∧True)∧True∧∀ (y:Unit),True→True∧SM true) (by kernel_rfl) ?_
  delta N0 N1 N4 SM Z0 ZB ZI aw4q0 aw4q1 aw4q2 aw4q3 aw4q4 aw4q5 aw4q6 aw4q7 aw4q8 aw4q9
  simp only [true_and,and_true]
  repeat' (first | exact trivial | refine Exists.intro () ?_ | refine And.intro ?_ ?_ | exact rows_eq (by kernel_rfl) | intro _ | kernel_rfl | exact weakM_refl _ | exact Nat.le_of_ble_eq_true (by kernel_rfl))
  all_goals trace_state
end Go.Proofs.Ytoglbmhkfkghbaa
namespace Go.Proofs.Ytoglbmhkfkghbaa
open Go Go.Ab
set_option maxRecDepth 100000
def conAw:Con := fun k ds S => match k with
  | 9 => some (sC [] (.bool true))
  | k => conS k ds S
theorem conAw_ok:ConOk Try.prog conAw := by
  intro k ds S A h
  unfold conAw at h
  split at h
  · injection h with h; subst h
    exact ConOk.closed awake0
  · exact conS_ok _ _ _ _ h
end Go.Proofs.Ytoglbmhkfkghbaa
namespace Go.Proofs.Ytoglbmhkfkghbaa
open Go Go.Ab
set_option maxRecDepth 100000
theorem bsl_weakA {n:Nat} {g:Nat→List D} {m:Ab.Mode} (h:rowsB n g = true):weakD (.sl 1 n g m) (bsl (bytesOf n g) .any) := by
  have := bsl_weak (m := m) h
  simp only [bsl,weakD,chk_iff] at this ⊢
  exact ⟨this.1,this.2.1,this.2.2.1,by cases m <;> simp [weakM]⟩
end Go.Proofs.Ytoglbmhkfkghbaa
namespace Go.Proofs.Ytoglbmhkfkghbaa
open Go Go.Ab
set_option maxRecDepth 100000
def conTa:Con := fun k ds S => match k with
  | 15 => match ds with
    | [.sl 1 n f _] => some (pC [bsl (bytesOf n f) .any] (.tup [.agg (takeC (bytesOf n f)).row,.int .i64 (takeE (bytesOf n f))]) (rowsB n f = true∧n ≤ 65536))
    | _ => none
  | 16 => match ds with
    | [.sl 1 n f _] => some (pC [bsl (bytesOf n f) .any] (.tup [.agg (takeC (bytesOf n f)).row,.int .i64 (takeE (bytesOf n f))]) (rowsB n f = true∧n ≤ 65536))
    | _ => none
  | k => conAw k ds S
theorem conTa_ok:ConOk Try.prog conTa := by
  intro k ds S A h
  unfold conTa at h
  split at h
  · split at h
    · rename_i n f m
      injection h with h; subst h
      refine pC_ok fun e => ⟨⟨bsl_weakA e.1,trivial⟩,?_⟩
      have hl:(bytesOf n f).length ≤ 65536 := by simpa [bytesOf] using e.2
      exact take_j _ (by omega) (body_okC (Nat.le_trans (midB_len _) hl))
    · cases h
  · split at h
    · rename_i n f m
      injection h with h; subst h
      refine pC_ok fun e => ⟨⟨bsl_weakA e.1,trivial⟩,?_⟩
      have hl:(bytesOf n f).length ≤ 65536 := by simpa [bytesOf] using e.2
      exact rtake_j _ (by omega) (body_okC (Nat.le_trans (midB_len _) hl))
    · cases h
  · exact conAw_ok _ _ _ _ h
def conTb (c:CodD):Con := fun k ds S => match k with
  | 17 => some (pC ds (.bool true) (weakL ds [.agg c.row,.agg c.row]))
  | k => conTa k ds S
theorem conTb_ok {c:CodD} (hc:c.ok):ConOk Try.prog (conTb c) := by
  intro k ds S A h
  unfold conTb at h
  split at h
  · injection h with h; subst h
    exact pC_ok fun e => ⟨weakL_refl _,sC_weak e (same_ok c hc)⟩
  · exact conTa_ok _ _ _ _ h
theorem nilCode_ok:nilCode.ok := by
  simp [CodD.ok,nilCode]
end Go.Proofs.Ytoglbmhkfkghbaa
