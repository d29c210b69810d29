/- Functions of the given program and what each of them computes: lemmas towards the statement, their conditions stated with each of them. -/
import Derived.Test.YtoglbmhkfkghbaaD2
namespace Go.Proofs.Ytoglbmhkfkghbaa
open Go Go.Ab
set_option maxRecDepth 100000
def _root_.Go.Ab.axL (os:List (Nat × Nat × AObj)):Nat := match getO os 0 with
  | some (_,.cells [_,.int _ z,_]) => z.toNat
  | _ => 0
def _root_.Go.Ab.oxL (os:List (Nat × Nat × AObj)):Bool := match getO os 0 with
  | some (_,.cells [_,_,.bool o]) => o
  | _ => false
structure LX {α:Type} (p:List UInt8→Option (α × List UInt8)) (n:Nat) (b:List UInt8) (a0:Nat) (o0:Bool) (i:Nat) (s:List α) (a:Nat) (o:Bool):Prop where
  hi:i ≤ n
  hs:s.length = i
  ha:a ≤ b.length
  he:iT o0 (listP p n (b.drop a0)) = iT o (bindP (listP p (n - i) (b.drop a)) fun w r => some (s ++ w,r))
theorem LX.init {α:Type} (p:List UInt8→Option (α × List UInt8)) (n:Nat) {b:List UInt8} {a:Nat} (o:Bool) (h:a ≤ b.length):LX p n b a o 0 [] a o :=
  ⟨Nat.zero_le _,rfl,h,by simp only [Nat.sub_zero,List.nil_append]; rw [bindP_id]⟩
theorem LX.step {α:Type} {p:List UInt8→Option (α × List UInt8)} {n:Nat} {b:List UInt8} {a0:Nat} {o0:Bool} {i:Nat} {s:List α} {a:Nat} {o:Bool} (h:LX p n b a0 o0 i s a o) (hi:i < n) {a':Nat} {o':Bool} {v:α} (hp:PX p b a o a' o' v):LX p n b a0 o0 (i + 1) (s ++ [v]) a' o' :=
  ⟨hi,by simp [h.hs],hp.ha,by rw [h.he]; exact hp.loop hi s (fun w r => some (w,r))⟩
theorem LX.done {α:Type} {p:List UInt8→Option (α × List UInt8)} {n:Nat} {b:List UInt8} {a0:Nat} {o0:Bool} {i:Nat} {s:List α} {a:Nat} {o:Bool} (h:LX p n b a0 o0 i s a o) (hi:¬ (i:Int) < n∨o = false):PX (listP p n) b a0 o0 a o s :=
  ⟨h.ha, by rw [h.he]; exact PX.done (fun ho => by rcases hi with h | h; · omega
                                                   · rw [ho] at h; cases h) s (fun w r => some (w,r))⟩
def i4L (v:List Int):I4 := ⟨(v ++ [0,0,0,0]).getD 0 0,(v ++ [0,0,0,0]).getD 1 0,(v ++ [0,0,0,0]).getD 2 0,(v ++ [0,0,0,0]).getD 3 0⟩
def i6L (v:List Int):I6 := ⟨(v ++ [0,0,0,0,0,0]).getD 0 0,(v ++ [0,0,0,0,0,0]).getD 1 0,(v ++ [0,0,0,0,0,0]).getD 2 0,(v ++ [0,0,0,0,0,0]).getD 3 0,(v ++ [0,0,0,0,0,0]).getD 4 0,(v ++ [0,0,0,0,0,0]).getD 5 0⟩
theorem p4_list (l:List UInt8):p4 l = bindP (listP numP 4 l) fun v r => some (i4L v,r) := by
  unfold p4
  simp only [listP]
  cases h1:numP l with
  | none => rfl
  | some y1 =>
    rw [bindP_some (a := y1.1) (r := y1.2) rfl]
    simp only
    cases h2:numP y1.2 with
    | none => rfl
    | some y2 =>
      rw [bindP_some (a := y2.1) (r := y2.2) rfl]
      simp only
      cases h3:numP y2.2 with
      | none => rfl
      | some y3 =>
        rw [bindP_some (a := y3.1) (r := y3.2) rfl]
        simp only
        cases h4:numP y3.2 with
        | none => rfl
        | some y4 => rfl
theorem p6_list (l:List UInt8):p6 l = bindP (listP numP 6 l) fun v r => some (i6L v,r) := by
  unfold p6
  simp only [listP]
  cases h1:numP l with
  | none => rfl
  | some y1 =>
    rw [bindP_some (a := y1.1) (r := y1.2) rfl]
    simp only
    cases h2:numP y1.2 with
    | none => rfl
    | some y2 =>
      rw [bindP_some (a := y2.1) (r := y2.2) rfl]
      simp only
      cases h3:numP y2.2 with
      | none => rfl
      | some y3 =>
        rw [bindP_some (a := y3.1) (r := y3.2) rfl]
        simp only
        cases h4:numP y3.2 with
        | none => rfl
        | some y4 =>
          rw [bindP_some (a := y4.1) (r := y4.2) rfl]
          simp only
          cases h5:numP y4.2 with
          | none => rfl
          | some y5 =>
            rw [bindP_some (a := y5.1) (r := y5.2) rfl]
            simp only
            cases h6:numP y5.2 with
            | none => rfl
            | some y6 => rfl
theorem PX.p4 {b:List UInt8} {a:Nat} {o:Bool} {a':Nat} {o':Bool} {v:List Int} (h:PX (listP numP 4) b a o a' o' v):PX p4 b a o a' o' (i4L v) := ⟨h.ha,by rw [p4_list]; exact h.bind _⟩
theorem PX.p6 {b:List UInt8} {a:Nat} {o:Bool} {a':Nat} {o':Bool} {v:List Int} (h:PX (listP numP 6) b a o a' o' v):PX p6 b a o a' o' (i6L v) := ⟨h.ha,by rw [p6_list]; exact h.bind _⟩
theorem PX.fn {b:List UInt8} {a o a1 o1 sl a2 o2 m a3 o3 code} (g1:PX numP b a o a1 o1 sl) (g2:PX cntP b a1 o1 a2 o2 m) (g3:PX (listP Go.Proofs.Ytoglbmhkfkghbaa.p4 m) b a2 o2 a3 o3 code):PX funP b a o a3 o3 ⟨sl,code⟩ :=
  ⟨g3.ha,by unfold funP; exact (g1.bind _).trans ((g2.bind _).trans (g3.bind _))⟩
theorem PX.kn {b:List UInt8} {a o a1 o1 sl a2 o2 m a3 o3 code a4 o4 re a5 o5 at_} (g1:PX numP b a o a1 o1 sl) (g2:PX cntP b a1 o1 a2 o2 m) (g3:PX (listP Go.Proofs.Ytoglbmhkfkghbaa.p4 m) b a2 o2 a3 o3 code) (g4:PX numP b a3 o3 a4 o4 re) (g5:PX numP b a4 o4 a5 o5 at_):PX kerP b a o a5 o5 ⟨sl,code,re,at_⟩ :=
  ⟨g5.ha,by unfold kerP; exact (g1.bind _).trans ((g2.bind _).trans ((g3.bind _).trans ((g4.bind _).trans (g5.bind _))))⟩
theorem PX.ln {b:List UInt8} {a o a1 o1 sl a2 o2 m a3 o3 code} (g1:PX numP b a o a1 o1 sl) (g2:PX cntP b a1 o1 a2 o2 m) (g3:PX (listP Go.Proofs.Ytoglbmhkfkghbaa.p6 m) b a2 o2 a3 o3 code):PX lanP b a o a3 o3 ⟨sl,code⟩ :=
  ⟨g3.ha,by unfold lanP; exact (g1.bind _).trans ((g2.bind _).trans (g3.bind _))⟩
theorem app_z (v z:List Int) (zs:List (List D)) (hz:∀ k,k < z.length→zs.getD k [] = [.int .i64 (z.getD k 0)]) {i:Nat} (hi:i < v.length + z.length):appF v.length (fun i => [.int .i64 (v.getD i 0)]) (fun i => zs.getD i []) i = [.int .i64 ((v ++ z).getD i 0)] := by
  simp only [appF]
  split
  · rename_i hlt
    simp [List.getD_eq_getElem?_getD,List.getElem?_append_left hlt]
  · rename_i hge
    rw [hz _ (by omega)]
    simp [List.getD_eq_getElem?_getD,List.getElem?_append_right (Nat.le_of_not_lt hge)]
theorem hz4:∀ k,k < [(0:Int),0,0,0].length→[[D.int .i64 0],[D.int .i64 0],[D.int .i64 0],[D.int .i64 0]].getD k [] = [.int .i64 ([(0:Int),0,0,0].getD k 0)] := by
  intro k hk
  rcases k with _ | _ | _ | _ | k
  · rfl
  · rfl
  · rfl
  · rfl
  · simp at hk; omega
theorem hz6:∀ k,k < [(0:Int),0,0,0,0,0].length→[[D.int .i64 0],[D.int .i64 0],[D.int .i64 0],[D.int .i64 0],[D.int .i64 0],[D.int .i64 0]].getD k [] = [.int .i64 ([(0:Int),0,0,0,0,0].getD k 0)] := by
  intro k hk
  rcases k with _ | _ | _ | _ | _ | _ | k
  · rfl
  · rfl
  · rfl
  · rfl
  · rfl
  · rfl
  · simp at hk; omega
abbrev CZ := List Arr × List FnD × List KeD × List LaD
def _root_.Go.Ab.endXc (x:Nat) (b:List UInt8) (at_:Nat) (ok:Bool) (e:AEnd) (S:St):Prop :=
  match e with
  | .ret d' => ∃ y:Nat × Bool × CZ,PX codP b at_ ok y.1 y.2.1 ⟨y.2.2.1,y.2.2.2.1,y.2.2.2.2.1,y.2.2.2.2.2⟩∧weakD d' (.agg [gsl 4 Arr.row1 y.2.2.1,gsl 2 FnD.row y.2.2.2.1,gsl 4 KeD.row y.2.2.2.2.1,gsl 2 LaD.row y.2.2.2.2.2])∧leS (stX 0 x b y.1 y.2.1) S
  | .pan _ => False
noncomputable def Edcd (b:List UInt8):Senv := { EC conDz 226 1 [2,3,4,5,6,7,8,9,10,11,12,13,14,15,16,17,18,19,20,32,52,68,109,125,172,188] (fun id => match id with | 6 => ([0,1,2,3,4,5,6,7],[3,4,5,7]) | 17 => ([0,1,2,3,4,5,6,7,8,9,10,11,12,13,14,15,16,17,18],[15,16,18]) | 29 => ([0,1,2,3,4,5,6,7,8,9,10,11,12,13,14,15,16,17,18],[15,16,18]) | 43 => ([0,1,2,3,4,5,6,7,8,9,10,11,12,13,14,15,16,17,18,19,20,21,22,23,24],[21,22,24]) | _ => ([],[])) with
  inl := inlM conDz 18
  gh := fun b => match b with
    | 0 => [.cell 2 400]
    | 2 => [.cell 2 201]
    | 4 => [.cell 3 401]
    | 6 => [.cell 2 402]
    | 8 => [.cell 3 401]
    | 10 => [.cell 2 203]
    | 12 => [.cell 3 601]
    | _ => []
  cut := fun id _ S => match id with
    | 16 => some { slots := [10],keep := [],α := Nat × Bool × List Int,st := fun y => ([isl y.2.2 .any],⟨setO S.objs 0 (.cells [bsl b .any,.int .i64 (y.1:Int),.bool y.2.1]),S.toks⟩),inv := fun y => 4 ≤ y.2.2.length∧PX p4 b (axL S.objs) (oxL S.objs) y.1 y.2.1 (I4.mk (y.2.2.getD 0 0) (y.2.2.getD 1 0) (y.2.2.getD 2 0) (y.2.2.getD 3 0)),mu := fun _ => 0 }
    | 28 => some { slots := [15],keep := [],α := Nat × Bool × List Int,st := fun y => ([isl y.2.2 .any],⟨setO S.objs 0 (.cells [bsl b .any,.int .i64 (y.1:Int),.bool y.2.1]),S.toks⟩),inv := fun y => 4 ≤ y.2.2.length∧PX p4 b (axL S.objs) (oxL S.objs) y.1 y.2.1 (I4.mk (y.2.2.getD 0 0) (y.2.2.getD 1 0) (y.2.2.getD 2 0) (y.2.2.getD 3 0)),mu := fun _ => 0 }
    | 42 => some { slots := [20],keep := [],α := Nat × Bool × List Int,st := fun y => ([isl y.2.2 .any],⟨setO S.objs 0 (.cells [bsl b .any,.int .i64 (y.1:Int),.bool y.2.1]),S.toks⟩),inv := fun y => 6 ≤ y.2.2.length∧PX p6 b (axL S.objs) (oxL S.objs) y.1 y.2.1 (I6.mk (y.2.2.getD 0 0) (y.2.2.getD 1 0) (y.2.2.getD 2 0) (y.2.2.getD 3 0) (y.2.2.getD 4 0) (y.2.2.getD 5 0)),mu := fun _ => 0 }
    | _ => none
  ann := fun k env S => match k with
    | 0 => some { slots := [5],keep := [0,2,3,4],α := Nat × Nat × List Arr × Nat × Bool,st := fun y => ([.int .i64 y.1],⟨setO (putC S.objs 2 0 (.sl 4 y.2.2.1.length (fun i => (y.2.2.1.getD i default).row1) (.tok 0 y.2.1))) 0 (.cells [bsl b .any,.int .i64 (y.2.2.2.1:Int),.bool y.2.2.2.2]),[(0,y.2.1)]⟩),inv := fun y => LX (arrP 17) (natOfR (Ab.look env 4)) b (axL S.objs) (oxL S.objs) y.1 y.2.2.1 y.2.2.2.1 y.2.2.2.2,mu := fun y => natOfR (Ab.look env 4) - y.1 }
    | 2 => some { slots := [6],keep := [0,2,3,4],α := Nat × Nat × List FnD × Nat × Bool,st := fun y => ([.int .i64 y.1],⟨setO (putC S.objs 2 1 (.sl 2 y.2.2.1.length (fun i => FnD.row (y.2.2.1.getD i default)) (.tok 1 y.2.1))) 0 (.cells [bsl b .any,.int .i64 (y.2.2.2.1:Int),.bool y.2.2.2.2]),(1,y.2.1) :: S.toks.tail⟩),inv := fun y => LX funP (natOfR (Ab.look env 4)) b (axL S.objs) (oxL S.objs) y.1 y.2.2.1 y.2.2.2.1 y.2.2.2.2,mu := fun y => natOfR (Ab.look env 4) - y.1 }
    | 4 => some { slots := [9],keep := [0,2,3,4,6,7,8],α := Nat × Nat × List I4 × Nat × Bool,st := fun y => ([.int .i64 y.1],⟨setO (putC S.objs 3 1 (.sl 4 y.2.2.1.length (fun i => I4.row (y.2.2.1.getD i default)) (.tok 2 y.2.1))) 0 (.cells [bsl b .any,.int .i64 (y.2.2.2.1:Int),.bool y.2.2.2.2]),(2,y.2.1) :: S.toks.tail⟩),inv := fun y => LX p4 (natOfR (Ab.look env 8)) b (axL S.objs) (oxL S.objs) y.1 y.2.2.1 y.2.2.2.1 y.2.2.2.2,mu := fun y => natOfR (Ab.look env 8) - y.1 }
    | 6 => some { slots := [11],keep := [0,2,3,4],α := Nat × Nat × List KeD × Nat × Bool,st := fun y => ([.int .i64 y.1],⟨setO (putC S.objs 2 2 (.sl 4 y.2.2.1.length (fun i => KeD.row (y.2.2.1.getD i default)) (.tok 2 y.2.1))) 0 (.cells [bsl b .any,.int .i64 (y.2.2.2.1:Int),.bool y.2.2.2.2]),(2,y.2.1) :: S.toks.tail⟩),inv := fun y => LX kerP (natOfR (Ab.look env 4)) b (axL S.objs) (oxL S.objs) y.1 y.2.2.1 y.2.2.2.1 y.2.2.2.2,mu := fun y => natOfR (Ab.look env 4) - y.1 }
    | 8 => some { slots := [14],keep := [0,2,3,4,11,12,13],α := Nat × Nat × List I4 × Nat × Bool,st := fun y => ([.int .i64 y.1],⟨setO (putC S.objs 3 1 (.sl 4 y.2.2.1.length (fun i => I4.row (y.2.2.1.getD i default)) (.tok 3 y.2.1))) 0 (.cells [bsl b .any,.int .i64 (y.2.2.2.1:Int),.bool y.2.2.2.2]),(3,y.2.1) :: S.toks.tail⟩),inv := fun y => LX p4 (natOfR (Ab.look env 13)) b (axL S.objs) (oxL S.objs) y.1 y.2.2.1 y.2.2.2.1 y.2.2.2.2,mu := fun y => natOfR (Ab.look env 13) - y.1 }
    | 10 => some { slots := [16],keep := [0,2,3,4],α := Nat × Nat × List LaD × Nat × Bool,st := fun y => ([.int .i64 y.1],⟨setO (putC S.objs 2 3 (.sl 2 y.2.2.1.length (fun i => LaD.row (y.2.2.1.getD i default)) (.tok 3 y.2.1))) 0 (.cells [bsl b .any,.int .i64 (y.2.2.2.1:Int),.bool y.2.2.2.2]),(3,y.2.1) :: S.toks.tail⟩),inv := fun y => LX lanP (natOfR (Ab.look env 4)) b (axL S.objs) (oxL S.objs) y.1 y.2.2.1 y.2.2.2.1 y.2.2.2.2,mu := fun y => natOfR (Ab.look env 4) - y.1 }
    | 12 => some { slots := [19],keep := [0,2,3,4,16,17,18],α := Nat × Nat × List I6 × Nat × Bool,st := fun y => ([.int .i64 y.1],⟨setO (putC S.objs 3 1 (.sl 6 y.2.2.1.length (fun i => I6.row (y.2.2.1.getD i default)) (.tok 4 y.2.1))) 0 (.cells [bsl b .any,.int .i64 (y.2.2.2.1:Int),.bool y.2.2.2.2]),(4,y.2.1) :: S.toks.tail⟩),inv := fun y => LX p6 (natOfR (Ab.look env 18)) b (axL S.objs) (oxL S.objs) y.1 y.2.2.1 y.2.2.2.1 y.2.2.2.2,mu := fun y => natOfR (Ab.look env 18) - y.1 }
    | _ => none
  bcut := fun k env S => match k with
    | 4 => some { slots := [],keep := [0,2,3,4,6,7],α := List I4 × Nat × Bool,st := fun y => ([],⟨setO (putC S.objs 3 1 (gsl 4 I4.row y.1)) 0 (.cells [bsl b .any,.int .i64 (y.2.1:Int),.bool y.2.2]),S.toks⟩),inv := fun y => PX (listP p4 (natOfR (Ab.look env 8))) b (axL S.objs) (oxL S.objs) y.2.1 y.2.2 y.1,mu := fun _ => 0 }
    | 8 => some { slots := [],keep := [0,2,3,4,11,12],α := List I4 × Nat × Bool,st := fun y => ([],⟨setO (putC S.objs 3 1 (gsl 4 I4.row y.1)) 0 (.cells [bsl b .any,.int .i64 (y.2.1:Int),.bool y.2.2]),S.toks⟩),inv := fun y => PX (listP p4 (natOfR (Ab.look env 13))) b (axL S.objs) (oxL S.objs) y.2.1 y.2.2 y.1,mu := fun _ => 0 }
    | 12 => some { slots := [],keep := [0,2,3,4,16,17],α := List I6 × Nat × Bool,st := fun y => ([],⟨setO (putC S.objs 3 1 (gsl 6 I6.row y.1)) 0 (.cells [bsl b .any,.int .i64 (y.2.1:Int),.bool y.2.2]),S.toks⟩),inv := fun y => PX (listP p6 (natOfR (Ab.look env 18))) b (axL S.objs) (oxL S.objs) y.2.1 y.2.2 y.1,mu := fun _ => 0 }
    | _ => none }
theorem darr18:1 ≤ 18→DOk 51 [.int .i64 (18 - ((18:Nat):Int))] (arrP (18 - 1)) (fun _ => True) (fun a => .agg a.row1) := fun _ => darr_d 17 (by omega)
noncomputable section
def dn5q0 (p0:List UInt8) (p1:Nat):List D := [ZB (BI p0 p1)]
def dn5q1 (p0:Nat):Nat := Int.toNat (↑p0:Int)
def dn5q2 (p0:List UInt8):List UInt8 := bytesOf (LN p0) fun (i:Nat) => dn5q0 p0 i
def dn5q3 (p0:Nat) (p1:List UInt8) (p2:Nat) (p3:Bool):Prop := SM p0∧(rowsB (LN p1) fun (i:Nat) => dn5q0 p1 i) = true∧LN p1 ≤ (4294967296:Nat)∧(Z0 ≤ (↑p2:Int)∧dn5q1 p2 ≤ LN p1)∧(SM p0∧((LN p1 = LN (dn5q2 p1)∧(∀ (i:Nat),i < LN p1→dn5q0 p1 i = [ZB (BI (dn5q2 p1) i)])∧True)∧(↑p2:Int) = (NI (dn5q1 p2))∧SM p3∧True)∧True)∧True
def dn5q4 (p0:List UInt8) (p1:Nat) (p2:Bool) (p3:Nat) (p4:Bool) (p5:Nat):Prop := PX cntP (dn5q2 p0) (dn5q1 p1) p2 p3 p4 p5
def dn5q5 (p0:Nat):Nat := natOfR (ZI (↑p0:Int))
def dn5q6 (p0:Nat) (p1:List UInt8) (p2:Nat) (p3:Bool) (p4:Nat) (p5:List Arr) (p6:Nat) (p7:Bool):Prop := LX (arrP (17:Nat)) (dn5q5 p0) p1 (dn5q1 p2) p3 p4 p5 p6 p7
def dn5q7 (p0:Nat):Prop := Z0 = (↑p0:Int)∧True
def dn5q8 (p0:List UInt8) (p1 p2:Nat) (p3 p4:Bool):Prop := (SM (LN p0)∧(∀ (i:Nat),i < LN p0→SM (dn5q0 p0 i))∧True)∧(↑p1:Int) = (↑p2:Int)∧p3 = p4∧True
def dn5q9:Arr := DA
def dn5q10 (p0:List Arr) (p1:Nat):Arr := List.getD p0 p1 dn5q9
def dn5q11 (p0:List Arr) (p1:Nat):List Int := Arr.sh (dn5q10 p0 p1)
def dn5q12 (p0:List Arr) (p1:Nat):List Int := Arr.nu (dn5q10 p0 p1)
def dn5q13 (p0:List Arr) (p1:Nat):List Arr := Arr.it (dn5q10 p0 p1)
def dn5q14 (p0:List Arr) (p1:Nat):List D := [ZI (Arr.k (dn5q10 p0 p1)),SI (dn5q11 p0 p1),SI (dn5q12 p0 p1),D.sl N4 (LN (dn5q13 p0 p1)) (fun (i:Nat) => Arr.row (List.getD (dn5q13 p0 p1) i dn5q9)) Mode.any]
def dn5q15:Prop := SM N0∧(∀ (i:Nat),i < N0→eqOf (List D) [] [])∧True
def dn5q16:Prop := dn5q15∧True
def dn5q17:Prop := dn5q15∧dn5q16
def dn5q18:Prop := dn5q15∧dn5q17
def dn5q19 (p0:Nat):Prop := SM p0∧(dn5q15∧dn5q18)∧True
def dn5q20 (p0 p1:Nat) (p2:Bool):Bool := bif decide ((↑p0:Int) < (↑p1:Int)) then p2 else false
def dn5q21 (p0 p1 p2:Nat) (p3:Bool):Prop := ifB (decide ((↑p0:Int) < (↑p1:Int))) (SM p2∧p3 = dn5q20 p0 p1 p3∧True) (false = dn5q20 p0 p1 p3∧True)
def dn5q22 (p0:List Arr) (p1:Nat):D := D.sl N4 (LN p0) (fun (i:Nat) => dn5q14 p0 i) (Mode.tok N0 p1)
def dn5q23 (p0:Nat) (p1:List Arr) (p2:Nat):Prop := SM p0∧SM (dn5q22 p1 p2)
def dn5q24 (p0:Nat):Prop := SM (D.ref N0 p0 N0)
def dn5q25 (p0:Nat):Prop := SM (D.ref N1 p0 N0)
def dn5q26 (p0:Nat):Prop := SM (D.ref N2 p0 N0)
def dn5q27 (p0:Nat):Prop := SM (ZI (↑p0:Int))
def dn5q28 (p0 p1 p2 p3:Nat):Prop := dn5q24 p0∧dn5q25 p1∧dn5q26 p2∧dn5q27 p3∧True
def dn5q29 (p0 p1 p2:Nat):Prop := dn5q5 p0 - p1 < dn5q5 p0 - p2
def dn5q30 (p0 p1:Nat):Prop := IntKind.wrap IntKind.i64 ((↑p0:Int) + Z1) = (↑p1:Int)∧True
def dn5q31 (p0:Nat) (p1:List UInt8) (p2:Nat) (p3:Bool) (p4:Nat) (p5:List FnD) (p6:Nat) (p7:Bool):Prop := LX funP (dn5q5 p0) p1 (dn5q1 p2) p3 p4 p5 p6 p7
def dn5q32 (p0:List Arr) (p1:Nat):Prop := SM (LN p0)∧(∀ (i:Nat),i < LN p0→SM (dn5q14 p0 i))∧SM p1
def dn5q33 (p0:List FnD) (p1:Nat):List I4 := FnD.code (List.getD p0 p1 DF)
def dn5q34:I4 := D4
def dn5q35 (p0:List FnD) (p1 p2:Nat):I4 := List.getD (dn5q33 p0 p1) p2 dn5q34
def dn5q36 (p0:List FnD) (p1:Nat):List D := [ZI (FnD.slots (List.getD p0 p1 DF)),D.sl N4 (LN (dn5q33 p0 p1)) (fun (i:Nat) => (R4 (dn5q35 p0 p1 i))) Mode.any]
def dn5q37 (p0:List UInt8) (p1:Nat) (p2:Bool) (p3:Nat) (p4:Bool) (p5:Int):Prop := PX numP (dn5q2 p0) (dn5q1 p1) p2 p3 p4 p5
def dn5q38 (p0:Nat) (p1:List UInt8) (p2:Nat) (p3:Bool) (p4:Nat) (p5:List I4) (p6:Nat) (p7:Bool):Prop := LX Ytoglbmhkfkghbaa.p4 (dn5q5 p0) p1 (dn5q1 p2) p3 p4 p5 p6 p7
def dn5q39 (p0:List I4) (p1:Nat):I4 := List.getD p0 p1 dn5q34
def dn5q40 (p0:List I4) (p1:Nat):List D := (R4 (dn5q39 p0 p1))
def dn5q41 (p0:List I4) (p1 p2:Nat):Prop := N0 = LN p0∧(∀ (i:Nat),i < N0→eqOf (List D) [] (dn5q40 p0 i))∧p1 = p2
def dn5q42 (p0:List FnD) (p1:Nat):Prop := SM (LN p0)∧(∀ (i:Nat),i < LN p0→SM (dn5q36 p0 i))∧SM p1
def dn5q43 (p0:Nat) (p1:List Arr) (p2:Nat) (p3:List FnD) (p4 p5:Nat):Prop := SM p0∧(dn5q32 p1 p2∧dn5q42 p3 p4∧dn5q17)∧dn5q19 p5
def dn5q44 (p0:List UInt8) (p1:Nat) (p2:Bool) (p3:Nat) (p4:Bool) (p5:List Int):Prop := PX (listP numP N4) (dn5q2 p0) (dn5q1 p1) p2 p3 p4 p5
def dn5q45 (p0:List Int) (p1:List UInt8) (p2:Nat) (p3:Bool) (p4:Nat) (p5:Bool):Prop := N4 ≤ LN p0∧PX Ytoglbmhkfkghbaa.p4 p1 (dn5q1 p2) p3 p4 p5 (I4.mk (GI p0 N0) (GI p0 N1) (GI p0 N2) (GI p0 (3:Nat)))
def dn5q46 (p0:List Int) (p1:Nat):List D := [ZI (GI p0 p1)]
def dn5q47:List D := [ZI Z0]
def dn5q48:List (List D) := [dn5q47,dn5q47,dn5q47,dn5q47]
def dn5q49 (p0 p1:List Int):Prop := (LN p0 + N4 = LN p1∧(∀ (i:Nat),i < LN p0 + N4→appF (LN p0) (fun (i:Nat) => dn5q46 p0 i) (fun (i:Nat) => List.getD dn5q48 i []) i = dn5q46 p1 i)∧True)∧True
def dn5q50 (p0:List I4) (p1:Nat):Prop := SM (LN p0)∧(∀ (i:Nat),i < LN p0→SM (dn5q40 p0 i))∧SM p1
def dn5q51 (p0 p1 p2:Nat):Prop := SM p0∧SM p1∧SM p2∧True
def dn5q52 (p0:List I4) (p1:Nat):D := D.sl N4 (LN p0) (fun (i:Nat) => dn5q40 p0 i) (Mode.tok N2 p1)
def dn5q53 (p0:Nat):Prop := SM (D.ref (max N1 (max (N2 + N1) N2)) p0 N0)
def dn5q54 (p0 p1 p2 p3 p4 p5 p6:Nat):Prop := dn5q24 p0∧dn5q25 p1∧dn5q26 p2∧dn5q27 p3∧dn5q27 p4∧dn5q53 p5∧dn5q27 p6∧True
def dn5q55 (p0 p1:List I4) (p2:List Int) (p3 p4:Nat):Prop := LN p0 + N1 = LN p1∧(∀ (i:Nat),i < LN p0 + N1→appF (LN p0) (fun (i:Nat) => dn5q40 p0 i) (fun (i:Nat) => List.getD [[ZI (GI p2 N0),ZI (GI p2 N1),ZI (GI p2 N2),ZI (GI p2 (3:Nat))]] i []) i = dn5q40 p1 i)∧p3 = p4
def dn5q56 (p0 p1 p2 p3 p4 p5:Nat):Prop := dn5q24 p0∧dn5q25 p1∧dn5q26 p2∧dn5q27 p3∧dn5q27 p4∧dn5q53 p5∧True
def dn5q57 (p0:Nat) (p1:List UInt8) (p2:Nat) (p3:Bool) (p4:Nat) (p5:Bool) (p6:List I4):Prop := PX (listP Ytoglbmhkfkghbaa.p4 (dn5q5 p0)) p1 (dn5q1 p2) p3 p4 p5 p6
def dn5q58 (p0 p1:List I4):Prop := LN p0 = LN p1∧(∀ (i:Nat),i < LN p0→dn5q40 p0 i = dn5q40 p1 i)∧True
def dn5q59 (p0:List I4):D := D.sl N4 (LN p0) (fun (i:Nat) => dn5q40 p0 i) Mode.any
def dn5q60 (p0:Nat) (p1:List UInt8) (p2:Nat) (p3:Bool) (p4:Nat) (p5:List KeD) (p6:Nat) (p7:Bool):Prop := LX kerP (dn5q5 p0) p1 (dn5q1 p2) p3 p4 p5 p6 p7
def dn5q61 (p0:List KeD) (p1:Nat):KeD := List.getD p0 p1 DK
def dn5q62 (p0:List KeD) (p1:Nat):List I4 := KeD.ops (dn5q61 p0 p1)
def dn5q63 (p0:List KeD) (p1 p2:Nat):I4 := List.getD (dn5q62 p0 p1) p2 dn5q34
def dn5q64 (p0:List KeD) (p1:Nat):List D := [ZI (KeD.inputs (dn5q61 p0 p1)),D.sl N4 (LN (dn5q62 p0 p1)) (fun (i:Nat) => (R4 (dn5q63 p0 p1 i))) Mode.any,ZI (KeD.reduce (dn5q61 p0 p1)),ZI (KeD.at_ (dn5q61 p0 p1))]
def dn5q65:Prop := SM Z0∧SM Z0∧True
def dn5q66 (p0:List KeD) (p1:Nat):Prop := SM (LN p0)∧(∀ (i:Nat),i < LN p0→SM (dn5q64 p0 i))∧SM p1
def dn5q67 (p0:Nat) (p1:List Arr) (p2:Nat) (p3:List FnD) (p4:Nat) (p5:List KeD) (p6 p7:Nat):Prop := SM p0∧(dn5q32 p1 p2∧dn5q42 p3 p4∧dn5q66 p5 p6∧dn5q16)∧dn5q19 p7
def dn5q68 (p0 p1 p2 p3 p4:Nat):Prop := p0 = p1∧dn5q51 p2 p3 p4
def dn5q69 (p0 p1 p2 p3:Nat):Prop := SM p0∧dn5q51 p1 p2 p3
def dn5q70 (p0:List I4) (p1:Nat):D := D.sl N4 (LN p0) (fun (i:Nat) => dn5q40 p0 i) (Mode.tok (3:Nat) p1)
def dn5q71 (p0:Nat) (p1:List UInt8) (p2:Nat) (p3:Bool) (p4:Nat) (p5:List LaD) (p6:Nat) (p7:Bool):Prop := LX lanP (dn5q5 p0) p1 (dn5q1 p2) p3 p4 p5 p6 p7
def dn5q72 (p0:List LaD) (p1:Nat):List I6 := LaD.code (List.getD p0 p1 DL)
def dn5q73:I6 := D6
def dn5q74 (p0:List LaD) (p1 p2:Nat):I6 := List.getD (dn5q72 p0 p1) p2 dn5q73
def dn5q75 (p0:List LaD) (p1:Nat):List D := [ZI (LaD.regs (List.getD p0 p1 DL)),D.sl N6 (LN (dn5q72 p0 p1)) (fun (i:Nat) => (R6 (dn5q74 p0 p1 i))) Mode.any]
def dn5q76 (p0:Nat) (p1:List UInt8) (p2:Nat) (p3:Bool) (p4:Nat) (p5:List I6) (p6:Nat) (p7:Bool):Prop := LX Ytoglbmhkfkghbaa.p6 (dn5q5 p0) p1 (dn5q1 p2) p3 p4 p5 p6 p7
def dn5q77 (p0:List I6) (p1:Nat):I6 := List.getD p0 p1 dn5q73
def dn5q78 (p0:List I6) (p1:Nat):List D := (R6 (dn5q77 p0 p1))
def dn5q79 (p0:Nat) (p1:List Arr) (p2:Nat) (p3:List FnD) (p4:Nat) (p5:List KeD) (p6:Nat) (p7:List LaD) (p8 p9:Nat):Prop := SM p0∧(dn5q32 p1 p2∧dn5q42 p3 p4∧dn5q66 p5 p6∧(SM (LN p7)∧(∀ (i:Nat),i < LN p7→SM (dn5q75 p7 i))∧SM p8)∧True)∧dn5q19 p9
def dn5q80 (p0:List Int) (p1:List UInt8) (p2:Nat) (p3:Bool) (p4:Nat) (p5:Bool):Prop := N6 ≤ LN p0∧PX p6 p1 (dn5q1 p2) p3 p4 p5 (I6.mk (GI p0 N0) (GI p0 N1) (GI p0 N2) (GI p0 (3:Nat)) (GI p0 N4) (GI p0 (5:Nat)))
def dn5q81 (p0:List I6) (p1:Nat):D := D.sl N6 (LN p0) (fun (i:Nat) => dn5q78 p0 i) (Mode.tok N4 p1)
end
theorem dcod_c (x : Nat) (b : List UInt8) (at_ : Nat) (ok : Bool) (hb : b.length ≤ 4294967296) (ha : at_ ≤ b.length) :
    ACalls Try.prog 27 [.ref 0 x 0] (stX 0 x b at_ ok) (endXc x b at_ ok) := by
  refine call_of (E := Edcd b) (erOk conDz_ok (inlM_ok conDz_ok darr18) rfl) Try.func27 rfl (by kernel_rfl) rfl (by simp [Edcd,EC,E0]) ?_
  refine vc_eq (T :=
    ∀ (x_1:Nat),x ≠ x_1∧True→∀ (x_2:Nat),x_1 ≠ x_2∧x ≠ x_2∧True→SM x_2∧dn5q3 x b at_ ok∧∀ (a':Nat) (o':Bool) (v:Nat),dn5q4 b at_ ok a' o' v→v ≤ (4294967296:Nat)→∀ (t:Nat),(∃ (x_3:Nat × Nat × List Arr × Nat × Bool),dn5q6 v b a' o' x_3.1 x_3.2.2.1 x_3.2.2.2.1 x_3.2.2.2.2∧dn5q7 x_3.1∧(SM x∧dn5q8 b a' x_3.2.2.2.1 o' x_3.2.2.2.2∧SM x_2∧((N0 = LN x_3.2.2.1∧(∀ (i:Nat),i < N0→eqOf (List D) [] (dn5q14 x_3.2.2.1 i))∧t = x_3.2.1)∧dn5q18)∧dn5q19 x_1)∧t = x_3.2.1∧True)∧∀ (x_3:Nat × Nat × List Arr × Nat × Bool),dn5q6 v b a' o' x_3.1 x_3.2.2.1 x_3.2.2.2.1 x_3.2.2.2.2→dn5q21 x_3.1 v x x_3.2.2.2.2∧ifB (dn5q20 x_3.1 v x_3.2.2.2.2) (SM x_2∧(N1 ≤ (18:Nat)∧SM Z0)∧dn5q3 x b x_3.2.2.2.1 x_3.2.2.2.2∧∀ (a'_1:Nat) (o'_1:Bool) (v_1:Arr),PX (arrP (17:Nat)) (dn5q2 b) (dn5q1 x_3.2.2.2.1) x_3.2.2.2.2 a'_1 o'_1 v_1→True→dn5q23 x_2 x_3.2.2.1 x_3.2.1∧dn5q23 x_2 x_3.2.2.1 x_3.2.1∧SM x_3.2.1∧side ((LN x_3.2.2.1 + N1) * (80:Nat) ≤ (140737488355328:Nat)∧LN x_3.2.2.1 + N1 ≤ (9223372036854775807:Nat)) (∀ (t:Nat),SM x_2∧dn5q28 x x_1 x_2 v∧∃ (y:Nat × Nat × List Arr × Nat × Bool),dn5q6 v b a' o' y.1 y.2.2.1 y.2.2.2.1 y.2.2.2.2∧dn5q29 v y.1 x_3.1∧dn5q30 x_3.1 y.1∧(SM x∧dn5q8 b a'_1 y.2.2.2.1 o'_1 y.2.2.2.2∧SM x_2∧((LN x_3.2.2.1 + N1 = LN y.2.2.1∧(∀ (i:Nat),i < LN x_3.2.2.1 + N1→appF (LN x_3.2.2.1) (fun (i:Nat) => dn5q14 x_3.2.2.1 i) (fun (i:Nat) => List.getD [[ZI (Arr.k v_1),SI (Arr.sh v_1),SI (Arr.nu v_1),D.sl N4 (LN (Arr.it v_1)) (fun (i:Nat) => Arr.row (List.getD (Arr.it v_1) i dn5q9)) Mode.any]] i []) i = dn5q14 y.2.2.1 i)∧t = y.2.1)∧dn5q18)∧dn5q19 x_1)∧t = y.2.1∧True)) (dn5q3 x b x_3.2.2.2.1 x_3.2.2.2.2∧∀ (a':Nat) (o':Bool) (v:Nat),dn5q4 b x_3.2.2.2.1 x_3.2.2.2.2 a' o' v→v ≤ (4294967296:Nat)→∀ (t:Nat),(∃ (x_4:Nat × Nat × List FnD × Nat × Bool),dn5q31 v b a' o' x_4.1 x_4.2.2.1 x_4.2.2.2.1 x_4.2.2.2.2∧dn5q7 x_4.1∧(SM x∧dn5q8 b a' x_4.2.2.2.1 o' x_4.2.2.2.2∧SM x_2∧(dn5q32 x_3.2.2.1 x_3.2.1∧(N0 = LN x_4.2.2.1∧(∀ (i:Nat),i < N0→eqOf (List D) [] (dn5q36 x_4.2.2.1 i))∧t = x_4.2.1)∧dn5q17)∧dn5q19 x_1)∧t = x_4.2.1∧SM x_3.2.1∧True)∧∀ (x_4:Nat × Nat × List FnD × Nat × Bool),dn5q31 v b a' o' x_4.1 x_4.2.2.1 x_4.2.2.2.1 x_4.2.2.2.2→dn5q21 x_4.1 v x x_4.2.2.2.2∧ifB (dn5q20 x_4.1 v x_4.2.2.2.2) (dn5q3 x b x_4.2.2.2.1 x_4.2.2.2.2∧∀ (a'_1:Nat) (o'_1:Bool) (v_1:Int),dn5q37 b x_4.2.2.2.1 x_4.2.2.2.2 a'_1 o'_1 v_1→True→∀ (x_5:Nat),x ≠ x_5∧x_2 ≠ x_5∧x_1 ≠ x_5∧True→SM x_5∧dn5q3 x b a'_1 o'_1∧∀ (a'_2:Nat) (o'_2:Bool) (v_2:Nat),dn5q4 b a'_1 o'_1 a'_2 o'_2 v_2→v_2 ≤ (4294967296:Nat)→(∀ (t:Nat),(∃ (x_6:Nat × Nat × List I4 × Nat × Bool),dn5q38 v_2 b a'_2 o'_2 x_6.1 x_6.2.2.1 x_6.2.2.2.1 x_6.2.2.2.2∧dn5q7 x_6.1∧(SM x∧dn5q8 b a'_2 x_6.2.2.2.1 o'_2 x_6.2.2.2.2∧SM x_5∧(SM v_1∧dn5q41 x_6.2.2.1 t x_6.2.1∧True)∧dn5q43 x_2 x_3.2.2.1 x_3.2.1 x_4.2.2.1 x_4.2.1 x_1)∧t = x_6.2.1∧SM x_4.2.1∧SM x_3.2.1∧True)∧∀ (x_6:Nat × Nat × List I4 × Nat × Bool),dn5q38 v_2 b a'_2 o'_2 x_6.1 x_6.2.2.1 x_6.2.2.2.1 x_6.2.2.2.2→dn5q21 x_6.1 v_2 x x_6.2.2.2.2∧ifB (dn5q20 x_6.1 v_2 x_6.2.2.2.2) (((4:Int) ≤ (4294967296:Int)∧dn5q3 x b x_6.2.2.2.1 x_6.2.2.2.2∧∀ (a':Nat) (o':Bool) (v:List Int) (t:Nat),dn5q44 b x_6.2.2.2.1 x_6.2.2.2.2 a' o' v→qNs N4 o' v→SM t∧side ((LN v + N4) * (8:Nat) ≤ (140737488355328:Nat)∧LN v + N4 ≤ (9223372036854775807:Nat)) (∀ (t:Nat),∃ (x_7:Nat × Bool × List Int),dn5q45 x_7.2.2 b x_6.2.2.2.1 x_6.2.2.2.2 x_7.1 x_7.2.1∧dn5q49 v x_7.2.2∧(SM x∧dn5q8 b a' x_7.1 o' x_7.2.1∧SM x_5∧(SM v_1∧dn5q50 x_6.2.2.1 x_6.2.1∧True)∧dn5q43 x_2 x_3.2.2.1 x_3.2.1 x_4.2.2.1 x_4.2.1 x_1)∧dn5q51 x_6.2.1 x_4.2.1 x_3.2.1))∧∀ (x_7:Nat × Bool × List Int),dn5q45 x_7.2.2 b x_6.2.2.2.1 x_6.2.2.2.2 x_7.1 x_7.2.1→SM x_5∧side (Z0 ≤ Z0∧Z0 < (LI x_7.2.2)) (side (Z0 ≤ Z1∧Z1 < (LI x_7.2.2)) (side (Z0 ≤ (2:Int)∧(2:Int) < (LI x_7.2.2)) (side (Z0 ≤ (3:Int)∧(3:Int) < (LI x_7.2.2)) ((SM x_5∧SM (dn5q52 x_6.2.2.1 x_6.2.1))∧SM x_6.2.1∧side ((LN x_6.2.2.1 + N1) * (32:Nat) ≤ (140737488355328:Nat)∧LN x_6.2.2.1 + N1 ≤ (9223372036854775807:Nat)) (∀ (t:Nat),SM x_5∧dn5q54 x x_1 x_2 v x_4.1 x_5 v_2∧∃ (y:Nat × Nat × List I4 × Nat × Bool),dn5q38 v_2 b a'_2 o'_2 y.1 y.2.2.1 y.2.2.2.1 y.2.2.2.2∧dn5q29 v_2 y.1 x_6.1∧dn5q30 x_6.1 y.1∧(SM x∧dn5q8 b x_7.1 y.2.2.2.1 x_7.2.1 y.2.2.2.2∧SM x_5∧(SM v_1∧dn5q55 x_6.2.2.1 y.2.2.1 x_7.2.2 t y.2.1∧True)∧dn5q43 x_2 x_3.2.2.1 x_3.2.1 x_4.2.2.1 x_4.2.1 x_1)∧t = y.2.1∧SM x_4.2.1∧SM x_3.2.1∧True)))))) (dn5q56 x x_1 x_2 v x_4.1 x_5∧∃ (x_7:List I4 × Nat × Bool),dn5q57 v_2 b a'_2 o'_2 x_7.2.1 x_7.2.2 x_7.1∧True∧(SM x∧dn5q8 b x_6.2.2.2.1 x_7.2.1 x_6.2.2.2.2 x_7.2.2∧SM x_5∧(SM v_1∧dn5q58 x_6.2.2.1 x_7.1∧True)∧dn5q43 x_2 x_3.2.2.1 x_3.2.1 x_4.2.2.1 x_4.2.1 x_1)∧SM x_4.2.1∧SM x_3.2.1∧True))∧∀ (x_6:List I4 × Nat × Bool),dn5q57 v_2 b a'_2 o'_2 x_6.2.1 x_6.2.2 x_6.1→SM x_2∧SM x_5∧SM x_4.2.1∧side ((LN x_4.2.2.1 + N1) * (32:Nat) ≤ (140737488355328:Nat)∧LN x_4.2.2.1 + N1 ≤ (9223372036854775807:Nat)) (∀ (t:Nat),SM x_2∧dn5q28 x x_1 x_2 v∧∃ (y:Nat × Nat × List FnD × Nat × Bool),dn5q31 v b a' o' y.1 y.2.2.1 y.2.2.2.1 y.2.2.2.2∧dn5q29 v y.1 x_4.1∧dn5q30 x_4.1 y.1∧(SM x∧dn5q8 b x_6.2.1 y.2.2.2.1 x_6.2.2 y.2.2.2.2∧SM x_2∧(dn5q32 x_3.2.2.1 x_3.2.1∧(LN x_4.2.2.1 + N1 = LN y.2.2.1∧(∀ (i:Nat),i < LN x_4.2.2.1 + N1→appF (LN x_4.2.2.1) (fun (i:Nat) => dn5q36 x_4.2.2.1 i) (fun (i:Nat) => List.getD [[ZI v_1,dn5q59 x_6.1]] i []) i = dn5q36 y.2.2.1 i)∧t = y.2.1)∧dn5q17)∧dn5q19 x_1)∧t = y.2.1∧SM x_3.2.1∧True)) (dn5q3 x b x_4.2.2.2.1 x_4.2.2.2.2∧∀ (a':Nat) (o':Bool) (v:Nat),dn5q4 b x_4.2.2.2.1 x_4.2.2.2.2 a' o' v→v ≤ (4294967296:Nat)→∀ (t:Nat),(∃ (x_5:Nat × Nat × List KeD × Nat × Bool),dn5q60 v b a' o' x_5.1 x_5.2.2.1 x_5.2.2.2.1 x_5.2.2.2.2∧dn5q7 x_5.1∧(SM x∧dn5q8 b a' x_5.2.2.2.1 o' x_5.2.2.2.2∧SM x_2∧(dn5q32 x_3.2.2.1 x_3.2.1∧dn5q42 x_4.2.2.1 x_4.2.1∧(N0 = LN x_5.2.2.1∧(∀ (i:Nat),i < N0→eqOf (List D) [] (dn5q64 x_5.2.2.1 i))∧t = x_5.2.1)∧dn5q16)∧dn5q19 x_1)∧t = x_5.2.1∧SM x_4.2.1∧SM x_3.2.1∧True)∧∀ (x_5:Nat × Nat × List KeD × Nat × Bool),dn5q60 v b a' o' x_5.1 x_5.2.2.1 x_5.2.2.2.1 x_5.2.2.2.2→dn5q21 x_5.1 v x x_5.2.2.2.2∧ifB (dn5q20 x_5.1 v x_5.2.2.2.2) (dn5q3 x b x_5.2.2.2.1 x_5.2.2.2.2∧∀ (a'_1:Nat) (o'_1:Bool) (v_1:Int),dn5q37 b x_5.2.2.2.1 x_5.2.2.2.2 a'_1 o'_1 v_1→True→∀ (x_6:Nat),x ≠ x_6∧x_2 ≠ x_6∧x_1 ≠ x_6∧True→SM x_6∧dn5q3 x b a'_1 o'_1∧∀ (a'_2:Nat) (o'_2:Bool) (v_2:Nat),dn5q4 b a'_1 o'_1 a'_2 o'_2 v_2→v_2 ≤ (4294967296:Nat)→(∀ (t:Nat),(∃ (x_7:Nat × Nat × List I4 × Nat × Bool),dn5q38 v_2 b a'_2 o'_2 x_7.1 x_7.2.2.1 x_7.2.2.2.1 x_7.2.2.2.2∧dn5q7 x_7.1∧(SM x∧dn5q8 b a'_2 x_7.2.2.2.1 o'_2 x_7.2.2.2.2∧SM x_6∧(SM v_1∧dn5q41 x_7.2.2.1 t x_7.2.1∧dn5q65)∧dn5q67 x_2 x_3.2.2.1 x_3.2.1 x_4.2.2.1 x_4.2.1 x_5.2.2.1 x_5.2.1 x_1)∧dn5q68 t x_7.2.1 x_5.2.1 x_4.2.1 x_3.2.1)∧∀ (x_7:Nat × Nat × List I4 × Nat × Bool),dn5q38 v_2 b a'_2 o'_2 x_7.1 x_7.2.2.1 x_7.2.2.2.1 x_7.2.2.2.2→dn5q21 x_7.1 v_2 x x_7.2.2.2.2∧ifB (dn5q20 x_7.1 v_2 x_7.2.2.2.2) (((4:Int) ≤ (4294967296:Int)∧dn5q3 x b x_7.2.2.2.1 x_7.2.2.2.2∧∀ (a':Nat) (o':Bool) (v:List Int) (t:Nat),dn5q44 b x_7.2.2.2.1 x_7.2.2.2.2 a' o' v→qNs N4 o' v→SM t∧side ((LN v + N4) * (8:Nat) ≤ (140737488355328:Nat)∧LN v + N4 ≤ (9223372036854775807:Nat)) (∀ (t:Nat),∃ (x_8:Nat × Bool × List Int),dn5q45 x_8.2.2 b x_7.2.2.2.1 x_7.2.2.2.2 x_8.1 x_8.2.1∧dn5q49 v x_8.2.2∧(SM x∧dn5q8 b a' x_8.1 o' x_8.2.1∧SM x_6∧(SM v_1∧dn5q50 x_7.2.2.1 x_7.2.1∧dn5q65)∧dn5q67 x_2 x_3.2.2.1 x_3.2.1 x_4.2.2.1 x_4.2.1 x_5.2.2.1 x_5.2.1 x_1)∧dn5q69 x_7.2.1 x_5.2.1 x_4.2.1 x_3.2.1))∧∀ (x_8:Nat × Bool × List Int),dn5q45 x_8.2.2 b x_7.2.2.2.1 x_7.2.2.2.2 x_8.1 x_8.2.1→SM x_6∧side (Z0 ≤ Z0∧Z0 < (LI x_8.2.2)) (side (Z0 ≤ Z1∧Z1 < (LI x_8.2.2)) (side (Z0 ≤ (2:Int)∧(2:Int) < (LI x_8.2.2)) (side (Z0 ≤ (3:Int)∧(3:Int) < (LI x_8.2.2)) ((SM x_6∧SM (dn5q70 x_7.2.2.1 x_7.2.1))∧SM x_7.2.1∧side ((LN x_7.2.2.1 + N1) * (32:Nat) ≤ (140737488355328:Nat)∧LN x_7.2.2.1 + N1 ≤ (9223372036854775807:Nat)) (∀ (t:Nat),SM x_6∧dn5q54 x x_1 x_2 v x_5.1 x_6 v_2∧∃ (y:Nat × Nat × List I4 × Nat × Bool),dn5q38 v_2 b a'_2 o'_2 y.1 y.2.2.1 y.2.2.2.1 y.2.2.2.2∧dn5q29 v_2 y.1 x_7.1∧dn5q30 x_7.1 y.1∧(SM x∧dn5q8 b x_8.1 y.2.2.2.1 x_8.2.1 y.2.2.2.2∧SM x_6∧(SM v_1∧dn5q55 x_7.2.2.1 y.2.2.1 x_8.2.2 t y.2.1∧dn5q65)∧dn5q67 x_2 x_3.2.2.1 x_3.2.1 x_4.2.2.1 x_4.2.1 x_5.2.2.1 x_5.2.1 x_1)∧dn5q68 t y.2.1 x_5.2.1 x_4.2.1 x_3.2.1)))))) (dn5q56 x x_1 x_2 v x_5.1 x_6∧∃ (x_8:List I4 × Nat × Bool),dn5q57 v_2 b a'_2 o'_2 x_8.2.1 x_8.2.2 x_8.1∧True∧(SM x∧dn5q8 b x_7.2.2.2.1 x_8.2.1 x_7.2.2.2.2 x_8.2.2∧SM x_6∧(SM v_1∧dn5q58 x_7.2.2.1 x_8.1∧dn5q65)∧dn5q67 x_2 x_3.2.2.1 x_3.2.1 x_4.2.2.1 x_4.2.1 x_5.2.2.1 x_5.2.1 x_1)∧dn5q51 x_5.2.1 x_4.2.1 x_3.2.1))∧∀ (x_7:List I4 × Nat × Bool),dn5q57 v_2 b a'_2 o'_2 x_7.2.1 x_7.2.2 x_7.1→dn5q3 x b x_7.2.1 x_7.2.2∧∀ (a'_3:Nat) (o'_3:Bool) (v_3:Int),dn5q37 b x_7.2.1 x_7.2.2 a'_3 o'_3 v_3→True→SM x_6∧dn5q3 x b a'_3 o'_3∧∀ (a'_4:Nat) (o'_4:Bool) (v_4:Int),dn5q37 b a'_3 o'_3 a'_4 o'_4 v_4→True→SM x_6∧SM x_2∧SM x_6∧SM x_5.2.1∧side ((LN x_5.2.2.1 + N1) * (48:Nat) ≤ (140737488355328:Nat)∧LN x_5.2.2.1 + N1 ≤ (9223372036854775807:Nat)) (∀ (t:Nat),SM x_2∧dn5q28 x x_1 x_2 v∧∃ (y:Nat × Nat × List KeD × Nat × Bool),dn5q60 v b a' o' y.1 y.2.2.1 y.2.2.2.1 y.2.2.2.2∧dn5q29 v y.1 x_5.1∧dn5q30 x_5.1 y.1∧(SM x∧dn5q8 b a'_4 y.2.2.2.1 o'_4 y.2.2.2.2∧SM x_2∧(dn5q32 x_3.2.2.1 x_3.2.1∧dn5q42 x_4.2.2.1 x_4.2.1∧(LN x_5.2.2.1 + N1 = LN y.2.2.1∧(∀ (i:Nat),i < LN x_5.2.2.1 + N1→appF (LN x_5.2.2.1) (fun (i:Nat) => dn5q64 x_5.2.2.1 i) (fun (i:Nat) => List.getD [[ZI v_1,dn5q59 x_7.1,ZI v_3,ZI v_4]] i []) i = dn5q64 y.2.2.1 i)∧t = y.2.1)∧dn5q16)∧dn5q19 x_1)∧t = y.2.1∧SM x_4.2.1∧SM x_3.2.1∧True)) (dn5q3 x b x_5.2.2.2.1 x_5.2.2.2.2∧∀ (a':Nat) (o':Bool) (v:Nat),dn5q4 b x_5.2.2.2.1 x_5.2.2.2.2 a' o' v→v ≤ (4294967296:Nat)→∀ (t:Nat),(∃ (x_6:Nat × Nat × List LaD × Nat × Bool),dn5q71 v b a' o' x_6.1 x_6.2.2.1 x_6.2.2.2.1 x_6.2.2.2.2∧dn5q7 x_6.1∧(SM x∧dn5q8 b a' x_6.2.2.2.1 o' x_6.2.2.2.2∧SM x_2∧(dn5q32 x_3.2.2.1 x_3.2.1∧dn5q42 x_4.2.2.1 x_4.2.1∧dn5q66 x_5.2.2.1 x_5.2.1∧(N0 = LN x_6.2.2.1∧(∀ (i:Nat),i < N0→eqOf (List D) [] (dn5q75 x_6.2.2.1 i))∧t = x_6.2.1)∧True)∧dn5q19 x_1)∧dn5q68 t x_6.2.1 x_5.2.1 x_4.2.1 x_3.2.1)∧∀ (x_6:Nat × Nat × List LaD × Nat × Bool),dn5q71 v b a' o' x_6.1 x_6.2.2.1 x_6.2.2.2.1 x_6.2.2.2.2→dn5q21 x_6.1 v x x_6.2.2.2.2∧ifB (dn5q20 x_6.1 v x_6.2.2.2.2) (dn5q3 x b x_6.2.2.2.1 x_6.2.2.2.2∧∀ (a'_1:Nat) (o'_1:Bool) (v_1:Int),dn5q37 b x_6.2.2.2.1 x_6.2.2.2.2 a'_1 o'_1 v_1→True→∀ (x_7:Nat),x ≠ x_7∧x_2 ≠ x_7∧x_1 ≠ x_7∧True→SM x_7∧dn5q3 x b a'_1 o'_1∧∀ (a'_2:Nat) (o'_2:Bool) (v_2:Nat),dn5q4 b a'_1 o'_1 a'_2 o'_2 v_2→v_2 ≤ (4294967296:Nat)→(∀ (t:Nat),(∃ (x_8:Nat × Nat × List I6 × Nat × Bool),dn5q76 v_2 b a'_2 o'_2 x_8.1 x_8.2.2.1 x_8.2.2.2.1 x_8.2.2.2.2∧dn5q7 x_8.1∧(SM x∧dn5q8 b a'_2 x_8.2.2.2.1 o'_2 x_8.2.2.2.2∧SM x_7∧(SM v_1∧(N0 = LN x_8.2.2.1∧(∀ (i:Nat),i < N0→eqOf (List D) [] (dn5q78 x_8.2.2.1 i))∧t = x_8.2.1)∧True)∧dn5q79 x_2 x_3.2.2.1 x_3.2.1 x_4.2.2.1 x_4.2.1 x_5.2.2.1 x_5.2.1 x_6.2.2.1 x_6.2.1 x_1)∧t = x_8.2.1∧dn5q69 x_6.2.1 x_5.2.1 x_4.2.1 x_3.2.1)∧∀ (x_8:Nat × Nat × List I6 × Nat × Bool),dn5q76 v_2 b a'_2 o'_2 x_8.1 x_8.2.2.1 x_8.2.2.2.1 x_8.2.2.2.2→dn5q21 x_8.1 v_2 x x_8.2.2.2.2∧ifB (dn5q20 x_8.1 v_2 x_8.2.2.2.2) (((6:Int) ≤ (4294967296:Int)∧dn5q3 x b x_8.2.2.2.1 x_8.2.2.2.2∧∀ (a':Nat) (o':Bool) (v:List Int) (t:Nat),PX (listP numP N6) (dn5q2 b) (dn5q1 x_8.2.2.2.1) x_8.2.2.2.2 a' o' v→qNs N6 o' v→SM t∧side ((LN v + N6) * (8:Nat) ≤ (140737488355328:Nat)∧LN v + N6 ≤ (9223372036854775807:Nat)) (∀ (t:Nat),∃ (x_9:Nat × Bool × List Int),dn5q80 x_9.2.2 b x_8.2.2.2.1 x_8.2.2.2.2 x_9.1 x_9.2.1∧((LN v + N6 = LN x_9.2.2∧(∀ (i:Nat),i < LN v + N6→appF (LN v) (fun (i:Nat) => dn5q46 v i) (fun (i:Nat) => List.getD (dn5q47 :: dn5q47 :: dn5q48) i []) i = dn5q46 x_9.2.2 i)∧True)∧True)∧(SM x∧dn5q8 b a' x_9.1 o' x_9.2.1∧SM x_7∧(SM v_1∧(SM (LN x_8.2.2.1)∧(∀ (i:Nat),i < LN x_8.2.2.1→SM (dn5q78 x_8.2.2.1 i))∧SM x_8.2.1)∧True)∧dn5q79 x_2 x_3.2.2.1 x_3.2.1 x_4.2.2.1 x_4.2.1 x_5.2.2.1 x_5.2.1 x_6.2.2.1 x_6.2.1 x_1)∧SM x_8.2.1∧dn5q69 x_6.2.1 x_5.2.1 x_4.2.1 x_3.2.1))∧∀ (x_9:Nat × Bool × List Int),dn5q80 x_9.2.2 b x_8.2.2.2.1 x_8.2.2.2.2 x_9.1 x_9.2.1→SM x_7∧side (Z0 ≤ Z0∧Z0 < (LI x_9.2.2)) (side (Z0 ≤ Z1∧Z1 < (LI x_9.2.2)) (side (Z0 ≤ (2:Int)∧(2:Int) < (LI x_9.2.2)) (side (Z0 ≤ (3:Int)∧(3:Int) < (LI x_9.2.2)) (side (Z0 ≤ (4:Int)∧(4:Int) < (LI x_9.2.2)) (side (Z0 ≤ (5:Int)∧(5:Int) < (LI x_9.2.2)) ((SM x_7∧SM (dn5q81 x_8.2.2.1 x_8.2.1))∧SM x_8.2.1∧side ((LN x_8.2.2.1 + N1) * (48:Nat) ≤ (140737488355328:Nat)∧LN x_8.2.2.1 + N1 ≤ (9223372036854775807:Nat)) (∀ (t:Nat),SM x_7∧dn5q54 x x_1 x_2 v x_6.1 x_7 v_2∧∃ (y:Nat × Nat × List I6 × Nat × Bool),dn5q76 v_2 b a'_2 o'_2 y.1 y.2.2.1 y.2.2.2.1 y.2.2.2.2∧dn5q29 v_2 y.1 x_8.1∧dn5q30 x_8.1 y.1∧(SM x∧dn5q8 b x_9.1 y.2.2.2.1 x_9.2.1 y.2.2.2.2∧SM x_7∧(SM v_1∧(LN x_8.2.2.1 + N1 = LN y.2.2.1∧(∀ (i:Nat),i < LN x_8.2.2.1 + N1→appF (LN x_8.2.2.1) (fun (i:Nat) => dn5q78 x_8.2.2.1 i) (fun (i:Nat) => List.getD [[ZI (GI x_9.2.2 N0),ZI (GI x_9.2.2 N1),ZI (GI x_9.2.2 N2),ZI (GI x_9.2.2 (3:Nat)),ZI (GI x_9.2.2 N4),ZI (GI x_9.2.2 (5:Nat))]] i []) i = dn5q78 y.2.2.1 i)∧t = y.2.1)∧True)∧dn5q79 x_2 x_3.2.2.1 x_3.2.1 x_4.2.2.1 x_4.2.1 x_5.2.2.1 x_5.2.1 x_6.2.2.1 x_6.2.1 x_1)∧t = y.2.1∧dn5q69 x_6.2.1 x_5.2.1 x_4.2.1 x_3.2.1)))))))) (dn5q56 x x_1 x_2 v x_6.1 x_7∧∃ (x_9:List I6 × Nat × Bool),PX (listP p6 (dn5q5 v_2)) b (dn5q1 a'_2) o'_2 x_9.2.1 x_9.2.2 x_9.1∧True∧(SM x∧dn5q8 b x_8.2.2.2.1 x_9.2.1 x_8.2.2.2.2 x_9.2.2∧SM x_7∧(SM v_1∧(LN x_8.2.2.1 = LN x_9.1∧(∀ (i:Nat),i < LN x_8.2.2.1→dn5q78 x_8.2.2.1 i = dn5q78 x_9.1 i)∧True)∧True)∧dn5q79 x_2 x_3.2.2.1 x_3.2.1 x_4.2.2.1 x_4.2.1 x_5.2.2.1 x_5.2.1 x_6.2.2.1 x_6.2.1 x_1)∧dn5q69 x_6.2.1 x_5.2.1 x_4.2.1 x_3.2.1))∧∀ (x_8:List I6 × Nat × Bool),PX (listP p6 (dn5q5 v_2)) b (dn5q1 a'_2) o'_2 x_8.2.1 x_8.2.2 x_8.1→SM x_2∧SM x_7∧SM x_6.2.1∧side ((LN x_6.2.2.1 + N1) * (32:Nat) ≤ (140737488355328:Nat)∧LN x_6.2.2.1 + N1 ≤ (9223372036854775807:Nat)) (∀ (t:Nat),SM x_2∧dn5q28 x x_1 x_2 v∧∃ (y:Nat × Nat × List LaD × Nat × Bool),dn5q71 v b a' o' y.1 y.2.2.1 y.2.2.2.1 y.2.2.2.2∧dn5q29 v y.1 x_6.1∧dn5q30 x_6.1 y.1∧(SM x∧dn5q8 b x_8.2.1 y.2.2.2.1 x_8.2.2 y.2.2.2.2∧SM x_2∧(dn5q32 x_3.2.2.1 x_3.2.1∧dn5q42 x_4.2.2.1 x_4.2.1∧dn5q66 x_5.2.2.1 x_5.2.1∧(LN x_6.2.2.1 + N1 = LN y.2.2.1∧(∀ (i:Nat),i < LN x_6.2.2.1 + N1→appF (LN x_6.2.2.1) (fun (i:Nat) => dn5q75 x_6.2.2.1 i) (fun (i:Nat) => List.getD [[ZI v_1,D.sl N6 (LN x_8.1) (fun (i:Nat) => dn5q78 x_8.1 i) Mode.any]] i []) i = dn5q75 y.2.2.1 i)∧t = y.2.1)∧True)∧dn5q19 x_1)∧dn5q68 t y.2.1 x_5.2.1 x_4.2.1 x_3.2.1)) (SM x_2∧SM x_1∧(SM x_1∧True)∧∃ (y:Nat × Bool × CZ),PX codP b at_ ok y.1 y.2.1 (CodD.mk y.2.2.1 y.2.2.2.1 y.2.2.2.2.1 y.2.2.2.2.2)∧((LN x_3.2.2.1 = LN y.2.2.1∧(∀ (i:Nat),i < LN x_3.2.2.1→dn5q14 x_3.2.2.1 i = dn5q14 y.2.2.1 i)∧True)∧(LN x_4.2.2.1 = LN y.2.2.2.1∧(∀ (i:Nat),i < LN x_4.2.2.1→dn5q36 x_4.2.2.1 i = dn5q36 y.2.2.2.1 i)∧True)∧(LN x_5.2.2.1 = LN y.2.2.2.2.1∧(∀ (i:Nat),i < LN x_5.2.2.1→dn5q64 x_5.2.2.1 i = dn5q64 y.2.2.2.2.1 i)∧True)∧(LN x_6.2.2.1 = LN y.2.2.2.2.2∧(∀ (i:Nat),i < LN x_6.2.2.1→dn5q75 x_6.2.2.1 i = dn5q75 y.2.2.2.2.2 i)∧True)∧True)∧(SM x∧dn5q8 b x_6.2.2.2.1 y.1 x_6.2.2.2.2 y.2.1∧True)∧True))))) (by kernel_rfl) ?_
  delta BI D4 D6 DA DF DK DL GI LI LN N0 N1 N2 N4 N6 NI R4 R6 SI SM U0 Z0 Z1 ZB ZI dn5q0 dn5q1 dn5q10 dn5q11 dn5q12 dn5q13 dn5q14 dn5q15 dn5q16 dn5q17 dn5q18 dn5q19 dn5q2 dn5q20 dn5q21 dn5q22 dn5q23 dn5q24 dn5q25 dn5q26 dn5q27 dn5q28 dn5q29 dn5q3 dn5q30 dn5q31 dn5q32 dn5q33 dn5q34 dn5q35 dn5q36 dn5q37 dn5q38 dn5q39 dn5q4 dn5q40 dn5q41 dn5q42 dn5q43 dn5q44 dn5q45 dn5q46 dn5q47 dn5q48 dn5q49 dn5q5 dn5q50 dn5q51 dn5q52 dn5q53 dn5q54 dn5q55 dn5q56 dn5q57 dn5q58 dn5q59 dn5q6 dn5q60 dn5q61 dn5q62 dn5q63 dn5q64 dn5q65 dn5q66 dn5q67 dn5q68 dn5q69 dn5q7 dn5q70 dn5q71 dn5q72 dn5q73 dn5q74 dn5q75 dn5q76 dn5q77 dn5q78 dn5q79 dn5q8 dn5q80 dn5q81 dn5q9
  have da:(default:Arr) = Arr.mk 0 [] [] [] := rfl
  have dF:(default:FnD) = ⟨0,[]⟩ := rfl
  have dK:(default:KeD) = ⟨0,[],0,0⟩ := rfl
  have dL:(default:LaD) = ⟨0,[]⟩ := rfl
  have d4:(default:I4) = ⟨0,0,0,0⟩ := rfl
  have d6:(default:I6) = ⟨0,0,0,0,0,0⟩ := rfl
  simp only [← da,← dF,← dK,← dL,← d4,← d6,eq_self,ne_eq,implies_true,Int.toNat_natCast,ifB_iff,side_iff,decide_eq_true_eq,decide_eq_false_iff_not,true_and,and_true,Bool.cond_false_right,Bool.and_eq_true,Bool.and_eq_false_iff,forall_const,bytesOf_bsl,rowsB_bsl,natOfR]
  have z0:∀ {p:Nat→Prop} (i:Nat),i < 0→p i := fun i hi => absurd hi (Nat.not_lt_zero i)
  intro x1 _ x2 _
  refine ⟨⟨hb,by omega,ha⟩,fun a0 o0 n0 h0 q0 t0 => ⟨⟨(0,t0,[],a0,o0),LX.init _ _ _ h0.ha,rfl,⟨⟨rfl,rfl⟩,rfl,z0,rfl⟩,rfl⟩,?_⟩⟩
  rintro ⟨i,t1,cs,a1,o1⟩ hL
  simp only at hL ⊢
  have hsl := hL.hs
  have hi := hL.hi
  refine ⟨⟨fun h => by simp [h],fun h => by simp [h]⟩,fun ⟨hlt,ho⟩ => ⟨by decide,⟨hb,by omega,hL.ha⟩,fun a' o' v h => ⟨by omega,fun t2 => ⟨(i + 1,t2,cs ++ [v],a',o'),hL.step (by omega) h,by simp only; omega,wrap_i64' (by omega) (by omega),⟨⟨rfl,rfl⟩,by simp,fun j hj => app_list Arr.row1 cs v rfl hj,rfl⟩,rfl⟩⟩⟩,fun hge => ?_⟩
  have hA := hL.done hge
  clear hL hsl hi hge
  refine ⟨⟨hb,by omega,hA.ha⟩,fun a2 o2 n1 h1 q1 t2 => ⟨⟨(0,t2,[],a2,o2),LX.init _ _ _ h1.ha,rfl,⟨⟨rfl,rfl⟩,rfl,z0,rfl⟩,rfl⟩,?_⟩⟩
  rintro ⟨i,t3,fs,a3,o3⟩ hL
  simp only at hL ⊢
  have hsl := hL.hs
  have hi := hL.hi
  refine ⟨⟨fun h => by simp [h],fun h => by simp [h]⟩,fun ⟨hlt,ho⟩ => ?_,fun hge => ?_⟩
  · refine ⟨⟨hb,by omega,hL.ha⟩,fun a4 o4 sl g1 x5 _ => ⟨⟨hb,by omega,g1.ha⟩,fun a5 o5 m g2 qm => ⟨fun t4 => ⟨⟨(0,t4,[],a5,o5),LX.init _ _ _ g2.ha,rfl,⟨⟨rfl,rfl⟩,rfl,z0,rfl⟩,rfl⟩,?_⟩,?_⟩⟩⟩
    · rintro ⟨j,t5,code,a6,o6⟩ hM
      simp only at hM ⊢
      have hms := hM.hs
      have hmi := hM.hi
      refine ⟨⟨fun h => by simp [h],fun h => by simp [h]⟩,fun ⟨hjl,hjo⟩ => ⟨⟨by decide,⟨hb,by omega,hM.ha⟩,fun a' o' v h q => ⟨by have := q.1; omega,(a',o',v ++ [0,0,0,0]),⟨by simp,h.p4⟩,⟨by simp,fun i hi => app_z v [0,0,0,0] _ hz4 hi⟩,rfl,rfl⟩⟩,?_⟩,fun hjg => ⟨(code,a6,o6),hM.done hjg,⟨rfl,rfl⟩,rfl,fun _ _ => rfl⟩⟩
      rintro ⟨a',o',w⟩ ⟨w1,w2⟩
      simp only at w1 w2 ⊢
      exact ⟨⟨by omega,by omega⟩,⟨by omega,by omega⟩,⟨by omega,by omega⟩,⟨by omega,by omega⟩,by omega,fun t6 => ⟨(j + 1,t6,code ++ [I4.mk (w.getD 0 0) (w.getD 1 0) (w.getD 2 0) (w.getD 3 0)],a',o'),hM.step (by omega) w2,by simp only; omega,wrap_i64' (by omega) (by omega),⟨⟨rfl,rfl⟩,by simp,fun k hk => app_list I4.row code (I4.mk (w.getD 0 0) (w.getD 1 0) (w.getD 2 0) (w.getD 3 0)) rfl hk,rfl⟩,rfl⟩⟩
    · rintro ⟨code,a6,o6⟩ hM
      simp only at hM ⊢
      exact ⟨by omega,fun t4 => ⟨(i + 1,t4,fs ++ [FnD.mk sl code],a6,o6),hL.step (by omega) (PX.fn g1 g2 hM),by simp only; omega,wrap_i64' (by omega) (by omega),⟨⟨rfl,rfl⟩,by simp,fun j hj => app_list FnD.row fs (FnD.mk sl code) rfl hj,rfl⟩,rfl⟩⟩
  have hF := hL.done hge
  clear hL hsl hi hge
  refine ⟨⟨hb,by omega,hF.ha⟩,fun b2 p2 n2 h2 q2 t2 => ⟨⟨(0,t2,[],b2,p2),LX.init _ _ _ h2.ha,rfl,⟨⟨rfl,rfl⟩,rfl,z0,rfl⟩,rfl⟩,?_⟩⟩
  rintro ⟨i,t3,ks,b3,p3⟩ hL
  simp only at hL ⊢
  have hsl := hL.hs
  have hi := hL.hi
  refine ⟨⟨fun h => by simp [h],fun h => by simp [h]⟩,fun ⟨hlt,ho⟩ => ?_,fun hge => ?_⟩
  · refine ⟨⟨hb,by omega,hL.ha⟩,fun a4 o4 sl g1 x5 _ => ⟨⟨hb,by omega,g1.ha⟩,fun a5 o5 m g2 qm => ⟨fun t4 => ⟨⟨(0,t4,[],a5,o5),LX.init _ _ _ g2.ha,rfl,⟨⟨rfl,rfl⟩,rfl,z0,rfl⟩,rfl⟩,?_⟩,?_⟩⟩⟩
    · rintro ⟨j,t5,code,a6,o6⟩ hM
      simp only at hM ⊢
      have hms := hM.hs
      have hmi := hM.hi
      refine ⟨⟨fun h => by simp [h],fun h => by simp [h]⟩,fun ⟨hjl,hjo⟩ => ⟨⟨by decide,⟨hb,by omega,hM.ha⟩,fun a' o' v h q => ⟨by have := q.1; omega,(a',o',v ++ [0,0,0,0]),⟨by simp,h.p4⟩,⟨by simp,fun i hi => app_z v [0,0,0,0] _ hz4 hi⟩,rfl,rfl⟩⟩,?_⟩,fun hjg => ⟨(code,a6,o6),hM.done hjg,⟨rfl,rfl⟩,rfl,fun _ _ => rfl⟩⟩
      rintro ⟨a',o',w⟩ ⟨w1,w2⟩
      simp only at w1 w2 ⊢
      exact ⟨⟨by omega,by omega⟩,⟨by omega,by omega⟩,⟨by omega,by omega⟩,⟨by omega,by omega⟩,by omega,fun t6 => ⟨(j + 1,t6,code ++ [I4.mk (w.getD 0 0) (w.getD 1 0) (w.getD 2 0) (w.getD 3 0)],a',o'),hM.step (by omega) w2,by simp only; omega,wrap_i64' (by omega) (by omega),⟨⟨rfl,rfl⟩,by simp,fun k hk => app_list I4.row code (I4.mk (w.getD 0 0) (w.getD 1 0) (w.getD 2 0) (w.getD 3 0)) rfl hk,rfl⟩,rfl⟩⟩
    · rintro ⟨code,a6,o6⟩ hM
      simp only at hM ⊢
      refine ⟨⟨hb,by omega,hM.ha⟩,fun a7 o7 re g4 => ⟨⟨hb,by omega,g4.ha⟩,fun a8 o8 at1 g5 => ?_⟩⟩
      exact ⟨by omega,fun t4 => ⟨(i + 1,t4,ks ++ [KeD.mk sl code re at1],a8,o8),hL.step (by omega) (PX.kn g1 g2 hM g4 g5),by simp only; omega,wrap_i64' (by omega) (by omega),⟨⟨rfl,rfl⟩,by simp,fun j hj => app_list KeD.row ks (KeD.mk sl code re at1) rfl hj,rfl⟩,rfl⟩⟩
  have hK := hL.done hge
  clear hL hsl hi hge
  refine ⟨⟨hb,by omega,hK.ha⟩,fun c2 r2 n3 h3 q3 t2 => ⟨⟨(0,t2,[],c2,r2),LX.init _ _ _ h3.ha,rfl,⟨⟨rfl,rfl⟩,rfl,z0,rfl⟩,rfl⟩,?_⟩⟩
  rintro ⟨i,t3,ls,c3,r3⟩ hL
  simp only at hL ⊢
  have hsl := hL.hs
  have hi := hL.hi
  refine ⟨⟨fun h => by simp [h],fun h => by simp [h]⟩,fun ⟨hlt,ho⟩ => ?_,fun hge => ?_⟩
  · refine ⟨⟨hb,by omega,hL.ha⟩,fun a4 o4 sl g1 x5 _ => ⟨⟨hb,by omega,g1.ha⟩,fun a5 o5 m g2 qm => ⟨fun t4 => ⟨⟨(0,t4,[],a5,o5),LX.init _ _ _ g2.ha,rfl,⟨⟨rfl,rfl⟩,rfl,z0,rfl⟩,rfl⟩,?_⟩,?_⟩⟩⟩
    · rintro ⟨j,t5,code,a6,o6⟩ hM
      simp only at hM ⊢
      have hms := hM.hs
      have hmi := hM.hi
      refine ⟨⟨fun h => by simp [h],fun h => by simp [h]⟩,fun ⟨hjl,hjo⟩ => ⟨⟨by decide,⟨hb,by omega,hM.ha⟩,fun a' o' v h q => ⟨by have := q.1; omega,(a',o',v ++ [0,0,0,0,0,0]),⟨by simp,h.p6⟩,⟨by simp,fun i hi => app_z v [0,0,0,0,0,0] _ hz6 hi⟩,rfl,rfl⟩⟩,?_⟩,fun hjg => ⟨(code,a6,o6),hM.done hjg,⟨rfl,rfl⟩,rfl,fun _ _ => rfl⟩⟩
      rintro ⟨a',o',w⟩ ⟨w1,w2⟩
      simp only at w1 w2 ⊢
      exact ⟨⟨by omega,by omega⟩,⟨by omega,by omega⟩,⟨by omega,by omega⟩,⟨by omega,by omega⟩,⟨by omega,by omega⟩,⟨by omega,by omega⟩,by omega,fun t6 => ⟨(j + 1,t6,code ++ [I6.mk (w.getD 0 0) (w.getD 1 0) (w.getD 2 0) (w.getD 3 0) (w.getD 4 0) (w.getD 5 0)],a',o'),hM.step (by omega) w2,by simp only; omega,wrap_i64' (by omega) (by omega),⟨⟨rfl,rfl⟩,by simp,fun k hk => app_list I6.row code (I6.mk (w.getD 0 0) (w.getD 1 0) (w.getD 2 0) (w.getD 3 0) (w.getD 4 0) (w.getD 5 0)) rfl hk,rfl⟩,rfl⟩⟩
    · rintro ⟨code,a6,o6⟩ hM
      simp only at hM ⊢
      exact ⟨by omega,fun t4 => ⟨(i + 1,t4,ls ++ [LaD.mk sl code],a6,o6),hL.step (by omega) (PX.ln g1 g2 hM),by simp only; omega,wrap_i64' (by omega) (by omega),⟨⟨rfl,rfl⟩,by simp,fun j hj => app_list LaD.row ls (LaD.mk sl code) rfl hj,rfl⟩,rfl⟩⟩
  have hQ := hL.done hge
  refine ⟨(c3,r3,cs,fs,ks,ls),⟨hQ.ha,?_⟩,⟨⟨rfl,fun _ _ => rfl⟩,⟨rfl,fun _ _ => rfl⟩,⟨rfl,fun _ _ => rfl⟩,rfl,fun _ _ => rfl⟩,rfl,rfl⟩
  unfold codP codT
  exact (h0.bind _).trans ((hA.bind _).trans ((h1.bind _).trans ((hF.bind _).trans ((h2.bind _).trans ((hK.bind _).trans ((h3.bind _).trans (hQ.bind _)))))))
end Go.Proofs.Ytoglbmhkfkghbaa
namespace Go.Proofs.Ytoglbmhkfkghbaa
open Go Go.Ab
set_option maxRecDepth 100000
abbrev CY := List FnD × List KeD × List LaD × List UInt8
def _root_.Go.Ab.endC0 (p:Option (CodD × List UInt8)) (e:AEnd) (_S:St):Prop :=
  match e with
  | .ret d' => ∃ y:CY,p = some (⟨[],y.1,y.2.1,y.2.2.1⟩,[])∧weakD d' (.agg [.sl 1 0 (fun _ => []) .nil,gsl 2 FnD.row y.1,gsl 4 KeD.row y.2.1,gsl 2 LaD.row y.2.2.1])
  | .pan d' => (∀ c,p ≠ some (c,[]))∧weakD d' brk
noncomputable def Ec0 (l:List UInt8):Senv := { EC con0 136 1 [2,3,4,5,6,8,9,10,20,21,22,27,28,29,53,54,55,60,61,62,92,93,94,99,100,101] (fun id => match id with | 4 => ([0,1,2,3,4,5,6,7],[3,4,5,7]) | 11 => ([0,1,2,4,6,8,3,5,7,9,10,11,12,13,14],[3,5,7,9,11,12,14]) | 20 => ([0,1,2,4,6,8,3,5,7,9,10,11,12,13,14],[3,5,7,9,11,12,14]) | 30 => ([0,1,2,4,6,8,10,12,3,5,7,9,11,13,14,15,16,17,18],[3,5,7,9,11,13,15,16,18]) | _ => ([],[])) with
  inl := inlB con0 17
  gh := fun b => match b with
    | 2 => [.cell 2 201]
    | 4 => [.cell 3 401]
    | 6 => [.cell 2 402]
    | 8 => [.cell 3 401]
    | 10 => [.cell 2 203]
    | 12 => [.cell 3 601]
    | _ => []
  ann := fun b env S => match b with
    | 0 => some { slots := [9],keep := [0,2,3,8],α := Unit,st := fun _ => ([.int .i64 0],S),inv := fun _ => True,mu := fun _ => 0 }
    | 2 => some { slots := [21],keep := [0,2,3,20],α := Nat × Nat × List FnD × List UInt8,st := fun y => ([.int .i64 y.1],⟨setO (putC S.objs 2 1 (.sl 2 y.2.2.1.length (fun i => FnD.row (y.2.2.1.getD i default)) (.tok 0 y.2.1))) 0 (.cells [bsl y.2.2.2 .any]),(0,y.2.1) :: S.toks.tail⟩),inv := fun y => LHd funP (natOfR (Ab.look env 20)) (rdL S.objs) y.1 y.2.2.1 y.2.2.2∧y.2.2.2.length ≤ l.length,mu := fun y => natOfR (Ab.look env 20) - y.1 }
    | 4 => some { slots := [28],keep := [0,2,3,4,20,21,27],α := Nat × Nat × List I4 × List UInt8,st := fun y => ([.int .i64 y.1],⟨setO (putC S.objs 3 1 (.sl 4 y.2.2.1.length (fun i => I4.row (y.2.2.1.getD i default)) (.tok 1 y.2.1))) 0 (.cells [bsl y.2.2.2 .any]),(1,y.2.1) :: S.toks.tail⟩),inv := fun y => LHd p4 (natOfR (Ab.look env 27)) (rdL S.objs) y.1 y.2.2.1 y.2.2.2∧y.2.2.2.length ≤ l.length,mu := fun y => natOfR (Ab.look env 27) - y.1 }
    | 6 => some { slots := [54],keep := [0,2,3,53],α := Nat × Nat × List KeD × List UInt8,st := fun y => ([.int .i64 y.1],⟨setO (putC S.objs 2 2 (.sl 4 y.2.2.1.length (fun i => KeD.row (y.2.2.1.getD i default)) (.tok 1 y.2.1))) 0 (.cells [bsl y.2.2.2 .any]),(1,y.2.1) :: S.toks.tail⟩),inv := fun y => LHd kerP (natOfR (Ab.look env 53)) (rdL S.objs) y.1 y.2.2.1 y.2.2.2∧y.2.2.2.length ≤ l.length,mu := fun y => natOfR (Ab.look env 53) - y.1 }
    | 8 => some { slots := [61],keep := [0,2,3,5,53,54,60],α := Nat × Nat × List I4 × List UInt8,st := fun y => ([.int .i64 y.1],⟨setO (putC S.objs 3 1 (.sl 4 y.2.2.1.length (fun i => I4.row (y.2.2.1.getD i default)) (.tok 2 y.2.1))) 0 (.cells [bsl y.2.2.2 .any]),(2,y.2.1) :: S.toks.tail⟩),inv := fun y => LHd p4 (natOfR (Ab.look env 60)) (rdL S.objs) y.1 y.2.2.1 y.2.2.2∧y.2.2.2.length ≤ l.length,mu := fun y => natOfR (Ab.look env 60) - y.1 }
    | 10 => some { slots := [93],keep := [0,2,3,92],α := Nat × Nat × List LaD × List UInt8,st := fun y => ([.int .i64 y.1],⟨setO (putC S.objs 2 3 (.sl 2 y.2.2.1.length (fun i => LaD.row (y.2.2.1.getD i default)) (.tok 2 y.2.1))) 0 (.cells [bsl y.2.2.2 .any]),(2,y.2.1) :: S.toks.tail⟩),inv := fun y => LHd lanP (natOfR (Ab.look env 92)) (rdL S.objs) y.1 y.2.2.1 y.2.2.2∧y.2.2.2.length ≤ l.length,mu := fun y => natOfR (Ab.look env 92) - y.1 }
    | 12 => some { slots := [100],keep := [0,2,3,6,92,93,99],α := Nat × Nat × List I6 × List UInt8,st := fun y => ([.int .i64 y.1],⟨setO (putC S.objs 3 1 (.sl 6 y.2.2.1.length (fun i => I6.row (y.2.2.1.getD i default)) (.tok 3 y.2.1))) 0 (.cells [bsl y.2.2.2 .any]),(3,y.2.1) :: S.toks.tail⟩),inv := fun y => LHd p6 (natOfR (Ab.look env 99)) (rdL S.objs) y.1 y.2.2.1 y.2.2.2∧y.2.2.2.length ≤ l.length,mu := fun y => natOfR (Ab.look env 99) - y.1 }
    | _ => none
  bcut := fun b env S => match b with
    | 4 => some { slots := [],keep := [0,2,3,4,20,21],α := List I4 × List UInt8,st := fun y => ([],⟨setO (putC S.objs 3 1 (gsl 4 I4.row y.1)) 0 (.cells [bsl y.2 .any]),S.toks⟩),inv := fun y => listP p4 (natOfR (Ab.look env 27)) (rdL S.objs) = some (y.1,y.2)∧y.2.length ≤ l.length,mu := fun _ => 0 }
    | 8 => some { slots := [],keep := [0,2,3,5,53,54],α := List I4 × List UInt8,st := fun y => ([],⟨setO (putC S.objs 3 1 (gsl 4 I4.row y.1)) 0 (.cells [bsl y.2 .any]),S.toks⟩),inv := fun y => listP p4 (natOfR (Ab.look env 60)) (rdL S.objs) = some (y.1,y.2)∧y.2.length ≤ l.length,mu := fun _ => 0 }
    | 12 => some { slots := [],keep := [0,2,3,6,92,93],α := List I6 × List UInt8,st := fun y => ([],⟨setO (putC S.objs 3 1 (gsl 6 I6.row y.1)) 0 (.cells [bsl y.2 .any]),S.toks⟩),inv := fun y => listP p6 (natOfR (Ab.look env 99)) (rdL S.objs) = some (y.1,y.2)∧y.2.length ≤ l.length,mu := fun _ => 0 }
    | _ => none }
noncomputable section
def rd5q0 (p0:List UInt8) (p1:Nat):List D := [ZB (BI p0 p1)]
def rd5q1 (p0:List UInt8):List UInt8 := bytesOf (LN p0) fun (i:Nat) => rd5q0 p0 i
def rd5q2 (p0:Nat) (p1:List UInt8):Prop := SM p0∧(rowsB (LN p1) fun (i:Nat) => rd5q0 p1 i) = true∧LN p1 ≤ (4294967296:Nat)∧(SM p0∧((LN p1 = LN (rd5q1 p1)∧(∀ (i:Nat),i < LN p1→rd5q0 p1 i = [ZB (BI (rd5q1 p1) i)])∧True)∧True)∧True)∧True
def rd5q3 (p0:List UInt8):Option (Nat × List UInt8) := cntP (rd5q1 p0)
def rd5q4 (p0:List UInt8) (p1:Nat) (p2:List UInt8):Prop := rd5q3 p0 = some (p1,p2)
def rd5q5:Prop := SM N0∧(∀ (i:Nat),i < N0→eqOf (List D) [] [])∧True
def rd5q6:Prop := rd5q5∧True
def rd5q7:Prop := rd5q5∧rd5q6
def rd5q8:Prop := rd5q5∧rd5q7
def rd5q9:Prop := rd5q5∧rd5q8
def rd5q10 (p0:Nat):Prop := SM p0∧rd5q9∧True
def rd5q11 (p0:List UInt8):Option (Arr × List UInt8) := arrP (17:Nat) (rd5q1 p0)
def rd5q12 (p0:Nat):Prop := SM p0∧SM (D.sl N1 N0 (fun (_x:Nat) => []) Mode.nil)
def rd5q13 (p0:Nat):Prop := SM (D.ref N0 p0 N0)
def rd5q14 (p0:Nat):Prop := SM (D.ref N1 p0 N0)
def rd5q15 (p0:Nat):Prop := SM (D.ref N2 p0 N0)
def rd5q16 (p0:Nat):Prop := SM (ZI (↑p0:Int))
def rd5q17 (p0 p1 p2 p3:Nat):Prop := rd5q13 p0∧rd5q14 p1∧rd5q15 p2∧rd5q16 p3∧True
def rd5q18 (p0 p1:List UInt8):Prop := (LN p0 = LN p1∧(∀ (i:Nat),i < LN p0→rd5q0 p0 i = rd5q0 p1 i)∧True)∧True
def rd5q19 (p0:List UInt8):Prop := (∀ (c:CodD),codP p0 ≠ some (c,[]))∧SM (96:Nat)∧True
def rd5q20 (p0:List UInt8):Prop := ∀ (_r:List UInt8),rd5q19 p0
def rd5q21 (p0:Nat):Nat := natOfR (ZI (↑p0:Int))
def rd5q22 (p0:Nat) (p1:List UInt8) (p2:Nat) (p3:List FnD) (p4 p5:List UInt8):Prop := LHd funP (rd5q21 p0) (rd5q1 p1) p2 p3 p4∧LN p4 ≤ LN p5
def rd5q23 (p0:Nat):Prop := Z0 = (↑p0:Int)∧True
def rd5q24 (p0:List FnD) (p1:Nat):List I4 := FnD.code (List.getD p0 p1 DF)
def rd5q25:I4 := D4
def rd5q26 (p0:List FnD) (p1 p2:Nat):I4 := List.getD (rd5q24 p0 p1) p2 rd5q25
def rd5q27 (p0:List FnD) (p1:Nat):List D := [ZI (FnD.slots (List.getD p0 p1 DF)),D.sl N4 (LN (rd5q24 p0 p1)) (fun (i:Nat) => (R4 (rd5q26 p0 p1 i))) Mode.any]
def rd5q28 (p0 p1:Nat):Bool := decide ((↑p0:Int) < (↑p1:Int))
def rd5q29 (p0:List UInt8):Option (Int × List UInt8) := numP (rd5q1 p0)
def rd5q30 (p0:List UInt8) (p1:Int) (p2:List UInt8):Prop := rd5q29 p0 = some (p1,p2)
def rd5q31 (p0:Nat) (p1:List UInt8) (p2:Nat) (p3:List I4) (p4 p5:List UInt8):Prop := LHd Ytoglbmhkfkghbaa.p4 (rd5q21 p0) (rd5q1 p1) p2 p3 p4∧LN p4 ≤ LN p5
def rd5q32 (p0:List I4) (p1:Nat):I4 := List.getD p0 p1 rd5q25
def rd5q33 (p0:List I4) (p1:Nat):List D := (R4 (rd5q32 p0 p1))
def rd5q34 (p0:List I4) (p1 p2:Nat):Prop := N0 = LN p0∧(∀ (i:Nat),i < N0→eqOf (List D) [] (rd5q33 p0 i))∧p1 = p2
def rd5q35 (p0:List FnD) (p1:Nat):Prop := SM (LN p0)∧(∀ (i:Nat),i < LN p0→SM (rd5q27 p0 i))∧SM p1
def rd5q36 (p0:Nat) (p1:List FnD) (p2 p3:Nat):Prop := SM p0∧(rd5q5∧rd5q35 p1 p2∧rd5q7)∧rd5q10 p3
def rd5q37 (p0:List I4) (p1:Nat):D := D.sl N4 (LN p0) (fun (i:Nat) => rd5q33 p0 i) (Mode.tok N1 p1)
def rd5q38 (p0:Nat) (p1:List I4) (p2:Nat):Prop := SM p0∧SM (rd5q37 p1 p2)
def rd5q39 (p0 p1:Nat):Prop := rd5q16 p0∧rd5q16 p1∧True
def rd5q40 (p0 p1 p2 p3 p4 p5 p6:Nat):Prop := rd5q13 p0∧rd5q14 p1∧rd5q15 p2∧SM (D.ref (3:Nat) p3 N0)∧rd5q16 p4∧rd5q39 p5 p6
def rd5q41 (p0 p1 p2:Nat):Prop := rd5q21 p0 - p1 < rd5q21 p0 - p2
def rd5q42 (p0 p1:Nat):Prop := IntKind.wrap IntKind.i64 ((↑p0:Int) + Z1) = (↑p1:Int)∧True
def rd5q43 (p0 p1:List I4) (p2 p3 p4 p5:Int) (p6 p7:Nat):Prop := LN p0 + N1 = LN p1∧(∀ (i:Nat),i < LN p0 + N1→appF (LN p0) (fun (i:Nat) => rd5q33 p0 i) (fun (i:Nat) => List.getD [[ZI p2,ZI p3,ZI p4,ZI p5]] i []) i = rd5q33 p1 i)∧p6 = p7
def rd5q44 (p0 p1:List UInt8):Prop := rd5q29 p0 = none→rd5q20 p1
def rd5q45 (p0 p1 p2 p3 p4 p5:Nat):Prop := rd5q13 p0∧rd5q14 p1∧rd5q15 p2∧SM (D.ref (3:Nat) p3 N0)∧rd5q39 p4 p5
def rd5q46 (p0:Nat) (p1:List UInt8) (p2:List I4) (p3 p4:List UInt8):Prop := listP Ytoglbmhkfkghbaa.p4 (rd5q21 p0) (rd5q1 p1) = some (p2,p3)∧LN p3 ≤ LN p4
def rd5q47 (p0 p1:List I4):Prop := LN p0 = LN p1∧(∀ (i:Nat),i < LN p0→rd5q33 p0 i = rd5q33 p1 i)∧True
def rd5q48 (p0:List I4):D := D.sl N4 (LN p0) (fun (i:Nat) => rd5q33 p0 i) Mode.any
def rd5q49 (p0:List UInt8):Prop := rd5q3 p0 = none
def rd5q50 (p0 p1:List UInt8):Prop := rd5q49 p0→rd5q20 p1
def rd5q51 (p0:Nat) (p1:List UInt8) (p2:Nat) (p3:List KeD) (p4 p5:List UInt8):Prop := LHd kerP (rd5q21 p0) (rd5q1 p1) p2 p3 p4∧LN p4 ≤ LN p5
def rd5q52 (p0:List KeD) (p1:Nat):KeD := List.getD p0 p1 DK
def rd5q53 (p0:List KeD) (p1:Nat):List I4 := KeD.ops (rd5q52 p0 p1)
def rd5q54 (p0:List KeD) (p1 p2:Nat):I4 := List.getD (rd5q53 p0 p1) p2 rd5q25
def rd5q55 (p0:List KeD) (p1:Nat):List D := [ZI (KeD.inputs (rd5q52 p0 p1)),D.sl N4 (LN (rd5q53 p0 p1)) (fun (i:Nat) => (R4 (rd5q54 p0 p1 i))) Mode.any,ZI (KeD.reduce (rd5q52 p0 p1)),ZI (KeD.at_ (rd5q52 p0 p1))]
def rd5q56:Prop := SM Z0∧SM Z0∧True
def rd5q57 (p0:List KeD) (p1:Nat):Prop := SM (LN p0)∧(∀ (i:Nat),i < LN p0→SM (rd5q55 p0 i))∧SM p1
def rd5q58 (p0:Nat) (p1:List FnD) (p2:Nat) (p3:List KeD) (p4 p5:Nat):Prop := SM p0∧(rd5q5∧rd5q35 p1 p2∧rd5q57 p3 p4∧rd5q6)∧rd5q10 p5
def rd5q59 (p0:List I4) (p1:Nat):D := D.sl N4 (LN p0) (fun (i:Nat) => rd5q33 p0 i) (Mode.tok N2 p1)
def rd5q60 (p0:Nat) (p1:List I4) (p2:Nat):Prop := SM p0∧SM (rd5q59 p1 p2)
def rd5q61 (p0:Nat) (p1:List UInt8) (p2:Nat) (p3:List LaD) (p4 p5:List UInt8):Prop := LHd lanP (rd5q21 p0) (rd5q1 p1) p2 p3 p4∧LN p4 ≤ LN p5
def rd5q62 (p0:List LaD) (p1:Nat):List I6 := LaD.code (List.getD p0 p1 DL)
def rd5q63:I6 := D6
def rd5q64 (p0:List LaD) (p1 p2:Nat):I6 := List.getD (rd5q62 p0 p1) p2 rd5q63
def rd5q65 (p0:List LaD) (p1:Nat):List D := [ZI (LaD.regs (List.getD p0 p1 DL)),D.sl N6 (LN (rd5q62 p0 p1)) (fun (i:Nat) => (R6 (rd5q64 p0 p1 i))) Mode.any]
def rd5q66 (p0:Nat) (p1:List UInt8) (p2:Nat) (p3:List I6) (p4 p5:List UInt8):Prop := LHd p6 (rd5q21 p0) (rd5q1 p1) p2 p3 p4∧LN p4 ≤ LN p5
def rd5q67 (p0:List I6) (p1:Nat):I6 := List.getD p0 p1 rd5q63
def rd5q68 (p0:List I6) (p1:Nat):List D := (R6 (rd5q67 p0 p1))
def rd5q69 (p0:Nat) (p1:List FnD) (p2:Nat) (p3:List KeD) (p4:Nat) (p5:List LaD) (p6 p7:Nat):Prop := SM p0∧(rd5q5∧rd5q35 p1 p2∧rd5q57 p3 p4∧(SM (LN p5)∧(∀ (i:Nat),i < LN p5→SM (rd5q65 p5 i))∧SM p6)∧True)∧rd5q10 p7
def rd5q70 (p0:List I6) (p1:Nat):D := D.sl N6 (LN p0) (fun (i:Nat) => rd5q68 p0 i) (Mode.tok (3:Nat) p1)
def rd5q71 (p0:Nat) (p1:List I6) (p2:Nat):Prop := SM p0∧SM (rd5q70 p1 p2)
def rd5q72 (p0:Nat) (p1:List UInt8) (p2:List I6) (p3 p4:List UInt8):Prop := listP p6 (rd5q21 p0) (rd5q1 p1) = some (p2,p3)∧LN p3 ≤ LN p4
end
theorem rc0 (x : Nat) (l : List UInt8) (hl : l.length ≤ 4294967296) (hn : ∀ n r, cntP l = some (n, r) → n = 0) :
    ACalls Try.prog 49 [.ref 0 x 0] (bS x l) (endC0 (codP l)) := by
  refine call_of (E := Ec0 l) (erOk con0_ok (inlB_ok con0_ok (rarr_rd 17 (by omega))) rfl) Try.func49 rfl (by kernel_rfl) rfl (by simp [Ec0,EC,E0]) ?_
  refine vc_eq (T :=
    ∀ (x_1:Nat),x ≠ x_1∧True→∀ (x_2:Nat),x_1 ≠ x_2∧x ≠ x_2∧True→rd5q2 x l∧(∀ (a:Nat) (r:List UInt8),rd5q4 l a r→(∃ (x_3:Unit),True∧(SM Z0∧True)∧(SM x∧((SM (LN r)∧(∀ (i:Nat),i < LN r→SM (rd5q0 r i))∧True)∧True)∧SM x_2∧rd5q9∧rd5q10 x_1)∧True)∧∀ (x_3:Unit),True→ifB (decide (Z0 < (↑a:Int))) (SM x_2∧SM Z0∧rd5q2 x r∧(∀ (a_3:Arr) (r_1:List UInt8),rd5q11 r = some (a_3,r_1)→rd5q12 x_2∧rd5q12 x_2∧∀ (t:Nat),SM x_2∧rd5q17 x x_1 x_2 a∧∃ (y:Unit),True∧N0 < N0∧(Z1 = Z0∧True)∧(SM x∧rd5q18 r_1 r∧SM x_2∧(False∧rd5q8)∧rd5q10 x_1)∧True)∧(rd5q11 r = none→rd5q20 l)) (rd5q2 x r∧(∀ (a:Nat) (r_1:List UInt8),rd5q4 r a r_1→∀ (t:Nat),(∃ (x_4:Nat × Nat × List FnD × List UInt8),rd5q22 a r_1 x_4.1 x_4.2.2.1 x_4.2.2.2 l∧rd5q23 x_4.1∧(SM x∧rd5q18 r_1 x_4.2.2.2∧SM x_2∧(rd5q5∧(N0 = LN x_4.2.2.1∧(∀ (i:Nat),i < N0→eqOf (List D) [] (rd5q27 x_4.2.2.1 i))∧t = x_4.2.1)∧rd5q7)∧rd5q10 x_1)∧t = x_4.2.1∧True)∧∀ (x_4:Nat × Nat × List FnD × List UInt8),rd5q22 a r_1 x_4.1 x_4.2.2.1 x_4.2.2.2 l→ifB (rd5q28 x_4.1 a) (rd5q2 x x_4.2.2.2∧(∀ (a_5:Int) (r:List UInt8),rd5q30 x_4.2.2.2 a_5 r→∀ (x_5:Nat),x ≠ x_5∧x_2 ≠ x_5∧x_1 ≠ x_5∧True→SM x_5∧rd5q2 x r∧(∀ (a_8:Nat) (r_2:List UInt8),rd5q4 r a_8 r_2→(∀ (t:Nat),(∃ (x_6:Nat × Nat × List I4 × List UInt8),rd5q31 a_8 r_2 x_6.1 x_6.2.2.1 x_6.2.2.2 l∧rd5q23 x_6.1∧(SM x∧rd5q18 r_2 x_6.2.2.2∧SM x_5∧(SM a_5∧rd5q34 x_6.2.2.1 t x_6.2.1∧True)∧rd5q36 x_2 x_4.2.2.1 x_4.2.1 x_1)∧t = x_6.2.1∧SM x_4.2.1∧True)∧∀ (x_6:Nat × Nat × List I4 × List UInt8),rd5q31 a_8 r_2 x_6.1 x_6.2.2.1 x_6.2.2.2 l→ifB (rd5q28 x_6.1 a_8) (SM x_5∧rd5q2 x x_6.2.2.2∧(∀ (a_11:Int) (r:List UInt8),rd5q30 x_6.2.2.2 a_11 r→rd5q38 x_5 x_6.2.2.1 x_6.2.1∧rd5q2 x r∧(∀ (a_13:Int) (r_3:List UInt8),rd5q30 r a_13 r_3→rd5q38 x_5 x_6.2.2.1 x_6.2.1∧rd5q2 x r_3∧(∀ (a_15:Int) (r:List UInt8),rd5q30 r_3 a_15 r→rd5q38 x_5 x_6.2.2.1 x_6.2.1∧rd5q2 x r∧(∀ (a_17:Int) (r_4:List UInt8),rd5q30 r a_17 r_4→rd5q38 x_5 x_6.2.2.1 x_6.2.1∧rd5q38 x_5 x_6.2.2.1 x_6.2.1∧SM x_6.2.1∧side ((LN x_6.2.2.1 + N1) * (32:Nat) ≤ (140737488355328:Nat)∧LN x_6.2.2.1 + N1 ≤ (9223372036854775807:Nat)) (∀ (t:Nat),SM x_5∧rd5q40 x x_1 x_2 x_5 a x_4.1 a_8∧∃ (y:Nat × Nat × List I4 × List UInt8),rd5q31 a_8 r_2 y.1 y.2.2.1 y.2.2.2 l∧rd5q41 a_8 y.1 x_6.1∧rd5q42 x_6.1 y.1∧(SM x∧rd5q18 r_4 y.2.2.2∧SM x_5∧(SM a_5∧rd5q43 x_6.2.2.1 y.2.2.1 a_11 a_13 a_15 a_17 t y.2.1∧True)∧rd5q36 x_2 x_4.2.2.1 x_4.2.1 x_1)∧t = y.2.1∧SM x_4.2.1∧True))∧rd5q44 r l)∧rd5q44 r_3 l)∧rd5q44 r l)∧rd5q44 x_6.2.2.2 l) (rd5q45 x x_1 x_2 x_5 a x_4.1∧∃ (x_7:List I4 × List UInt8),rd5q46 a_8 r_2 x_7.1 x_7.2 l∧True∧(SM x∧rd5q18 x_6.2.2.2 x_7.2∧SM x_5∧(SM a_5∧rd5q47 x_6.2.2.1 x_7.1∧True)∧rd5q36 x_2 x_4.2.2.1 x_4.2.1 x_1)∧SM x_4.2.1∧True))∧∀ (x_6:List I4 × List UInt8),rd5q46 a_8 r_2 x_6.1 x_6.2 l→SM x_2∧SM x_5∧SM x_4.2.1∧side ((LN x_4.2.2.1 + N1) * (32:Nat) ≤ (140737488355328:Nat)∧LN x_4.2.2.1 + N1 ≤ (9223372036854775807:Nat)) (∀ (t:Nat),SM x_2∧rd5q17 x x_1 x_2 a∧∃ (y:Nat × Nat × List FnD × List UInt8),rd5q22 a r_1 y.1 y.2.2.1 y.2.2.2 l∧rd5q41 a y.1 x_4.1∧rd5q42 x_4.1 y.1∧(SM x∧rd5q18 x_6.2 y.2.2.2∧SM x_2∧(rd5q5∧(LN x_4.2.2.1 + N1 = LN y.2.2.1∧(∀ (i:Nat),i < LN x_4.2.2.1 + N1→appF (LN x_4.2.2.1) (fun (i:Nat) => rd5q27 x_4.2.2.1 i) (fun (i:Nat) => List.getD [[ZI a_5,rd5q48 x_6.1]] i []) i = rd5q27 y.2.2.1 i)∧t = y.2.1)∧rd5q7)∧rd5q10 x_1)∧t = y.2.1∧True))∧rd5q50 r l)∧rd5q44 x_4.2.2.2 l) (rd5q2 x x_4.2.2.2∧(∀ (a:Nat) (r:List UInt8),rd5q4 x_4.2.2.2 a r→∀ (t:Nat),(∃ (x_5:Nat × Nat × List KeD × List UInt8),rd5q51 a r x_5.1 x_5.2.2.1 x_5.2.2.2 l∧rd5q23 x_5.1∧(SM x∧rd5q18 r x_5.2.2.2∧SM x_2∧(rd5q5∧rd5q35 x_4.2.2.1 x_4.2.1∧(N0 = LN x_5.2.2.1∧(∀ (i:Nat),i < N0→eqOf (List D) [] (rd5q55 x_5.2.2.1 i))∧t = x_5.2.1)∧rd5q6)∧rd5q10 x_1)∧t = x_5.2.1∧SM x_4.2.1∧True)∧∀ (x_5:Nat × Nat × List KeD × List UInt8),rd5q51 a r x_5.1 x_5.2.2.1 x_5.2.2.2 l→ifB (rd5q28 x_5.1 a) (rd5q2 x x_5.2.2.2∧(∀ (a_7:Int) (r_2:List UInt8),rd5q30 x_5.2.2.2 a_7 r_2→∀ (x_6:Nat),x ≠ x_6∧x_2 ≠ x_6∧x_1 ≠ x_6∧True→SM x_6∧rd5q2 x r_2∧(∀ (a_10:Nat) (r_3:List UInt8),rd5q4 r_2 a_10 r_3→(∀ (t:Nat),(∃ (x_7:Nat × Nat × List I4 × List UInt8),rd5q31 a_10 r_3 x_7.1 x_7.2.2.1 x_7.2.2.2 l∧rd5q23 x_7.1∧(SM x∧rd5q18 r_3 x_7.2.2.2∧SM x_6∧(SM a_7∧rd5q34 x_7.2.2.1 t x_7.2.1∧rd5q56)∧rd5q58 x_2 x_4.2.2.1 x_4.2.1 x_5.2.2.1 x_5.2.1 x_1)∧t = x_7.2.1∧SM x_5.2.1∧SM x_4.2.1∧True)∧∀ (x_7:Nat × Nat × List I4 × List UInt8),rd5q31 a_10 r_3 x_7.1 x_7.2.2.1 x_7.2.2.2 l→ifB (rd5q28 x_7.1 a_10) (SM x_6∧rd5q2 x x_7.2.2.2∧(∀ (a_13:Int) (r:List UInt8),rd5q30 x_7.2.2.2 a_13 r→rd5q60 x_6 x_7.2.2.1 x_7.2.1∧rd5q2 x r∧(∀ (a_15:Int) (r_4:List UInt8),rd5q30 r a_15 r_4→rd5q60 x_6 x_7.2.2.1 x_7.2.1∧rd5q2 x r_4∧(∀ (a_17:Int) (r:List UInt8),rd5q30 r_4 a_17 r→rd5q60 x_6 x_7.2.2.1 x_7.2.1∧rd5q2 x r∧(∀ (a_19:Int) (r_5:List UInt8),rd5q30 r a_19 r_5→rd5q60 x_6 x_7.2.2.1 x_7.2.1∧rd5q60 x_6 x_7.2.2.1 x_7.2.1∧SM x_7.2.1∧side ((LN x_7.2.2.1 + N1) * (32:Nat) ≤ (140737488355328:Nat)∧LN x_7.2.2.1 + N1 ≤ (9223372036854775807:Nat)) (∀ (t:Nat),SM x_6∧rd5q40 x x_1 x_2 x_6 a x_5.1 a_10∧∃ (y:Nat × Nat × List I4 × List UInt8),rd5q31 a_10 r_3 y.1 y.2.2.1 y.2.2.2 l∧rd5q41 a_10 y.1 x_7.1∧rd5q42 x_7.1 y.1∧(SM x∧rd5q18 r_5 y.2.2.2∧SM x_6∧(SM a_7∧rd5q43 x_7.2.2.1 y.2.2.1 a_13 a_15 a_17 a_19 t y.2.1∧rd5q56)∧rd5q58 x_2 x_4.2.2.1 x_4.2.1 x_5.2.2.1 x_5.2.1 x_1)∧t = y.2.1∧SM x_5.2.1∧SM x_4.2.1∧True))∧rd5q44 r l)∧rd5q44 r_4 l)∧rd5q44 r l)∧rd5q44 x_7.2.2.2 l) (rd5q45 x x_1 x_2 x_6 a x_5.1∧∃ (x_8:List I4 × List UInt8),rd5q46 a_10 r_3 x_8.1 x_8.2 l∧True∧(SM x∧rd5q18 x_7.2.2.2 x_8.2∧SM x_6∧(SM a_7∧rd5q47 x_7.2.2.1 x_8.1∧rd5q56)∧rd5q58 x_2 x_4.2.2.1 x_4.2.1 x_5.2.2.1 x_5.2.1 x_1)∧SM x_5.2.1∧SM x_4.2.1∧True))∧∀ (x_7:List I4 × List UInt8),rd5q46 a_10 r_3 x_7.1 x_7.2 l→rd5q2 x x_7.2∧(∀ (a_13:Int) (r_4:List UInt8),rd5q30 x_7.2 a_13 r_4→rd5q2 x r_4∧(∀ (a_15:Int) (r_5:List UInt8),rd5q30 r_4 a_15 r_5→SM x_6∧SM x_6∧SM x_2∧SM x_6∧SM x_5.2.1∧side ((LN x_5.2.2.1 + N1) * (48:Nat) ≤ (140737488355328:Nat)∧LN x_5.2.2.1 + N1 ≤ (9223372036854775807:Nat)) (∀ (t:Nat),SM x_2∧rd5q17 x x_1 x_2 a∧∃ (y:Nat × Nat × List KeD × List UInt8),rd5q51 a r y.1 y.2.2.1 y.2.2.2 l∧rd5q41 a y.1 x_5.1∧rd5q42 x_5.1 y.1∧(SM x∧rd5q18 r_5 y.2.2.2∧SM x_2∧(rd5q5∧rd5q35 x_4.2.2.1 x_4.2.1∧(LN x_5.2.2.1 + N1 = LN y.2.2.1∧(∀ (i:Nat),i < LN x_5.2.2.1 + N1→appF (LN x_5.2.2.1) (fun (i:Nat) => rd5q55 x_5.2.2.1 i) (fun (i:Nat) => List.getD [[ZI a_7,rd5q48 x_7.1,ZI a_13,ZI a_15]] i []) i = rd5q55 y.2.2.1 i)∧t = y.2.1)∧rd5q6)∧rd5q10 x_1)∧t = y.2.1∧SM x_4.2.1∧True))∧rd5q44 r_4 l)∧rd5q44 x_7.2 l)∧rd5q50 r_2 l)∧rd5q44 x_5.2.2.2 l) (rd5q2 x x_5.2.2.2∧(∀ (a:Nat) (r:List UInt8),rd5q4 x_5.2.2.2 a r→∀ (t:Nat),(∃ (x_6:Nat × Nat × List LaD × List UInt8),rd5q61 a r x_6.1 x_6.2.2.1 x_6.2.2.2 l∧rd5q23 x_6.1∧(SM x∧rd5q18 r x_6.2.2.2∧SM x_2∧(rd5q5∧rd5q35 x_4.2.2.1 x_4.2.1∧rd5q57 x_5.2.2.1 x_5.2.1∧(N0 = LN x_6.2.2.1∧(∀ (i:Nat),i < N0→eqOf (List D) [] (rd5q65 x_6.2.2.1 i))∧t = x_6.2.1)∧True)∧rd5q10 x_1)∧t = x_6.2.1∧SM x_5.2.1∧SM x_4.2.1∧True)∧∀ (x_6:Nat × Nat × List LaD × List UInt8),rd5q61 a r x_6.1 x_6.2.2.1 x_6.2.2.2 l→ifB (rd5q28 x_6.1 a) (rd5q2 x x_6.2.2.2∧(∀ (a_9:Int) (r_2:List UInt8),rd5q30 x_6.2.2.2 a_9 r_2→∀ (x_7:Nat),x ≠ x_7∧x_2 ≠ x_7∧x_1 ≠ x_7∧True→SM x_7∧rd5q2 x r_2∧(∀ (a_12:Nat) (r_3:List UInt8),rd5q4 r_2 a_12 r_3→(∀ (t:Nat),(∃ (x_8:Nat × Nat × List I6 × List UInt8),rd5q66 a_12 r_3 x_8.1 x_8.2.2.1 x_8.2.2.2 l∧rd5q23 x_8.1∧(SM x∧rd5q18 r_3 x_8.2.2.2∧SM x_7∧(SM a_9∧(N0 = LN x_8.2.2.1∧(∀ (i:Nat),i < N0→eqOf (List D) [] (rd5q68 x_8.2.2.1 i))∧t = x_8.2.1)∧True)∧rd5q69 x_2 x_4.2.2.1 x_4.2.1 x_5.2.2.1 x_5.2.1 x_6.2.2.1 x_6.2.1 x_1)∧t = x_8.2.1∧SM x_6.2.1∧SM x_5.2.1∧SM x_4.2.1∧True)∧∀ (x_8:Nat × Nat × List I6 × List UInt8),rd5q66 a_12 r_3 x_8.1 x_8.2.2.1 x_8.2.2.2 l→ifB (rd5q28 x_8.1 a_12) (SM x_7∧rd5q2 x x_8.2.2.2∧(∀ (a_15:Int) (r:List UInt8),rd5q30 x_8.2.2.2 a_15 r→rd5q71 x_7 x_8.2.2.1 x_8.2.1∧rd5q2 x r∧(∀ (a_17:Int) (r_4:List UInt8),rd5q30 r a_17 r_4→rd5q71 x_7 x_8.2.2.1 x_8.2.1∧rd5q2 x r_4∧(∀ (a_19:Int) (r:List UInt8),rd5q30 r_4 a_19 r→rd5q71 x_7 x_8.2.2.1 x_8.2.1∧rd5q2 x r∧(∀ (a_21:Int) (r_5:List UInt8),rd5q30 r a_21 r_5→rd5q71 x_7 x_8.2.2.1 x_8.2.1∧rd5q2 x r_5∧(∀ (a_23:Int) (r:List UInt8),rd5q30 r_5 a_23 r→rd5q71 x_7 x_8.2.2.1 x_8.2.1∧rd5q2 x r∧(∀ (a_25:Int) (r_6:List UInt8),rd5q30 r a_25 r_6→rd5q71 x_7 x_8.2.2.1 x_8.2.1∧rd5q71 x_7 x_8.2.2.1 x_8.2.1∧SM x_8.2.1∧side ((LN x_8.2.2.1 + N1) * (48:Nat) ≤ (140737488355328:Nat)∧LN x_8.2.2.1 + N1 ≤ (9223372036854775807:Nat)) (∀ (t:Nat),SM x_7∧rd5q40 x x_1 x_2 x_7 a x_6.1 a_12∧∃ (y:Nat × Nat × List I6 × List UInt8),rd5q66 a_12 r_3 y.1 y.2.2.1 y.2.2.2 l∧rd5q41 a_12 y.1 x_8.1∧rd5q42 x_8.1 y.1∧(SM x∧rd5q18 r_6 y.2.2.2∧SM x_7∧(SM a_9∧(LN x_8.2.2.1 + N1 = LN y.2.2.1∧(∀ (i:Nat),i < LN x_8.2.2.1 + N1→appF (LN x_8.2.2.1) (fun (i:Nat) => rd5q68 x_8.2.2.1 i) (fun (i:Nat) => List.getD [[ZI a_15,ZI a_17,ZI a_19,ZI a_21,ZI a_23,ZI a_25]] i []) i = rd5q68 y.2.2.1 i)∧t = y.2.1)∧True)∧rd5q69 x_2 x_4.2.2.1 x_4.2.1 x_5.2.2.1 x_5.2.1 x_6.2.2.1 x_6.2.1 x_1)∧t = y.2.1∧SM x_6.2.1∧SM x_5.2.1∧SM x_4.2.1∧True))∧rd5q44 r l)∧rd5q44 r_5 l)∧rd5q44 r l)∧rd5q44 r_4 l)∧rd5q44 r l)∧rd5q44 x_8.2.2.2 l) (rd5q45 x x_1 x_2 x_7 a x_6.1∧∃ (x_9:List I6 × List UInt8),rd5q72 a_12 r_3 x_9.1 x_9.2 l∧True∧(SM x∧rd5q18 x_8.2.2.2 x_9.2∧SM x_7∧(SM a_9∧(LN x_8.2.2.1 = LN x_9.1∧(∀ (i:Nat),i < LN x_8.2.2.1→rd5q68 x_8.2.2.1 i = rd5q68 x_9.1 i)∧True)∧True)∧rd5q69 x_2 x_4.2.2.1 x_4.2.1 x_5.2.2.1 x_5.2.1 x_6.2.2.1 x_6.2.1 x_1)∧SM x_6.2.1∧SM x_5.2.1∧SM x_4.2.1∧True))∧∀ (x_8:List I6 × List UInt8),rd5q72 a_12 r_3 x_8.1 x_8.2 l→SM x_2∧SM x_7∧SM x_6.2.1∧side ((LN x_6.2.2.1 + N1) * (32:Nat) ≤ (140737488355328:Nat)∧LN x_6.2.2.1 + N1 ≤ (9223372036854775807:Nat)) (∀ (t:Nat),SM x_2∧rd5q17 x x_1 x_2 a∧∃ (y:Nat × Nat × List LaD × List UInt8),rd5q61 a r y.1 y.2.2.1 y.2.2.2 l∧rd5q41 a y.1 x_6.1∧rd5q42 x_6.1 y.1∧(SM x∧rd5q18 x_8.2 y.2.2.2∧SM x_2∧(rd5q5∧rd5q35 x_4.2.2.1 x_4.2.1∧rd5q57 x_5.2.2.1 x_5.2.1∧(LN x_6.2.2.1 + N1 = LN y.2.2.1∧(∀ (i:Nat),i < LN x_6.2.2.1 + N1→appF (LN x_6.2.2.1) (fun (i:Nat) => rd5q65 x_6.2.2.1 i) (fun (i:Nat) => List.getD [[ZI a_9,D.sl N6 (LN x_8.1) (fun (i:Nat) => rd5q68 x_8.1 i) Mode.any]] i []) i = rd5q65 y.2.2.1 i)∧t = y.2.1)∧True)∧rd5q10 x_1)∧t = y.2.1∧SM x_5.2.1∧SM x_4.2.1∧True))∧rd5q50 r_2 l)∧rd5q44 x_6.2.2.2 l) (SM x∧ifB (! (LI x_6.2.2.2) == Z0) (rd5q19 l) (True∧SM x_2∧SM x_1∧(SM x_1∧True)∧∃ (y:CY),codP l = some (CodD.mk [] y.1 y.2.1 y.2.2.1,[])∧rd5q5∧(LN x_4.2.2.1 = LN y.1∧(∀ (i:Nat),i < LN x_4.2.2.1→rd5q27 x_4.2.2.1 i = rd5q27 y.1 i)∧True)∧(LN x_5.2.2.1 = LN y.2.1∧(∀ (i:Nat),i < LN x_5.2.2.1→rd5q55 x_5.2.2.1 i = rd5q55 y.2.1 i)∧True)∧(LN x_6.2.2.1 = LN y.2.2.1∧(∀ (i:Nat),i < LN x_6.2.2.1→rd5q65 x_6.2.2.1 i = rd5q65 y.2.2.1 i)∧True)∧True)))∧rd5q50 x_5.2.2.2 l))∧rd5q50 x_4.2.2.2 l))∧rd5q50 r l))∧(rd5q49 l→rd5q20 l)) (by kernel_rfl) ?_
  delta BI D4 D6 DF DK DL LI LN N0 N1 N2 N4 N6 R4 R6 SM U0 Z0 Z1 ZB ZI rd5q0 rd5q1 rd5q10 rd5q11 rd5q12 rd5q13 rd5q14 rd5q15 rd5q16 rd5q17 rd5q18 rd5q19 rd5q2 rd5q20 rd5q21 rd5q22 rd5q23 rd5q24 rd5q25 rd5q26 rd5q27 rd5q28 rd5q29 rd5q3 rd5q30 rd5q31 rd5q32 rd5q33 rd5q34 rd5q35 rd5q36 rd5q37 rd5q38 rd5q39 rd5q4 rd5q40 rd5q41 rd5q42 rd5q43 rd5q44 rd5q45 rd5q46 rd5q47 rd5q48 rd5q49 rd5q5 rd5q50 rd5q51 rd5q52 rd5q53 rd5q54 rd5q55 rd5q56 rd5q57 rd5q58 rd5q59 rd5q6 rd5q60 rd5q61 rd5q62 rd5q63 rd5q64 rd5q65 rd5q66 rd5q67 rd5q68 rd5q69 rd5q7 rd5q70 rd5q71 rd5q72 rd5q8 rd5q9
  have da:(default:Arr) = Arr.mk 0 [] [] [] := rfl
  have dF:(default:FnD) = ⟨0,[]⟩ := rfl
  have dK:(default:KeD) = ⟨0,[],0,0⟩ := rfl
  have dL:(default:LaD) = ⟨0,[]⟩ := rfl
  have d4:(default:I4) = ⟨0,0,0,0⟩ := rfl
  have d6:(default:I6) = ⟨0,0,0,0,0,0⟩ := rfl
  simp only [← dF,← dK,← dL,← d4,← d6,eq_self,ne_eq,implies_true,Int.toNat_natCast,ifB_iff,side_iff,decide_eq_true_eq,decide_eq_false_iff_not,true_and,and_true,exists_const,forall_const,bytesOf_bsl,rowsB_bsl,natOfR]
  intro x1 _ x2 _
  refine ⟨hl,fun n0 rr hn0 => ?_,fun h => noC (bindP_none h)⟩
  have e := hn n0 rr hn0
  subst e
  have hcod:codP l = codT [] rr := (bindP_some hn0).trans rfl
  have hr1 := cntP_ok hn0
  refine ⟨fun h => absurd h (by simp),fun _ => ?_⟩
  refine ⟨by omega,fun n1 r1 hn1 t0 => ⟨⟨(0,t0,[],r1),⟨LHd.init _ _ _,?_⟩,rfl,⟨⟨rfl,fun _ _ => rfl⟩,rfl,fun i hi => absurd hi (Nat.not_lt_zero i),rfl⟩,rfl⟩,?_⟩,fun h => noC (hcod.trans (bindP_none h))⟩
  · have := cntP_ok hn1; simp only; omega
  have hc1 := hcod.trans (bindP_some hn1)
  have le1 := cntP_ok hn1
  rintro ⟨i,t1,fs,rs⟩ ⟨hL,hrl⟩
  simp only at hL hrl ⊢
  have hsl := hL.hs
  have hi := hL.hi
  refine ⟨fun hlt => ?_,fun hge => ?_⟩
  · have fail:funP rs = none→∀ c,¬ codP l = some (c,[]) := fun h => noC (hc1.trans (bindP_none (hL.none (by omega) h)))
    refine ⟨by omega,fun sl ra ha _ _ => ⟨by have := num_le ha; omega,fun m rb hm => ⟨fun t2 => ⟨⟨(0,t2,[],rb),⟨LHd.init _ _ _,?_⟩,rfl,⟨⟨rfl,fun _ _ => rfl⟩,rfl,fun i hi => absurd hi (Nat.not_lt_zero i),rfl⟩,rfl⟩,?_⟩,?_⟩,fun h => fail ((bindP_some ha).trans (bindP_none h))⟩,fun h => fail (bindP_none h)⟩
    · have := num_le ha; have := cntP_ok hm; simp only; omega
    · have lea := num_le ha
      have lem := cntP_ok hm
      rintro ⟨j,t3,code,r0⟩ ⟨hM,hr0⟩
      simp only at hM hr0 ⊢
      have hms := hM.hs
      have hmi := hM.hi
      refine ⟨fun hjl => ?_,fun hjg => ⟨(code,r0),⟨hM.done (by omega),hr0⟩,⟨rfl,fun _ _ => rfl⟩,rfl,fun _ _ => rfl⟩⟩
      have fail2:p4 r0 = none→∀ c,¬ codP l = some (c,[]) := fun h => fail ((bindP_some ha).trans ((bindP_some hm).trans (bindP_none (hM.none (by omega) h))))
      refine ⟨by  omega,fun a ra' ha' => ⟨by have := num_le ha'; omega,fun b rb' hb' => ⟨by have := num_le ha'; have := num_le hb'; omega,fun c rc' hc' => ⟨by have := num_le ha'; have := num_le hb'; have := num_le hc'; omega,fun d rd' hd' => ⟨by omega,fun t4 => ?_⟩,fun h => fail2 ((bindP_some ha').trans ((bindP_some hb').trans ((bindP_some hc').trans (bindP_none h))))⟩,fun h => fail2 ((bindP_some ha').trans ((bindP_some hb').trans (bindP_none h)))⟩,fun h => fail2 ((bindP_some ha').trans (bindP_none h))⟩,fun h => fail2 (bindP_none h)⟩
      have hp:p4 r0 = some (⟨a,b,c,d⟩,rd') := (bindP_some ha').trans ((bindP_some hb').trans ((bindP_some hc').trans (bindP_some hd')))
      exact ⟨(j + 1,t4,code ++ [I4.mk a b c d],rd'),⟨hM.step (by omega) hp,by have := num_le ha'; have := num_le hb'; have := num_le hc'; have := num_le hd'; simp only; omega⟩,by simp only; omega,wrap_i64' (by omega) (by omega),⟨⟨rfl,fun _ _ => rfl⟩,by simp,fun j hj => app_list I4.row code (I4.mk a b c d) rfl hj,rfl⟩,rfl⟩
    rintro ⟨code,r0⟩ ⟨hmd,hr0⟩
    simp only at hmd hr0 ⊢
    refine ⟨by omega,fun t4 => ?_⟩
    have hp:funP rs = some (⟨sl,code⟩,r0) := (bindP_some ha).trans ((bindP_some hm).trans (bindP_some hmd))
    exact ⟨(i + 1,t4,fs ++ [FnD.mk sl code],r0),⟨hL.step (by omega) hp,by simp only; omega⟩,by simp only; omega,wrap_i64' (by omega) (by omega),⟨⟨rfl,fun _ _ => rfl⟩,by simp,fun j hj => app_list FnD.row fs (FnD.mk sl code) rfl hj,rfl⟩,rfl⟩
  have hcd2 := hc1.trans (bindP_some (hL.done (by omega)))
  clear hc1 le1 hL hi hge hsl hn1 i t1 t0 n1
  refine ⟨by omega,fun n1 r1 hn1 t0 => ⟨⟨(0,t0,[],r1),⟨LHd.init _ _ _,?_⟩,rfl,⟨⟨rfl,fun _ _ => rfl⟩,rfl,fun i hi => absurd hi (Nat.not_lt_zero i),rfl⟩,rfl⟩,?_⟩,fun h => noC (hcd2.trans (bindP_none h))⟩
  · have := cntP_ok hn1; simp only; omega
  have hc1 := hcd2.trans (bindP_some hn1)
  have le1 := cntP_ok hn1
  rintro ⟨i,t1,ks,ru⟩ ⟨hL,hrl⟩
  simp only at hL hrl ⊢
  have hsl := hL.hs
  have hi := hL.hi
  refine ⟨fun hlt => ?_,fun hge => ?_⟩
  · have fail:kerP ru = none→∀ c,¬ codP l = some (c,[]) := fun h => noC (hc1.trans (bindP_none (hL.none (by omega) h)))
    refine ⟨by omega,fun sl ra ha _ _ => ⟨by have := num_le ha; omega,fun m rb hm => ⟨fun t2 => ⟨⟨(0,t2,[],rb),⟨LHd.init _ _ _,?_⟩,rfl,⟨⟨rfl,fun _ _ => rfl⟩,rfl,fun i hi => absurd hi (Nat.not_lt_zero i),rfl⟩,rfl⟩,?_⟩,?_⟩,fun h => fail ((bindP_some ha).trans (bindP_none h))⟩,fun h => fail (bindP_none h)⟩
    · have := num_le ha; have := cntP_ok hm; simp only; omega
    · have lea := num_le ha
      have lem := cntP_ok hm
      rintro ⟨j,t3,code,r0⟩ ⟨hM,hr0⟩
      simp only at hM hr0 ⊢
      have hms := hM.hs
      have hmi := hM.hi
      refine ⟨fun hjl => ?_,fun hjg => ⟨(code,r0),⟨hM.done (by omega),hr0⟩,⟨rfl,fun _ _ => rfl⟩,rfl,fun _ _ => rfl⟩⟩
      have fail2:p4 r0 = none→∀ c,¬ codP l = some (c,[]) := fun h => fail ((bindP_some ha).trans ((bindP_some hm).trans (bindP_none (hM.none (by omega) h))))
      refine ⟨by  omega,fun a ra' ha' => ⟨by have := num_le ha'; omega,fun b rb' hb' => ⟨by have := num_le ha'; have := num_le hb'; omega,fun c rc' hc' => ⟨by have := num_le ha'; have := num_le hb'; have := num_le hc'; omega,fun d rd' hd' => ⟨by omega,fun t4 => ?_⟩,fun h => fail2 ((bindP_some ha').trans ((bindP_some hb').trans ((bindP_some hc').trans (bindP_none h))))⟩,fun h => fail2 ((bindP_some ha').trans ((bindP_some hb').trans (bindP_none h)))⟩,fun h => fail2 ((bindP_some ha').trans (bindP_none h))⟩,fun h => fail2 (bindP_none h)⟩
      have hp:p4 r0 = some (⟨a,b,c,d⟩,rd') := (bindP_some ha').trans ((bindP_some hb').trans ((bindP_some hc').trans (bindP_some hd')))
      exact ⟨(j + 1,t4,code ++ [I4.mk a b c d],rd'),⟨hM.step (by omega) hp,by have := num_le ha'; have := num_le hb'; have := num_le hc'; have := num_le hd'; simp only; omega⟩,by simp only; omega,wrap_i64' (by omega) (by omega),⟨⟨rfl,fun _ _ => rfl⟩,by simp,fun j hj => app_list I4.row code (I4.mk a b c d) rfl hj,rfl⟩,rfl⟩
    rintro ⟨code,r0⟩ ⟨hmd,hr0⟩
    simp only at hmd hr0 ⊢
    refine ⟨by omega,fun re rf hre => ⟨by have := num_le hre; omega,fun at_ rg hat => ⟨by omega,fun t4 => ?_⟩,fun h => fail ((bindP_some ha).trans ((bindP_some hm).trans ((bindP_some hmd).trans ((bindP_some hre).trans (bindP_none h)))))⟩,fun h => fail ((bindP_some ha).trans ((bindP_some hm).trans ((bindP_some hmd).trans (bindP_none h))))⟩
    have hp:kerP ru = some (⟨sl,code,re,at_⟩,rg) := (bindP_some ha).trans ((bindP_some hm).trans ((bindP_some hmd).trans ((bindP_some hre).trans (bindP_some hat))))
    exact ⟨(i + 1,t4,ks ++ [KeD.mk sl code re at_],rg),⟨hL.step (by omega) hp,by have := num_le hre; have := num_le hat; simp only; omega⟩,by simp only; omega,wrap_i64' (by omega) (by omega),⟨⟨rfl,fun _ _ => rfl⟩,by simp,fun j hj => app_list KeD.row ks (KeD.mk sl code re at_) rfl hj,rfl⟩,rfl⟩
  have hcd3 := hc1.trans (bindP_some (hL.done (by omega)))
  clear hc1 le1 hL hi hge hsl hn1 i t1 t0 n1
  refine ⟨by omega,fun n1 r1 hn1 t0 => ⟨⟨(0,t0,[],r1),⟨LHd.init _ _ _,?_⟩,rfl,⟨⟨rfl,fun _ _ => rfl⟩,rfl,fun i hi => absurd hi (Nat.not_lt_zero i),rfl⟩,rfl⟩,?_⟩,fun h => noC (hcd3.trans (bindP_none h))⟩
  · have := cntP_ok hn1; simp only; omega
  have hc1 := hcd3.trans (bindP_some hn1)
  have le1 := cntP_ok hn1
  rintro ⟨i,t1,ls,rv⟩ ⟨hL,hrl⟩
  simp only at hL hrl ⊢
  have hsl := hL.hs
  have hi := hL.hi
  refine ⟨fun hlt => ?_,fun hge => ?_⟩
  · have fail:lanP rv = none→∀ c,¬ codP l = some (c,[]) := fun h => noC (hc1.trans (bindP_none (hL.none (by omega) h)))
    refine ⟨by omega,fun sl ra ha _ _ => ⟨by have := num_le ha; omega,fun m rb hm => ⟨fun t2 => ⟨⟨(0,t2,[],rb),⟨LHd.init _ _ _,?_⟩,rfl,⟨⟨rfl,fun _ _ => rfl⟩,rfl,fun i hi => absurd hi (Nat.not_lt_zero i),rfl⟩,rfl⟩,?_⟩,?_⟩,fun h => fail ((bindP_some ha).trans (bindP_none h))⟩,fun h => fail (bindP_none h)⟩
    · have := num_le ha; have := cntP_ok hm; simp only; omega
    · have lea := num_le ha
      have lem := cntP_ok hm
      rintro ⟨j,t3,code,r0⟩ ⟨hM,hr0⟩
      simp only at hM hr0 ⊢
      have hms := hM.hs
      have hmi := hM.hi
      refine ⟨fun hjl => ?_,fun hjg => ⟨(code,r0),⟨hM.done (by omega),hr0⟩,⟨rfl,fun _ _ => rfl⟩,rfl,fun _ _ => rfl⟩⟩
      have fail2:p6 r0 = none→∀ c,¬ codP l = some (c,[]) := fun h => fail ((bindP_some ha).trans ((bindP_some hm).trans (bindP_none (hM.none (by omega) h))))
      refine ⟨by  omega,fun a ra' ha' => ⟨by have := num_le ha'; omega,fun b rb' hb' => ⟨by have := num_le ha'; have := num_le hb'; omega,fun c rc' hc' => ⟨by have := num_le ha'; have := num_le hb'; have := num_le hc'; omega,fun d rd' hd' => ⟨by have := num_le ha'; have := num_le hb'; have := num_le hc'; have := num_le hd'; omega,fun e re' he' => ⟨by have := num_le ha'; have := num_le hb'; have := num_le hc'; have := num_le hd'; have := num_le he'; omega,fun f rf' hf' => ⟨by omega,fun t4 => ?_⟩,fun h => fail2 ((bindP_some ha').trans ((bindP_some hb').trans ((bindP_some hc').trans ((bindP_some hd').trans ((bindP_some he').trans (bindP_none h))))))⟩,fun h => fail2 ((bindP_some ha').trans ((bindP_some hb').trans ((bindP_some hc').trans ((bindP_some hd').trans (bindP_none h)))))⟩,fun h => fail2 ((bindP_some ha').trans ((bindP_some hb').trans ((bindP_some hc').trans (bindP_none h))))⟩,fun h => fail2 ((bindP_some ha').trans ((bindP_some hb').trans (bindP_none h)))⟩,fun h => fail2 ((bindP_some ha').trans (bindP_none h))⟩,fun h => fail2 (bindP_none h)⟩
      have hp:p6 r0 = some (⟨a,b,c,d,e,f⟩,rf') := (bindP_some ha').trans ((bindP_some hb').trans ((bindP_some hc').trans ((bindP_some hd').trans ((bindP_some he').trans (bindP_some hf')))))
      exact ⟨(j + 1,t4,code ++ [I6.mk a b c d e f],rf'),⟨hM.step (by omega) hp,by have := num_le ha'; have := num_le hb'; have := num_le hc'; have := num_le hd'; have := num_le he'; have := num_le hf'; simp only; omega⟩,by simp only; omega,wrap_i64' (by omega) (by omega),⟨⟨rfl,fun _ _ => rfl⟩,by simp,fun j hj => app_list I6.row code (I6.mk a b c d e f) rfl hj,rfl⟩,rfl⟩
    rintro ⟨code,r0⟩ ⟨hmd,hr0⟩
    simp only at hmd hr0 ⊢
    refine ⟨by omega,fun t4 => ?_⟩
    have hp:lanP rv = some (⟨sl,code⟩,r0) := (bindP_some ha).trans ((bindP_some hm).trans (bindP_some hmd))
    exact ⟨(i + 1,t4,ls ++ [LaD.mk sl code],r0),⟨hL.step (by omega) hp,by simp only; omega⟩,by simp only; omega,wrap_i64' (by omega) (by omega),⟨⟨rfl,fun _ _ => rfl⟩,by simp,fun j hj => app_list LaD.row ls (LaD.mk sl code) rfl hj,rfl⟩,rfl⟩
  have hcd4 := hc1.trans (bindP_some (hL.done (by omega)))
  clear hc1 le1 hL hi hge hsl hn1 i t1 t0 n1
  refine ⟨fun h => ?_,fun h => ?_⟩
  · have h:rv ≠ [] := fun e => by simp [e] at h
    intro c e
    rw [hcd4] at e
    injection e with e; injection e with _ e
    exact h e
  · have h:rv = [] := by simpa using h
    subst h
    exact ⟨(fs,ks,ls,[]),hcd4,⟨rfl,fun _ _ => rfl⟩,⟨rfl,fun _ _ => rfl⟩,rfl,fun _ _ => rfl⟩
end Go.Proofs.Ytoglbmhkfkghbaa
namespace Go.Proofs.Ytoglbmhkfkghbaa
open Go Go.Ab
set_option maxRecDepth 100000
def _root_.Go.Ab.vecIs (dc:D) (cs:List Arr) (S:St):Prop := match dc with
  | .vs k b len cap w => chk (decide (w = 4)) (len = cs.length∧leS ⟨[(k,b,.vec 4 cs.length cap (fun i => (cs.getD i default).row1))],[]⟩ S)
  | _ => False
def _root_.Go.Ab.endC1 (p:Option (CodD × List UInt8)) (e:AEnd) (S:St):Prop :=
  match e with
  | .ret (.agg [dc,df,dk,dl]) => ∃ y:List Arr × CY,p = some (⟨y.1,y.2.1,y.2.2.1,y.2.2.2.1⟩,[])∧vecIs dc y.1 S∧weakD df (gsl 2 FnD.row y.2.1)∧weakD dk (gsl 4 KeD.row y.2.2.1)∧weakD dl (gsl 2 LaD.row y.2.2.2.1)
  | .pan d' => (∀ c,p ≠ some (c,[]))∧weakD d' brk
  | _ => False
noncomputable def Ec1 (l:List UInt8):Senv := { EC con0 136 1 [2,3,4,5,6,8,9,10,20,21,22,27,28,29,53,54,55,60,61,62,92,93,94,99,100,101] (fun id => match id with | 4 => ([0,1,2,3,4,5,6,7],[3,4,5,7]) | 11 => ([0,1,2,4,6,8,3,5,7,9,10,11,12,13,14],[3,5,7,9,11,12,14]) | 20 => ([0,1,2,4,6,8,3,5,7,9,10,11,12,13,14],[3,5,7,9,11,12,14]) | 30 => ([0,1,2,4,6,8,10,12,3,5,7,9,11,13,14,15,16,17,18],[3,5,7,9,11,13,15,16,18]) | _ => ([],[])) with
  inl := inlB con0 17
  own := fun t => Nat.beq t 27
  gh := fun b => match b with
    | 2 => [.cell 2 201]
    | 4 => [.cell 4 401]
    | 6 => [.cell 2 402]
    | 8 => [.cell 4 401]
    | 10 => [.cell 2 203]
    | 12 => [.cell 4 601]
    | _ => []
  ann2 := fun b env S => match b with
    | 0 => some ({ slots := [9],keep := [0,2,3,8],α := Unit,st := fun _ => ([.int .i64 0],S),inv := fun _ => True,mu := fun _ => natOfR (Ab.look env 8) },
      { slots := [9],keep := [0,2,3,8],α := Nat × (Nat × Nat) × List Arr × List UInt8,st := fun y => ([.int .i64 y.1],⟨(3,y.2.1.1,.vec 4 y.2.2.1.length y.2.1.2 (fun i => (y.2.2.1.getD i default).row1)) :: setO (putC S.objs 2 0 (.vs 3 y.2.1.1 y.2.2.1.length y.2.1.2 4)) 0 (.cells [bsl y.2.2.2 .any]),[]⟩),inv := fun y => LHd (arrP 17) (natOfR (Ab.look env 8)) (rdL S.objs) y.1 y.2.2.1 y.2.2.2∧y.2.2.1.length ≤ y.2.1.2∧y.2.2.2.length ≤ l.length,mu := fun y => natOfR (Ab.look env 8) - y.1 })
    | _ => none
  ann := fun b env S => match b with
    | 2 => some { slots := [21],keep := [0,2,3,20],α := Nat × Nat × List FnD × List UInt8,st := fun y => ([.int .i64 y.1],⟨setO (putC S.objs 2 1 (.sl 2 y.2.2.1.length (fun i => FnD.row (y.2.2.1.getD i default)) (.tok 0 y.2.1))) 0 (.cells [bsl y.2.2.2 .any]),(0,y.2.1) :: S.toks.tail⟩),inv := fun y => LHd funP (natOfR (Ab.look env 20)) (rdL S.objs) y.1 y.2.2.1 y.2.2.2∧y.2.2.2.length ≤ l.length,mu := fun y => natOfR (Ab.look env 20) - y.1 }
    | 4 => some { slots := [28],keep := [0,2,3,4,20,21,27],α := Nat × Nat × List I4 × List UInt8,st := fun y => ([.int .i64 y.1],⟨setO (putC S.objs 4 1 (.sl 4 y.2.2.1.length (fun i => I4.row (y.2.2.1.getD i default)) (.tok 1 y.2.1))) 0 (.cells [bsl y.2.2.2 .any]),(1,y.2.1) :: S.toks.tail⟩),inv := fun y => LHd p4 (natOfR (Ab.look env 27)) (rdL S.objs) y.1 y.2.2.1 y.2.2.2∧y.2.2.2.length ≤ l.length,mu := fun y => natOfR (Ab.look env 27) - y.1 }
    | 6 => some { slots := [54],keep := [0,2,3,53],α := Nat × Nat × List KeD × List UInt8,st := fun y => ([.int .i64 y.1],⟨setO (putC S.objs 2 2 (.sl 4 y.2.2.1.length (fun i => KeD.row (y.2.2.1.getD i default)) (.tok 1 y.2.1))) 0 (.cells [bsl y.2.2.2 .any]),(1,y.2.1) :: S.toks.tail⟩),inv := fun y => LHd kerP (natOfR (Ab.look env 53)) (rdL S.objs) y.1 y.2.2.1 y.2.2.2∧y.2.2.2.length ≤ l.length,mu := fun y => natOfR (Ab.look env 53) - y.1 }
    | 8 => some { slots := [61],keep := [0,2,3,5,53,54,60],α := Nat × Nat × List I4 × List UInt8,st := fun y => ([.int .i64 y.1],⟨setO (putC S.objs 4 1 (.sl 4 y.2.2.1.length (fun i => I4.row (y.2.2.1.getD i default)) (.tok 2 y.2.1))) 0 (.cells [bsl y.2.2.2 .any]),(2,y.2.1) :: S.toks.tail⟩),inv := fun y => LHd p4 (natOfR (Ab.look env 60)) (rdL S.objs) y.1 y.2.2.1 y.2.2.2∧y.2.2.2.length ≤ l.length,mu := fun y => natOfR (Ab.look env 60) - y.1 }
    | 10 => some { slots := [93],keep := [0,2,3,92],α := Nat × Nat × List LaD × List UInt8,st := fun y => ([.int .i64 y.1],⟨setO (putC S.objs 2 3 (.sl 2 y.2.2.1.length (fun i => LaD.row (y.2.2.1.getD i default)) (.tok 2 y.2.1))) 0 (.cells [bsl y.2.2.2 .any]),(2,y.2.1) :: S.toks.tail⟩),inv := fun y => LHd lanP (natOfR (Ab.look env 92)) (rdL S.objs) y.1 y.2.2.1 y.2.2.2∧y.2.2.2.length ≤ l.length,mu := fun y => natOfR (Ab.look env 92) - y.1 }
    | 12 => some { slots := [100],keep := [0,2,3,6,92,93,99],α := Nat × Nat × List I6 × List UInt8,st := fun y => ([.int .i64 y.1],⟨setO (putC S.objs 4 1 (.sl 6 y.2.2.1.length (fun i => I6.row (y.2.2.1.getD i default)) (.tok 3 y.2.1))) 0 (.cells [bsl y.2.2.2 .any]),(3,y.2.1) :: S.toks.tail⟩),inv := fun y => LHd p6 (natOfR (Ab.look env 99)) (rdL S.objs) y.1 y.2.2.1 y.2.2.2∧y.2.2.2.length ≤ l.length,mu := fun y => natOfR (Ab.look env 99) - y.1 }
    | _ => none
  bcut := fun b env S => match b with
    | 4 => some { slots := [],keep := [0,2,3,4,20,21],α := List I4 × List UInt8,st := fun y => ([],⟨setO (putC S.objs 4 1 (gsl 4 I4.row y.1)) 0 (.cells [bsl y.2 .any]),S.toks⟩),inv := fun y => listP p4 (natOfR (Ab.look env 27)) (rdL S.objs) = some (y.1,y.2)∧y.2.length ≤ l.length,mu := fun _ => 0 }
    | 8 => some { slots := [],keep := [0,2,3,5,53,54],α := List I4 × List UInt8,st := fun y => ([],⟨setO (putC S.objs 4 1 (gsl 4 I4.row y.1)) 0 (.cells [bsl y.2 .any]),S.toks⟩),inv := fun y => listP p4 (natOfR (Ab.look env 60)) (rdL S.objs) = some (y.1,y.2)∧y.2.length ≤ l.length,mu := fun _ => 0 }
    | 12 => some { slots := [],keep := [0,2,3,6,92,93],α := List I6 × List UInt8,st := fun y => ([],⟨setO (putC S.objs 4 1 (gsl 6 I6.row y.1)) 0 (.cells [bsl y.2 .any]),S.toks⟩),inv := fun y => listP p6 (natOfR (Ab.look env 99)) (rdL S.objs) = some (y.1,y.2)∧y.2.length ≤ l.length,mu := fun _ => 0 }
    | _ => none }
noncomputable section
def rd6q0 (p0:List UInt8) (p1:Nat):List D := [ZB (BI p0 p1)]
def rd6q1 (p0:List UInt8):List UInt8 := bytesOf (LN p0) fun (i:Nat) => rd6q0 p0 i
def rd6q2 (p0:Nat) (p1:List UInt8):Prop := SM p0∧(rowsB (LN p1) fun (i:Nat) => rd6q0 p1 i) = true∧LN p1 ≤ (4294967296:Nat)∧(SM p0∧((LN p1 = LN (rd6q1 p1)∧(∀ (i:Nat),i < LN p1→rd6q0 p1 i = [ZB (BI (rd6q1 p1) i)])∧True)∧True)∧True)∧True
def rd6q3 (p0:List UInt8):Option (Nat × List UInt8) := cntP (rd6q1 p0)
def rd6q4 (p0:List UInt8) (p1:Nat) (p2:List UInt8):Prop := rd6q3 p0 = some (p1,p2)
def rd6q5 (p0:Nat) (p1:List UInt8):Nat × Nat × AObj := (N0,p0,AObj.cells [D.sl N1 (LN p1) (fun (i:Nat) => rd6q0 p1 i) Mode.any])
def rd6q6:D := D.sl N1 N0 (fun (_x:Nat) => []) Mode.nil
def rd6q7:List D := [rd6q6]
def rd6q8:List D := rd6q6 :: rd6q6 :: rd6q7
def rd6q9 (p0:Nat):Nat × AObj := (p0,AObj.cells (rd6q6 :: rd6q8))
def rd6q10 (p0:Nat):List (Nat × Nat × AObj) := [(N1,rd6q9 p0)]
def rd6q11 (p0:Nat) (p1:List UInt8) (p2 p3:Nat):St := St.mk (rd6q5 p0 p1 :: (N2,rd6q9 p2) :: rd6q10 p3) []
def rd6q12 (p0:Nat):Nat := natOfR (ZI (↑p0:Int))
def rd6q13 (p0:Nat) (p1:List UInt8) (p2:Nat) (p3:List Arr) (p4:List UInt8) (p5:Nat) (p6:List UInt8):Prop := LHd (arrP (17:Nat)) (rd6q12 p0) (rd6q1 p1) p2 p3 p4∧LN p3 ≤ p5∧LN p4 ≤ LN p6
def rd6q14 (p0:Nat):Prop := Z0 = (↑p0:Int)∧True
def rd6q15:Arr := DA
def rd6q16 (p0:List Arr) (p1:Nat):Arr := List.getD p0 p1 rd6q15
def rd6q17 (p0:List Arr) (p1:Nat):List Int := Arr.sh (rd6q16 p0 p1)
def rd6q18 (p0:List Arr) (p1:Nat):List Int := Arr.nu (rd6q16 p0 p1)
def rd6q19 (p0:List Arr) (p1:Nat):List Arr := Arr.it (rd6q16 p0 p1)
def rd6q20 (p0:List Arr) (p1:Nat):List D := [ZI (Arr.k (rd6q16 p0 p1)),SI (rd6q17 p0 p1),SI (rd6q18 p0 p1),D.sl N4 (LN (rd6q19 p0 p1)) (fun (i:Nat) => Arr.row (List.getD (rd6q19 p0 p1) i rd6q15)) Mode.any]
def rd6q21 (p0:Nat) (p1:List Arr) (p2 p3:Nat) (p4:List UInt8) (p5 p6:Nat):St := St.mk (((3:Nat),p0,AObj.vec N4 (LN p1) p2 fun (i:Nat) => rd6q20 p1 i) :: rd6q5 p3 p4 :: (N2,p5,AObj.cells (D.vs (3:Nat) p0 (LN p1) p2 N4 :: rd6q8)) :: rd6q10 p6) []
def rd6q22 (p0:List UInt8):Option (Arr × List UInt8) := arrP (17:Nat) (rd6q1 p0)
def rd6q23 (p0:List UInt8) (p1:Arr) (p2:List UInt8):Prop := rd6q22 p0 = some (p1,p2)
def rd6q24 (p0:Nat):Prop := SM p0∧SM rd6q6
def rd6q25 (p0 p1 p2 p3:Nat):Prop := p0 ≠ p1∧p2 ≠ p1∧p3 ≠ p1∧True
def rd6q26 (p0:Nat):Prop := SM (D.ref N0 p0 N0)
def rd6q27 (p0:Nat):Prop := SM (D.ref N1 p0 N0)
def rd6q28 (p0:Nat):Prop := SM (D.ref N2 p0 N0)
def rd6q29 (p0:Nat):Prop := SM (ZI (↑p0:Int))
def rd6q30 (p0 p1 p2 p3:Nat):Prop := rd6q26 p0∧rd6q27 p1∧rd6q28 p2∧rd6q29 p3∧True
def rd6q31 (p0:Arr) (p1:Nat):List D := List.getD [[ZI (Arr.k p0),SI (Arr.sh p0),SI (Arr.nu p0),D.sl N4 (LN (Arr.it p0)) (fun (i:Nat) => Arr.row (List.getD (Arr.it p0) i rd6q15)) Mode.any]] p1 []
def rd6q32 (p0 p1:Nat) (p2:Arr) (p3:Nat) (p4:List UInt8) (p5 p6:Nat):St := St.mk (((8:Nat),p0,AObj.vec N4 N1 p1 fun (i:Nat) => rd6q31 p2 i) :: rd6q5 p3 p4 :: (N2,p5,AObj.cells (D.vs (8:Nat) p0 N1 p1 N4 :: rd6q8)) :: rd6q10 p6) []
def rd6q33 (p0 p1:Nat):Nat := rd6q12 p0 - p1
def rd6q34 (p0:List UInt8):Prop := (∀ (c:CodD),codP p0 ≠ some (c,[]))∧SM (96:Nat)∧True
def rd6q35 (p0:List UInt8):Prop := ∀ (_r:List UInt8),rd6q34 p0
def rd6q36 (p0 p1:List UInt8):Prop := rd6q22 p0 = none→rd6q35 p1
def rd6q37 (p0:Nat) (p1:List UInt8) (p2:Nat) (p3:List FnD) (p4 p5:List UInt8):Prop := LHd funP (rd6q12 p0) (rd6q1 p1) p2 p3 p4∧LN p4 ≤ LN p5
def rd6q38 (p0 p1:List UInt8):Prop := (LN p0 = LN p1∧(∀ (i:Nat),i < LN p0→rd6q0 p0 i = rd6q0 p1 i)∧True)∧True
def rd6q39:Prop := SM N0∧(∀ (i:Nat),i < N0→eqOf (List D) [] [])∧True
def rd6q40 (p0:List FnD) (p1:Nat):List I4 := FnD.code (List.getD p0 p1 DF)
def rd6q41:I4 := D4
def rd6q42 (p0:List FnD) (p1 p2:Nat):I4 := List.getD (rd6q40 p0 p1) p2 rd6q41
def rd6q43 (p0:List FnD) (p1:Nat):List D := [ZI (FnD.slots (List.getD p0 p1 DF)),D.sl N4 (LN (rd6q40 p0 p1)) (fun (i:Nat) => (R4 (rd6q42 p0 p1 i))) Mode.any]
def rd6q44:Prop := rd6q39∧True
def rd6q45:Prop := rd6q39∧rd6q44
def rd6q46 (p0:List FnD) (p1 p2:Nat):Prop := (N0 = LN p0∧(∀ (i:Nat),i < N0→eqOf (List D) [] (rd6q43 p0 i))∧p1 = p2)∧rd6q45
def rd6q47 (p0:Nat):Prop := SM p0∧(rd6q39∧rd6q39∧rd6q45)∧True
def rd6q48 (p0 p1:Nat):Bool := decide ((↑p0:Int) < (↑p1:Int))
def rd6q49 (p0:List UInt8):Option (Int × List UInt8) := numP (rd6q1 p0)
def rd6q50 (p0:List UInt8) (p1:Int) (p2:List UInt8):Prop := rd6q49 p0 = some (p1,p2)
def rd6q51 (p0:Nat) (p1:List UInt8) (p2:List I4) (p3 p4:List UInt8):Prop := listP Ytoglbmhkfkghbaa.p4 (rd6q12 p0) (rd6q1 p1) = some (p2,p3)∧LN p3 ≤ LN p4
def rd6q52 (p0 p1 p2:Nat):Prop := rd6q33 p0 p1 < rd6q33 p0 p2
def rd6q53 (p0 p1:Nat):Prop := IntKind.wrap IntKind.i64 ((↑p0:Int) + Z1) = (↑p1:Int)∧True
def rd6q54 (p0:Int) (p1:Nat):List D := List.getD [ZI p0 :: rd6q7] p1 []
def rd6q55 (p0:List UInt8):Prop := rd6q3 p0 = none
def rd6q56 (p0 p1:List UInt8):Prop := rd6q55 p0→rd6q35 p1
def rd6q57 (p0 p1:List UInt8):Prop := rd6q49 p0 = none→rd6q35 p1
def rd6q58 (p0:Nat) (p1:List UInt8) (p2:Nat) (p3:List KeD) (p4 p5:List UInt8):Prop := LHd kerP (rd6q12 p0) (rd6q1 p1) p2 p3 p4∧LN p4 ≤ LN p5
def rd6q59 (p0:List FnD) (p1:Nat):Prop := SM (LN p0)∧(∀ (i:Nat),i < LN p0→SM (rd6q43 p0 i))∧SM p1
def rd6q60 (p0:List KeD) (p1:Nat):KeD := List.getD p0 p1 DK
def rd6q61 (p0:List KeD) (p1:Nat):List I4 := KeD.ops (rd6q60 p0 p1)
def rd6q62 (p0:List KeD) (p1 p2:Nat):I4 := List.getD (rd6q61 p0 p1) p2 rd6q41
def rd6q63 (p0:List KeD) (p1:Nat):List D := [ZI (KeD.inputs (rd6q60 p0 p1)),D.sl N4 (LN (rd6q61 p0 p1)) (fun (i:Nat) => (R4 (rd6q62 p0 p1 i))) Mode.any,ZI (KeD.reduce (rd6q60 p0 p1)),ZI (KeD.at_ (rd6q60 p0 p1))]
def rd6q64 (p0:List FnD) (p1:Nat) (p2:List KeD) (p3 p4:Nat):Prop := rd6q59 p0 p1∧(N0 = LN p2∧(∀ (i:Nat),i < N0→eqOf (List D) [] (rd6q63 p2 i))∧p3 = p4)∧rd6q44
def rd6q65 (p0 p1 p2:Nat):Prop := p0 = p1∧SM p2∧True
def rd6q66 (p0:Nat) (p1:List UInt8) (p2:Nat) (p3:List LaD) (p4 p5:List UInt8):Prop := LHd lanP (rd6q12 p0) (rd6q1 p1) p2 p3 p4∧LN p4 ≤ LN p5
def rd6q67 (p0:List KeD) (p1:Nat):Prop := SM (LN p0)∧(∀ (i:Nat),i < LN p0→SM (rd6q63 p0 i))∧SM p1
def rd6q68 (p0:List LaD) (p1:Nat):List I6 := LaD.code (List.getD p0 p1 DL)
def rd6q69:I6 := D6
def rd6q70 (p0:List LaD) (p1 p2:Nat):I6 := List.getD (rd6q68 p0 p1) p2 rd6q69
def rd6q71 (p0:List LaD) (p1:Nat):List D := [ZI (LaD.regs (List.getD p0 p1 DL)),D.sl N6 (LN (rd6q68 p0 p1)) (fun (i:Nat) => (R6 (rd6q70 p0 p1 i))) Mode.any]
def rd6q72 (p0:List FnD) (p1:Nat) (p2:List KeD) (p3:Nat) (p4:List LaD) (p5 p6:Nat):Prop := rd6q59 p0 p1∧rd6q67 p2 p3∧(N0 = LN p4∧(∀ (i:Nat),i < N0→eqOf (List D) [] (rd6q71 p4 i))∧p5 = p6)∧True
def rd6q73 (p0 p1 p2 p3:Nat):Prop := p0 = p1∧SM p2∧SM p3∧True
def rd6q74 (p0:Nat) (p1:List UInt8) (p2:List I6) (p3 p4:List UInt8):Prop := listP p6 (rd6q12 p0) (rd6q1 p1) = some (p2,p3)∧LN p3 ≤ LN p4
def rd6q75 (p0 p1:List FnD) (p2 p3:List KeD) (p4 p5:List LaD):Prop := (LN p0 = LN p1∧(∀ (i:Nat),i < LN p0→rd6q43 p0 i = rd6q43 p1 i)∧True)∧(LN p2 = LN p3∧(∀ (i:Nat),i < LN p2→rd6q63 p2 i = rd6q63 p3 i)∧True)∧LN p4 = LN p5∧(∀ (i:Nat),i < LN p4→rd6q71 p4 i = rd6q71 p5 i)∧True
def rd6q76 (p0:Nat) (p1:List Arr) (p2:Nat) (p3:Arr) (p4:Nat) (p5:List UInt8) (p6 p7:Nat):St := St.mk (((3:Nat),p0,AObj.vec N4 (LN p1 + N1) p2 (appF (LN p1) (fun (i:Nat) => rd6q20 p1 i) fun (i:Nat) => rd6q31 p3 i)) :: rd6q5 p4 p5 :: (N2,p6,AObj.cells (D.vs (3:Nat) p0 (LN p1 + N1) p2 N4 :: rd6q8)) :: rd6q10 p7) []
def rd6q77 (p0:List Arr) (p1:Nat):Prop := SM (LN p0)∧SM p1∧∀ (i:Nat),i < LN p0→SM (rd6q20 p0 i)
def rd6q78 (p0:Nat) (p1:List Arr) (p2:Nat):Prop := SM p0∧SM (LN p1)∧SM p2
def rd6q79 (p0:Nat) (p1:List UInt8) (p2:Nat) (p3:List I4) (p4 p5:List UInt8):Prop := LHd Ytoglbmhkfkghbaa.p4 (rd6q12 p0) (rd6q1 p1) p2 p3 p4∧LN p4 ≤ LN p5
def rd6q80 (p0:List I4) (p1:Nat):I4 := List.getD p0 p1 rd6q41
def rd6q81 (p0:List I4) (p1:Nat):List D := (R4 (rd6q80 p0 p1))
def rd6q82 (p0:List I4) (p1 p2:Nat):Prop := N0 = LN p0∧(∀ (i:Nat),i < N0→eqOf (List D) [] (rd6q81 p0 i))∧p1 = p2
def rd6q83 (p0:Nat) (p1:List Arr) (p2 p3:Nat) (p4:List FnD) (p5 p6:Nat):Prop := SM p0∧rd6q77 p1 p2∧SM p3∧(rd6q78 p0 p1 p2∧rd6q59 p4 p5∧rd6q45)∧rd6q47 p6
def rd6q84 (p0:List I4) (p1:Nat):D := D.sl N4 (LN p0) (fun (i:Nat) => rd6q81 p0 i) (Mode.tok N1 p1)
def rd6q85 (p0:Nat) (p1:List I4) (p2:Nat):Prop := SM p0∧SM (rd6q84 p1 p2)
def rd6q86 (p0:Nat):Prop := SM (D.ref (max N1 (max ((3:Nat) + N1) (3:Nat))) p0 N0)
def rd6q87 (p0 p1:Nat):Prop := rd6q29 p0∧rd6q29 p1∧True
def rd6q88 (p0 p1 p2 p3 p4 p5 p6:Nat):Prop := rd6q26 p0∧rd6q27 p1∧rd6q28 p2∧rd6q86 p3∧rd6q29 p4∧rd6q87 p5 p6
def rd6q89 (p0 p1:List I4) (p2 p3 p4 p5:Int) (p6 p7:Nat):Prop := LN p0 + N1 = LN p1∧(∀ (i:Nat),i < LN p0 + N1→appF (LN p0) (fun (i:Nat) => rd6q81 p0 i) (fun (i:Nat) => List.getD [[ZI p2,ZI p3,ZI p4,ZI p5]] i []) i = rd6q81 p1 i)∧p6 = p7
def rd6q90 (p0 p1 p2 p3 p4 p5:Nat):Prop := rd6q26 p0∧rd6q27 p1∧rd6q28 p2∧rd6q86 p3∧rd6q87 p4 p5
def rd6q91 (p0 p1:List I4):Prop := LN p0 = LN p1∧(∀ (i:Nat),i < LN p0→rd6q81 p0 i = rd6q81 p1 i)∧True
def rd6q92 (p0:List I4):D := D.sl N4 (LN p0) (fun (i:Nat) => rd6q81 p0 i) Mode.any
def rd6q93:Prop := SM Z0∧SM Z0∧True
def rd6q94 (p0:Nat) (p1:List Arr) (p2 p3:Nat) (p4:List FnD) (p5:Nat) (p6:List KeD) (p7 p8:Nat):Prop := SM p0∧rd6q77 p1 p2∧SM p3∧(rd6q78 p0 p1 p2∧rd6q59 p4 p5∧rd6q67 p6 p7∧rd6q44)∧rd6q47 p8
def rd6q95 (p0:List I4) (p1:Nat):D := D.sl N4 (LN p0) (fun (i:Nat) => rd6q81 p0 i) (Mode.tok N2 p1)
def rd6q96 (p0:Nat) (p1:List I4) (p2:Nat):Prop := SM p0∧SM (rd6q95 p1 p2)
def rd6q97 (p0:Nat) (p1:List UInt8) (p2:Nat) (p3:List I6) (p4 p5:List UInt8):Prop := LHd p6 (rd6q12 p0) (rd6q1 p1) p2 p3 p4∧LN p4 ≤ LN p5
def rd6q98 (p0:List I6) (p1:Nat):I6 := List.getD p0 p1 rd6q69
def rd6q99 (p0:List I6) (p1:Nat):List D := (R6 (rd6q98 p0 p1))
def rd6q100 (p0:Nat) (p1:List Arr) (p2 p3:Nat) (p4:List FnD) (p5:Nat) (p6:List KeD) (p7:Nat) (p8:List LaD) (p9 p10:Nat):Prop := SM p0∧rd6q77 p1 p2∧SM p3∧(rd6q78 p0 p1 p2∧rd6q59 p4 p5∧rd6q67 p6 p7∧(SM (LN p8)∧(∀ (i:Nat),i < LN p8→SM (rd6q71 p8 i))∧SM p9)∧True)∧rd6q47 p10
def rd6q101 (p0:List I6) (p1:Nat):D := D.sl N6 (LN p0) (fun (i:Nat) => rd6q99 p0 i) (Mode.tok (3:Nat) p1)
def rd6q102 (p0:Nat) (p1:List I6) (p2:Nat):Prop := SM p0∧SM (rd6q101 p1 p2)
end
theorem rc1 (x n : Nat) (l r1 : List UInt8) (hl : l.length ≤ 4294967296) (hn : cntP l = some (n + 1, r1)) :
    ACalls Try.prog 49 [.ref 0 x 0] (bS x l) (endC1 (codP l)) := by
  refine call_of (E := Ec1 l) (erOk con0_ok (inlB_ok con0_ok (rarr_rd 17 (by omega))) rfl) Try.func49 rfl (by kernel_rfl) rfl (by simp [Ec1,EC,E0]) ?_
  refine vc_eq (T :=
    ∀ (x_1:Nat),x ≠ x_1∧True→∀ (x_2:Nat),x_1 ≠ x_2∧x ≠ x_2∧True→rd6q2 x l∧(∀ (a:Nat) (r:List UInt8),rd6q4 l a r→((∃ (x_3:Unit),True∧True∧(SM Z0∧True)∧StTo (rd6q11 x r x_2 x_1) (rd6q11 x r x_2 x_1))∨∃ (x_3:Nat × (Nat × Nat) × List Arr × List UInt8),rd6q13 a r x_3.1 x_3.2.2.1 x_3.2.2.2 x_3.2.1.2 l∧True∧rd6q14 x_3.1∧StTo (rd6q11 x r x_2 x_1) (rd6q21 x_3.2.1.1 x_3.2.2.1 x_3.2.1.2 x x_3.2.2.2 x_2 x_1))∧(∀ (x_3:Unit),True→ifB (decide (Z0 < (↑a:Int))) (SM x_2∧SM Z0∧rd6q2 x r∧(∀ (a_3:Arr) (r_1:List UInt8),rd6q23 r a_3 r_1→rd6q24 x_2∧rd6q24 x_2∧∀ (y cap':Nat),rd6q25 x y x_2 x_1→N1 ≤ cap'→SM x_2∧rd6q30 x x_1 x_2 a∧((∃ (x_4:Unit),True∧rd6q12 a < rd6q12 a∧(Z1 = Z0∧True)∧StTo (rd6q32 y cap' a_3 x r_1 x_2 x_1) (rd6q11 x r x_2 x_1))∨∃ (x_4:Nat × (Nat × Nat) × List Arr × List UInt8),rd6q13 a r x_4.1 x_4.2.2.1 x_4.2.2.2 x_4.2.1.2 l∧rd6q33 a x_4.1 < rd6q12 a∧(Z1 = (NI x_4.1)∧True)∧StTo (rd6q32 y cap' a_3 x r_1 x_2 x_1) (rd6q21 x_4.2.1.1 x_4.2.2.1 x_4.2.1.2 x x_4.2.2.2 x_2 x_1)))∧rd6q36 r l) (rd6q2 x r∧(∀ (a:Nat) (r_1:List UInt8),rd6q4 r a r_1→∀ (t:Nat),(∃ (x_4:Nat × Nat × List FnD × List UInt8),rd6q37 a r_1 x_4.1 x_4.2.2.1 x_4.2.2.2 l∧rd6q14 x_4.1∧(SM x∧rd6q38 r_1 x_4.2.2.2∧SM x_2∧(rd6q39∧rd6q46 x_4.2.2.1 t x_4.2.1)∧rd6q47 x_1)∧t = x_4.2.1∧True)∧∀ (x_4:Nat × Nat × List FnD × List UInt8),rd6q37 a r_1 x_4.1 x_4.2.2.1 x_4.2.2.2 l→ifB (rd6q48 x_4.1 a) (rd6q2 x x_4.2.2.2∧(∀ (a_5:Int) (r:List UInt8),rd6q50 x_4.2.2.2 a_5 r→∀ (x_5:Nat),rd6q25 x x_5 x_2 x_1→SM x_5∧rd6q2 x r∧(∀ (a_8:Nat) (r_2:List UInt8),rd6q4 r a_8 r_2→False∧∀ (x_6:List I4 × List UInt8),rd6q51 a_8 r_2 x_6.1 x_6.2 l→SM x_2∧SM x_5∧SM x_4.2.1∧side ((LN x_4.2.2.1 + N1) * (32:Nat) ≤ (140737488355328:Nat)∧LN x_4.2.2.1 + N1 ≤ (9223372036854775807:Nat)) (∀ (t:Nat),SM x_2∧rd6q30 x x_1 x_2 a∧∃ (y:Nat × Nat × List FnD × List UInt8),rd6q37 a r_1 y.1 y.2.2.1 y.2.2.2 l∧rd6q52 a y.1 x_4.1∧rd6q53 x_4.1 y.1∧(SM x∧rd6q38 x_6.2 y.2.2.2∧SM x_2∧(rd6q39∧(LN x_4.2.2.1 + N1 = LN y.2.2.1∧(∀ (i:Nat),i < LN x_4.2.2.1 + N1→appF (LN x_4.2.2.1) (fun (i:Nat) => rd6q43 x_4.2.2.1 i) (fun (i:Nat) => rd6q54 a_5 i) i = rd6q43 y.2.2.1 i)∧t = y.2.1)∧rd6q45)∧rd6q47 x_1)∧t = y.2.1∧True))∧rd6q56 r l)∧rd6q57 x_4.2.2.2 l) (rd6q2 x x_4.2.2.2∧(∀ (a:Nat) (r:List UInt8),rd6q4 x_4.2.2.2 a r→∀ (t:Nat),(∃ (x_5:Nat × Nat × List KeD × List UInt8),rd6q58 a r x_5.1 x_5.2.2.1 x_5.2.2.2 l∧rd6q14 x_5.1∧(SM x∧rd6q38 r x_5.2.2.2∧SM x_2∧(rd6q39∧rd6q64 x_4.2.2.1 x_4.2.1 x_5.2.2.1 t x_5.2.1)∧rd6q47 x_1)∧rd6q65 t x_5.2.1 x_4.2.1)∧∀ (x_5:Nat × Nat × List KeD × List UInt8),rd6q58 a r x_5.1 x_5.2.2.1 x_5.2.2.2 l→ifB (rd6q48 x_5.1 a) (rd6q2 x x_5.2.2.2∧(∀ (a_7:Int) (r_2:List UInt8),rd6q50 x_5.2.2.2 a_7 r_2→∀ (x_6:Nat),rd6q25 x x_6 x_2 x_1→SM x_6∧rd6q2 x r_2∧(∀ (a_10:Nat) (r_3:List UInt8),rd6q4 r_2 a_10 r_3→False∧∀ (x_7:List I4 × List UInt8),rd6q51 a_10 r_3 x_7.1 x_7.2 l→rd6q2 x x_7.2∧(∀ (a_13:Int) (r_4:List UInt8),rd6q50 x_7.2 a_13 r_4→rd6q2 x r_4∧(∀ (a_15:Int) (r_5:List UInt8),rd6q50 r_4 a_15 r_5→SM x_6∧SM x_6∧SM x_2∧SM x_6∧SM x_5.2.1∧side ((LN x_5.2.2.1 + N1) * (48:Nat) ≤ (140737488355328:Nat)∧LN x_5.2.2.1 + N1 ≤ (9223372036854775807:Nat)) (∀ (t:Nat),SM x_2∧rd6q30 x x_1 x_2 a∧∃ (y:Nat × Nat × List KeD × List UInt8),rd6q58 a r y.1 y.2.2.1 y.2.2.2 l∧rd6q52 a y.1 x_5.1∧rd6q53 x_5.1 y.1∧(SM x∧rd6q38 r_5 y.2.2.2∧SM x_2∧(rd6q39∧rd6q59 x_4.2.2.1 x_4.2.1∧(LN x_5.2.2.1 + N1 = LN y.2.2.1∧(∀ (i:Nat),i < LN x_5.2.2.1 + N1→appF (LN x_5.2.2.1) (fun (i:Nat) => rd6q63 x_5.2.2.1 i) (fun (i:Nat) => List.getD [[ZI a_7,rd6q6,ZI a_13,ZI a_15]] i []) i = rd6q63 y.2.2.1 i)∧t = y.2.1)∧rd6q44)∧rd6q47 x_1)∧rd6q65 t y.2.1 x_4.2.1))∧rd6q57 r_4 l)∧rd6q57 x_7.2 l)∧rd6q56 r_2 l)∧rd6q57 x_5.2.2.2 l) (rd6q2 x x_5.2.2.2∧(∀ (a:Nat) (r:List UInt8),rd6q4 x_5.2.2.2 a r→∀ (t:Nat),(∃ (x_6:Nat × Nat × List LaD × List UInt8),rd6q66 a r x_6.1 x_6.2.2.1 x_6.2.2.2 l∧rd6q14 x_6.1∧(SM x∧rd6q38 r x_6.2.2.2∧SM x_2∧(rd6q39∧rd6q72 x_4.2.2.1 x_4.2.1 x_5.2.2.1 x_5.2.1 x_6.2.2.1 t x_6.2.1)∧rd6q47 x_1)∧rd6q73 t x_6.2.1 x_5.2.1 x_4.2.1)∧∀ (x_6:Nat × Nat × List LaD × List UInt8),rd6q66 a r x_6.1 x_6.2.2.1 x_6.2.2.2 l→ifB (rd6q48 x_6.1 a) (rd6q2 x x_6.2.2.2∧(∀ (a_9:Int) (r_2:List UInt8),rd6q50 x_6.2.2.2 a_9 r_2→∀ (x_7:Nat),rd6q25 x x_7 x_2 x_1→SM x_7∧rd6q2 x r_2∧(∀ (a_12:Nat) (r_3:List UInt8),rd6q4 r_2 a_12 r_3→False∧∀ (x_8:List I6 × List UInt8),rd6q74 a_12 r_3 x_8.1 x_8.2 l→SM x_2∧SM x_7∧SM x_6.2.1∧side ((LN x_6.2.2.1 + N1) * (32:Nat) ≤ (140737488355328:Nat)∧LN x_6.2.2.1 + N1 ≤ (9223372036854775807:Nat)) (∀ (t:Nat),SM x_2∧rd6q30 x x_1 x_2 a∧∃ (y:Nat × Nat × List LaD × List UInt8),rd6q66 a r y.1 y.2.2.1 y.2.2.2 l∧rd6q52 a y.1 x_6.1∧rd6q53 x_6.1 y.1∧(SM x∧rd6q38 x_8.2 y.2.2.2∧SM x_2∧(rd6q39∧rd6q59 x_4.2.2.1 x_4.2.1∧rd6q67 x_5.2.2.1 x_5.2.1∧(LN x_6.2.2.1 + N1 = LN y.2.2.1∧(∀ (i:Nat),i < LN x_6.2.2.1 + N1→appF (LN x_6.2.2.1) (fun (i:Nat) => rd6q71 x_6.2.2.1 i) (fun (i:Nat) => rd6q54 a_9 i) i = rd6q71 y.2.2.1 i)∧t = y.2.1)∧True)∧rd6q47 x_1)∧rd6q73 t y.2.1 x_5.2.1 x_4.2.1))∧rd6q56 r_2 l)∧rd6q57 x_6.2.2.2 l) (SM x∧ifB (! (LI x_6.2.2.2) == Z0) (rd6q34 l) (True∧SM x_2∧SM x_1∧(SM x_1∧True)∧∃ (y:List Arr × CY),codP l = some (CodD.mk y.1 y.2.1 y.2.2.1 y.2.2.2.1,[])∧False∧rd6q75 x_4.2.2.1 y.2.1 x_5.2.2.1 y.2.2.1 x_6.2.2.1 y.2.2.2.1)))∧rd6q56 x_5.2.2.2 l))∧rd6q56 x_4.2.2.2 l))∧rd6q56 r l))∧∀ (x_3:Nat × (Nat × Nat) × List Arr × List UInt8),rd6q13 a r x_3.1 x_3.2.2.1 x_3.2.2.2 x_3.2.1.2 l→ifB (rd6q48 x_3.1 a) (SM x_2∧SM Z0∧rd6q2 x x_3.2.2.2∧(∀ (a_3:Arr) (r_1:List UInt8),rd6q23 x_3.2.2.2 a_3 r_1→(SM x_2∧SM (D.vs (3:Nat) x_3.2.1.1 (LN x_3.2.2.1) x_3.2.1.2 N4))∧(SM x_2∧SM (D.vs (3:Nat) x_3.2.1.1 (LN x_3.2.2.1) x_3.2.1.2 N4))∧SM x_3.2.1.1∧SM x_3.2.1.2∧side (LN x_3.2.2.1 ≤ LN x_3.2.2.1∧(LN x_3.2.2.1 + N1) * (80:Nat) ≤ (140737488355328:Nat)∧LN x_3.2.2.1 + N1 ≤ (9223372036854775807:Nat)) (∀ (y cap':Nat),LN x_3.2.2.1 + N1 ≤ cap'→SM x_2∧rd6q30 x x_1 x_2 a∧((∃ (x_4:Unit),True∧rd6q12 a < rd6q33 a x_3.1∧(IntKind.wrap IntKind.i64 ((NI x_3.1) + Z1) = Z0∧True)∧StTo (rd6q76 y x_3.2.2.1 cap' a_3 x r_1 x_2 x_1) (rd6q11 x r x_2 x_1))∨∃ (x_4:Nat × (Nat × Nat) × List Arr × List UInt8),rd6q13 a r x_4.1 x_4.2.2.1 x_4.2.2.2 x_4.2.1.2 l∧rd6q52 a x_4.1 x_3.1∧rd6q53 x_3.1 x_4.1∧StTo (rd6q76 y x_3.2.2.1 cap' a_3 x r_1 x_2 x_1) (rd6q21 x_4.2.1.1 x_4.2.2.1 x_4.2.1.2 x x_4.2.2.2 x_2 x_1))))∧rd6q36 x_3.2.2.2 l) (rd6q2 x x_3.2.2.2∧(∀ (a:Nat) (r:List UInt8),rd6q4 x_3.2.2.2 a r→∀ (t:Nat),(∃ (x_4:Nat × Nat × List FnD × List UInt8),rd6q37 a r x_4.1 x_4.2.2.1 x_4.2.2.2 l∧rd6q14 x_4.1∧(SM x∧rd6q38 r x_4.2.2.2∧SM x_3.2.1.1∧rd6q77 x_3.2.2.1 x_3.2.1.2∧SM x_2∧(rd6q78 x_3.2.1.1 x_3.2.2.1 x_3.2.1.2∧rd6q46 x_4.2.2.1 t x_4.2.1)∧rd6q47 x_1)∧t = x_4.2.1∧True)∧∀ (x_4:Nat × Nat × List FnD × List UInt8),rd6q37 a r x_4.1 x_4.2.2.1 x_4.2.2.2 l→ifB (rd6q48 x_4.1 a) (rd6q2 x x_4.2.2.2∧(∀ (a_5:Int) (r_1:List UInt8),rd6q50 x_4.2.2.2 a_5 r_1→∀ (x_5:Nat),x ≠ x_5∧rd6q25 x_3.2.1.1 x_5 x_2 x_1→SM x_5∧rd6q2 x r_1∧(∀ (a_8:Nat) (r_2:List UInt8),rd6q4 r_1 a_8 r_2→(∀ (t:Nat),(∃ (x_6:Nat × Nat × List I4 × List UInt8),rd6q79 a_8 r_2 x_6.1 x_6.2.2.1 x_6.2.2.2 l∧rd6q14 x_6.1∧(SM x∧rd6q38 r_2 x_6.2.2.2∧SM x_5∧(SM a_5∧rd6q82 x_6.2.2.1 t x_6.2.1∧True)∧rd6q83 x_3.2.1.1 x_3.2.2.1 x_3.2.1.2 x_2 x_4.2.2.1 x_4.2.1 x_1)∧rd6q65 t x_6.2.1 x_4.2.1)∧∀ (x_6:Nat × Nat × List I4 × List UInt8),rd6q79 a_8 r_2 x_6.1 x_6.2.2.1 x_6.2.2.2 l→ifB (rd6q48 x_6.1 a_8) (SM x_5∧rd6q2 x x_6.2.2.2∧(∀ (a_11:Int) (r:List UInt8),rd6q50 x_6.2.2.2 a_11 r→rd6q85 x_5 x_6.2.2.1 x_6.2.1∧rd6q2 x r∧(∀ (a_13:Int) (r_3:List UInt8),rd6q50 r a_13 r_3→rd6q85 x_5 x_6.2.2.1 x_6.2.1∧rd6q2 x r_3∧(∀ (a_15:Int) (r:List UInt8),rd6q50 r_3 a_15 r→rd6q85 x_5 x_6.2.2.1 x_6.2.1∧rd6q2 x r∧(∀ (a_17:Int) (r_4:List UInt8),rd6q50 r a_17 r_4→rd6q85 x_5 x_6.2.2.1 x_6.2.1∧rd6q85 x_5 x_6.2.2.1 x_6.2.1∧SM x_6.2.1∧side ((LN x_6.2.2.1 + N1) * (32:Nat) ≤ (140737488355328:Nat)∧LN x_6.2.2.1 + N1 ≤ (9223372036854775807:Nat)) (∀ (t:Nat),SM x_5∧rd6q88 x x_1 x_2 x_5 a x_4.1 a_8∧∃ (y:Nat × Nat × List I4 × List UInt8),rd6q79 a_8 r_2 y.1 y.2.2.1 y.2.2.2 l∧rd6q52 a_8 y.1 x_6.1∧rd6q53 x_6.1 y.1∧(SM x∧rd6q38 r_4 y.2.2.2∧SM x_5∧(SM a_5∧rd6q89 x_6.2.2.1 y.2.2.1 a_11 a_13 a_15 a_17 t y.2.1∧True)∧rd6q83 x_3.2.1.1 x_3.2.2.1 x_3.2.1.2 x_2 x_4.2.2.1 x_4.2.1 x_1)∧rd6q65 t y.2.1 x_4.2.1))∧rd6q57 r l)∧rd6q57 r_3 l)∧rd6q57 r l)∧rd6q57 x_6.2.2.2 l) (rd6q90 x x_1 x_2 x_5 a x_4.1∧∃ (x_7:List I4 × List UInt8),rd6q51 a_8 r_2 x_7.1 x_7.2 l∧True∧(SM x∧rd6q38 x_6.2.2.2 x_7.2∧SM x_5∧(SM a_5∧rd6q91 x_6.2.2.1 x_7.1∧True)∧rd6q83 x_3.2.1.1 x_3.2.2.1 x_3.2.1.2 x_2 x_4.2.2.1 x_4.2.1 x_1)∧SM x_4.2.1∧True))∧∀ (x_6:List I4 × List UInt8),rd6q51 a_8 r_2 x_6.1 x_6.2 l→SM x_2∧SM x_5∧SM x_4.2.1∧side ((LN x_4.2.2.1 + N1) * (32:Nat) ≤ (140737488355328:Nat)∧LN x_4.2.2.1 + N1 ≤ (9223372036854775807:Nat)) (∀ (t:Nat),SM x_2∧rd6q30 x x_1 x_2 a∧∃ (y:Nat × Nat × List FnD × List UInt8),rd6q37 a r y.1 y.2.2.1 y.2.2.2 l∧rd6q52 a y.1 x_4.1∧rd6q53 x_4.1 y.1∧(SM x∧rd6q38 x_6.2 y.2.2.2∧SM x_3.2.1.1∧rd6q77 x_3.2.2.1 x_3.2.1.2∧SM x_2∧(rd6q78 x_3.2.1.1 x_3.2.2.1 x_3.2.1.2∧(LN x_4.2.2.1 + N1 = LN y.2.2.1∧(∀ (i:Nat),i < LN x_4.2.2.1 + N1→appF (LN x_4.2.2.1) (fun (i:Nat) => rd6q43 x_4.2.2.1 i) (fun (i:Nat) => List.getD [[ZI a_5,rd6q92 x_6.1]] i []) i = rd6q43 y.2.2.1 i)∧t = y.2.1)∧rd6q45)∧rd6q47 x_1)∧t = y.2.1∧True))∧rd6q56 r_1 l)∧rd6q57 x_4.2.2.2 l) (rd6q2 x x_4.2.2.2∧(∀ (a:Nat) (r:List UInt8),rd6q4 x_4.2.2.2 a r→∀ (t:Nat),(∃ (x_5:Nat × Nat × List KeD × List UInt8),rd6q58 a r x_5.1 x_5.2.2.1 x_5.2.2.2 l∧rd6q14 x_5.1∧(SM x∧rd6q38 r x_5.2.2.2∧SM x_3.2.1.1∧rd6q77 x_3.2.2.1 x_3.2.1.2∧SM x_2∧(rd6q78 x_3.2.1.1 x_3.2.2.1 x_3.2.1.2∧rd6q64 x_4.2.2.1 x_4.2.1 x_5.2.2.1 t x_5.2.1)∧rd6q47 x_1)∧rd6q65 t x_5.2.1 x_4.2.1)∧∀ (x_5:Nat × Nat × List KeD × List UInt8),rd6q58 a r x_5.1 x_5.2.2.1 x_5.2.2.2 l→ifB (rd6q48 x_5.1 a) (rd6q2 x x_5.2.2.2∧(∀ (a_7:Int) (r_1:List UInt8),rd6q50 x_5.2.2.2 a_7 r_1→∀ (x_6:Nat),x ≠ x_6∧rd6q25 x_3.2.1.1 x_6 x_2 x_1→SM x_6∧rd6q2 x r_1∧(∀ (a_10:Nat) (r_2:List UInt8),rd6q4 r_1 a_10 r_2→(∀ (t:Nat),(∃ (x_7:Nat × Nat × List I4 × List UInt8),rd6q79 a_10 r_2 x_7.1 x_7.2.2.1 x_7.2.2.2 l∧rd6q14 x_7.1∧(SM x∧rd6q38 r_2 x_7.2.2.2∧SM x_6∧(SM a_7∧rd6q82 x_7.2.2.1 t x_7.2.1∧rd6q93)∧rd6q94 x_3.2.1.1 x_3.2.2.1 x_3.2.1.2 x_2 x_4.2.2.1 x_4.2.1 x_5.2.2.1 x_5.2.1 x_1)∧rd6q73 t x_7.2.1 x_5.2.1 x_4.2.1)∧∀ (x_7:Nat × Nat × List I4 × List UInt8),rd6q79 a_10 r_2 x_7.1 x_7.2.2.1 x_7.2.2.2 l→ifB (rd6q48 x_7.1 a_10) (SM x_6∧rd6q2 x x_7.2.2.2∧(∀ (a_13:Int) (r:List UInt8),rd6q50 x_7.2.2.2 a_13 r→rd6q96 x_6 x_7.2.2.1 x_7.2.1∧rd6q2 x r∧(∀ (a_15:Int) (r_3:List UInt8),rd6q50 r a_15 r_3→rd6q96 x_6 x_7.2.2.1 x_7.2.1∧rd6q2 x r_3∧(∀ (a_17:Int) (r:List UInt8),rd6q50 r_3 a_17 r→rd6q96 x_6 x_7.2.2.1 x_7.2.1∧rd6q2 x r∧(∀ (a_19:Int) (r_4:List UInt8),rd6q50 r a_19 r_4→rd6q96 x_6 x_7.2.2.1 x_7.2.1∧rd6q96 x_6 x_7.2.2.1 x_7.2.1∧SM x_7.2.1∧side ((LN x_7.2.2.1 + N1) * (32:Nat) ≤ (140737488355328:Nat)∧LN x_7.2.2.1 + N1 ≤ (9223372036854775807:Nat)) (∀ (t:Nat),SM x_6∧rd6q88 x x_1 x_2 x_6 a x_5.1 a_10∧∃ (y:Nat × Nat × List I4 × List UInt8),rd6q79 a_10 r_2 y.1 y.2.2.1 y.2.2.2 l∧rd6q52 a_10 y.1 x_7.1∧rd6q53 x_7.1 y.1∧(SM x∧rd6q38 r_4 y.2.2.2∧SM x_6∧(SM a_7∧rd6q89 x_7.2.2.1 y.2.2.1 a_13 a_15 a_17 a_19 t y.2.1∧rd6q93)∧rd6q94 x_3.2.1.1 x_3.2.2.1 x_3.2.1.2 x_2 x_4.2.2.1 x_4.2.1 x_5.2.2.1 x_5.2.1 x_1)∧rd6q73 t y.2.1 x_5.2.1 x_4.2.1))∧rd6q57 r l)∧rd6q57 r_3 l)∧rd6q57 r l)∧rd6q57 x_7.2.2.2 l) (rd6q90 x x_1 x_2 x_6 a x_5.1∧∃ (x_8:List I4 × List UInt8),rd6q51 a_10 r_2 x_8.1 x_8.2 l∧True∧(SM x∧rd6q38 x_7.2.2.2 x_8.2∧SM x_6∧(SM a_7∧rd6q91 x_7.2.2.1 x_8.1∧rd6q93)∧rd6q94 x_3.2.1.1 x_3.2.2.1 x_3.2.1.2 x_2 x_4.2.2.1 x_4.2.1 x_5.2.2.1 x_5.2.1 x_1)∧SM x_5.2.1∧SM x_4.2.1∧True))∧∀ (x_7:List I4 × List UInt8),rd6q51 a_10 r_2 x_7.1 x_7.2 l→rd6q2 x x_7.2∧(∀ (a_13:Int) (r_3:List UInt8),rd6q50 x_7.2 a_13 r_3→rd6q2 x r_3∧(∀ (a_15:Int) (r_4:List UInt8),rd6q50 r_3 a_15 r_4→SM x_6∧SM x_6∧SM x_2∧SM x_6∧SM x_5.2.1∧side ((LN x_5.2.2.1 + N1) * (48:Nat) ≤ (140737488355328:Nat)∧LN x_5.2.2.1 + N1 ≤ (9223372036854775807:Nat)) (∀ (t:Nat),SM x_2∧rd6q30 x x_1 x_2 a∧∃ (y:Nat × Nat × List KeD × List UInt8),rd6q58 a r y.1 y.2.2.1 y.2.2.2 l∧rd6q52 a y.1 x_5.1∧rd6q53 x_5.1 y.1∧(SM x∧rd6q38 r_4 y.2.2.2∧SM x_3.2.1.1∧rd6q77 x_3.2.2.1 x_3.2.1.2∧SM x_2∧(rd6q78 x_3.2.1.1 x_3.2.2.1 x_3.2.1.2∧rd6q59 x_4.2.2.1 x_4.2.1∧(LN x_5.2.2.1 + N1 = LN y.2.2.1∧(∀ (i:Nat),i < LN x_5.2.2.1 + N1→appF (LN x_5.2.2.1) (fun (i:Nat) => rd6q63 x_5.2.2.1 i) (fun (i:Nat) => List.getD [[ZI a_7,rd6q92 x_7.1,ZI a_13,ZI a_15]] i []) i = rd6q63 y.2.2.1 i)∧t = y.2.1)∧rd6q44)∧rd6q47 x_1)∧rd6q65 t y.2.1 x_4.2.1))∧rd6q57 r_3 l)∧rd6q57 x_7.2 l)∧rd6q56 r_1 l)∧rd6q57 x_5.2.2.2 l) (rd6q2 x x_5.2.2.2∧(∀ (a:Nat) (r:List UInt8),rd6q4 x_5.2.2.2 a r→∀ (t:Nat),(∃ (x_6:Nat × Nat × List LaD × List UInt8),rd6q66 a r x_6.1 x_6.2.2.1 x_6.2.2.2 l∧rd6q14 x_6.1∧(SM x∧rd6q38 r x_6.2.2.2∧SM x_3.2.1.1∧rd6q77 x_3.2.2.1 x_3.2.1.2∧SM x_2∧(rd6q78 x_3.2.1.1 x_3.2.2.1 x_3.2.1.2∧rd6q72 x_4.2.2.1 x_4.2.1 x_5.2.2.1 x_5.2.1 x_6.2.2.1 t x_6.2.1)∧rd6q47 x_1)∧rd6q73 t x_6.2.1 x_5.2.1 x_4.2.1)∧∀ (x_6:Nat × Nat × List LaD × List UInt8),rd6q66 a r x_6.1 x_6.2.2.1 x_6.2.2.2 l→ifB (rd6q48 x_6.1 a) (rd6q2 x x_6.2.2.2∧(∀ (a_9:Int) (r_1:List UInt8),rd6q50 x_6.2.2.2 a_9 r_1→∀ (x_7:Nat),x ≠ x_7∧rd6q25 x_3.2.1.1 x_7 x_2 x_1→SM x_7∧rd6q2 x r_1∧(∀ (a_12:Nat) (r_2:List UInt8),rd6q4 r_1 a_12 r_2→(∀ (t:Nat),(∃ (x_8:Nat × Nat × List I6 × List UInt8),rd6q97 a_12 r_2 x_8.1 x_8.2.2.1 x_8.2.2.2 l∧rd6q14 x_8.1∧(SM x∧rd6q38 r_2 x_8.2.2.2∧SM x_7∧(SM a_9∧(N0 = LN x_8.2.2.1∧(∀ (i:Nat),i < N0→eqOf (List D) [] (rd6q99 x_8.2.2.1 i))∧t = x_8.2.1)∧True)∧rd6q100 x_3.2.1.1 x_3.2.2.1 x_3.2.1.2 x_2 x_4.2.2.1 x_4.2.1 x_5.2.2.1 x_5.2.1 x_6.2.2.1 x_6.2.1 x_1)∧t = x_8.2.1∧SM x_6.2.1∧SM x_5.2.1∧SM x_4.2.1∧True)∧∀ (x_8:Nat × Nat × List I6 × List UInt8),rd6q97 a_12 r_2 x_8.1 x_8.2.2.1 x_8.2.2.2 l→ifB (rd6q48 x_8.1 a_12) (SM x_7∧rd6q2 x x_8.2.2.2∧(∀ (a_15:Int) (r:List UInt8),rd6q50 x_8.2.2.2 a_15 r→rd6q102 x_7 x_8.2.2.1 x_8.2.1∧rd6q2 x r∧(∀ (a_17:Int) (r_3:List UInt8),rd6q50 r a_17 r_3→rd6q102 x_7 x_8.2.2.1 x_8.2.1∧rd6q2 x r_3∧(∀ (a_19:Int) (r:List UInt8),rd6q50 r_3 a_19 r→rd6q102 x_7 x_8.2.2.1 x_8.2.1∧rd6q2 x r∧(∀ (a_21:Int) (r_4:List UInt8),rd6q50 r a_21 r_4→rd6q102 x_7 x_8.2.2.1 x_8.2.1∧rd6q2 x r_4∧(∀ (a_23:Int) (r:List UInt8),rd6q50 r_4 a_23 r→rd6q102 x_7 x_8.2.2.1 x_8.2.1∧rd6q2 x r∧(∀ (a_25:Int) (r_5:List UInt8),rd6q50 r a_25 r_5→rd6q102 x_7 x_8.2.2.1 x_8.2.1∧rd6q102 x_7 x_8.2.2.1 x_8.2.1∧SM x_8.2.1∧side ((LN x_8.2.2.1 + N1) * (48:Nat) ≤ (140737488355328:Nat)∧LN x_8.2.2.1 + N1 ≤ (9223372036854775807:Nat)) (∀ (t:Nat),SM x_7∧rd6q88 x x_1 x_2 x_7 a x_6.1 a_12∧∃ (y:Nat × Nat × List I6 × List UInt8),rd6q97 a_12 r_2 y.1 y.2.2.1 y.2.2.2 l∧rd6q52 a_12 y.1 x_8.1∧rd6q53 x_8.1 y.1∧(SM x∧rd6q38 r_5 y.2.2.2∧SM x_7∧(SM a_9∧(LN x_8.2.2.1 + N1 = LN y.2.2.1∧(∀ (i:Nat),i < LN x_8.2.2.1 + N1→appF (LN x_8.2.2.1) (fun (i:Nat) => rd6q99 x_8.2.2.1 i) (fun (i:Nat) => List.getD [[ZI a_15,ZI a_17,ZI a_19,ZI a_21,ZI a_23,ZI a_25]] i []) i = rd6q99 y.2.2.1 i)∧t = y.2.1)∧True)∧rd6q100 x_3.2.1.1 x_3.2.2.1 x_3.2.1.2 x_2 x_4.2.2.1 x_4.2.1 x_5.2.2.1 x_5.2.1 x_6.2.2.1 x_6.2.1 x_1)∧t = y.2.1∧SM x_6.2.1∧SM x_5.2.1∧SM x_4.2.1∧True))∧rd6q57 r l)∧rd6q57 r_4 l)∧rd6q57 r l)∧rd6q57 r_3 l)∧rd6q57 r l)∧rd6q57 x_8.2.2.2 l) (rd6q90 x x_1 x_2 x_7 a x_6.1∧∃ (x_9:List I6 × List UInt8),rd6q74 a_12 r_2 x_9.1 x_9.2 l∧True∧(SM x∧rd6q38 x_8.2.2.2 x_9.2∧SM x_7∧(SM a_9∧(LN x_8.2.2.1 = LN x_9.1∧(∀ (i:Nat),i < LN x_8.2.2.1→rd6q99 x_8.2.2.1 i = rd6q99 x_9.1 i)∧True)∧True)∧rd6q100 x_3.2.1.1 x_3.2.2.1 x_3.2.1.2 x_2 x_4.2.2.1 x_4.2.1 x_5.2.2.1 x_5.2.1 x_6.2.2.1 x_6.2.1 x_1)∧SM x_6.2.1∧SM x_5.2.1∧SM x_4.2.1∧True))∧∀ (x_8:List I6 × List UInt8),rd6q74 a_12 r_2 x_8.1 x_8.2 l→SM x_2∧SM x_7∧SM x_6.2.1∧side ((LN x_6.2.2.1 + N1) * (32:Nat) ≤ (140737488355328:Nat)∧LN x_6.2.2.1 + N1 ≤ (9223372036854775807:Nat)) (∀ (t:Nat),SM x_2∧rd6q30 x x_1 x_2 a∧∃ (y:Nat × Nat × List LaD × List UInt8),rd6q66 a r y.1 y.2.2.1 y.2.2.2 l∧rd6q52 a y.1 x_6.1∧rd6q53 x_6.1 y.1∧(SM x∧rd6q38 x_8.2 y.2.2.2∧SM x_3.2.1.1∧rd6q77 x_3.2.2.1 x_3.2.1.2∧SM x_2∧(rd6q78 x_3.2.1.1 x_3.2.2.1 x_3.2.1.2∧rd6q59 x_4.2.2.1 x_4.2.1∧rd6q67 x_5.2.2.1 x_5.2.1∧(LN x_6.2.2.1 + N1 = LN y.2.2.1∧(∀ (i:Nat),i < LN x_6.2.2.1 + N1→appF (LN x_6.2.2.1) (fun (i:Nat) => rd6q71 x_6.2.2.1 i) (fun (i:Nat) => List.getD [[ZI a_9,D.sl N6 (LN x_8.1) (fun (i:Nat) => rd6q99 x_8.1 i) Mode.any]] i []) i = rd6q71 y.2.2.1 i)∧t = y.2.1)∧True)∧rd6q47 x_1)∧rd6q73 t y.2.1 x_5.2.1 x_4.2.1))∧rd6q56 r_1 l)∧rd6q57 x_6.2.2.2 l) (SM x∧ifB (! (LI x_6.2.2.2) == Z0) (rd6q34 l) (True∧SM x_2∧SM x_1∧(SM x_1∧True)∧∃ (y:List Arr × CY),codP l = some (CodD.mk y.1 y.2.1 y.2.2.1 y.2.2.2.1,[])∧(LN x_3.2.2.1 = LN y.1∧(SM x_3.2.1.1∧(LN x_3.2.2.1 = LN y.1∧SM x_3.2.1.2∧∀ (i:Nat),i < LN x_3.2.2.1→rd6q20 x_3.2.2.1 i = rd6q20 y.1 i)∧True)∧True)∧rd6q75 x_4.2.2.1 y.2.1 x_5.2.2.1 y.2.2.1 x_6.2.2.1 y.2.2.2.1)))∧rd6q56 x_5.2.2.2 l))∧rd6q56 x_4.2.2.2 l))∧rd6q56 x_3.2.2.2 l))∧(rd6q55 l→rd6q35 l)) (by kernel_rfl) ?_
  delta BI D4 D6 DA DF DK DL GI LI LN N0 N1 N2 N4 N6 NI R4 R6 SI SM U0 Z0 Z1 ZB ZI rd6q0 rd6q1 rd6q10 rd6q100 rd6q101 rd6q102 rd6q11 rd6q12 rd6q13 rd6q14 rd6q15 rd6q16 rd6q17 rd6q18 rd6q19 rd6q2 rd6q20 rd6q21 rd6q22 rd6q23 rd6q24 rd6q25 rd6q26 rd6q27 rd6q28 rd6q29 rd6q3 rd6q30 rd6q31 rd6q32 rd6q33 rd6q34 rd6q35 rd6q36 rd6q37 rd6q38 rd6q39 rd6q4 rd6q40 rd6q41 rd6q42 rd6q43 rd6q44 rd6q45 rd6q46 rd6q47 rd6q48 rd6q49 rd6q5 rd6q50 rd6q51 rd6q52 rd6q53 rd6q54 rd6q55 rd6q56 rd6q57 rd6q58 rd6q59 rd6q6 rd6q60 rd6q61 rd6q62 rd6q63 rd6q64 rd6q65 rd6q66 rd6q67 rd6q68 rd6q69 rd6q7 rd6q70 rd6q71 rd6q72 rd6q73 rd6q74 rd6q75 rd6q76 rd6q77 rd6q78 rd6q79 rd6q8 rd6q80 rd6q81 rd6q82 rd6q83 rd6q84 rd6q85 rd6q86 rd6q87 rd6q88 rd6q89 rd6q9 rd6q90 rd6q91 rd6q92 rd6q93 rd6q94 rd6q95 rd6q96 rd6q97 rd6q98 rd6q99
  have da:(default:Arr) = Arr.mk 0 [] [] [] := rfl
  have dF:(default:FnD) = ⟨0,[]⟩ := rfl
  have dK:(default:KeD) = ⟨0,[],0,0⟩ := rfl
  have dL:(default:LaD) = ⟨0,[]⟩ := rfl
  have d4:(default:I4) = ⟨0,0,0,0⟩ := rfl
  have d6:(default:I6) = ⟨0,0,0,0,0,0⟩ := rfl
  simp only [← da,← dF,← dK,← dL,← d4,← d6,eq_self,ne_eq,implies_true,Int.toNat_natCast,ifB_iff,side_iff,decide_eq_true_eq,decide_eq_false_iff_not,true_and,and_true,exists_const,forall_const,bytesOf_bsl,rowsB_bsl,natOfR]
  intro x1 _ x2 _
  refine ⟨hl,fun n0 rr0 hn0 => ?_,fun h => by rw [hn] at h; cases h⟩
  rw [hn] at hn0
  injection hn0 with e; injection e with e1 e2
  subst e1 e2
  have hc0:codP l = bindP (listP (arrP 17) (n + 1) r1) codT := bindP_some hn
  have ler := cntP_ok hn
  have key:∀ (a:Arr) (i:Nat),i < 1→([a.row1]:List (List D)).getD i [] = (([a]:List Arr).getD i default).row1 := fun a i hi => by
    have:i = 0 := by omega
    subst this
    rfl
  refine ⟨.inl (StTo.refl _),⟨fun _ => ⟨by omega,fun a ra ha b cap' _ hcap => .inr ⟨(1,(b,cap'),[a],ra),⟨(LHd.init _ _ _).step (by omega) ha,hcap,?_⟩,by simp only; omega,rfl,StTo.pos ⟨⟨rfl,chk_iff.2 ⟨rfl,rfl,rfl,fun i hi => key a i hi⟩,rfl,weakL_refl _,rfl,⟨chk_iff.2 ⟨rfl,rfl,rfl,rfl⟩,weakD_refl _,weakD_refl _,weakD_refl _,trivial⟩,rfl,weakL_refl _,trivial⟩,trivial⟩⟩,fun h => noC (hc0.trans (bindP_none ((LHd.init _ _ _).none (by omega) h)))⟩,fun h => absurd h (by omega)⟩,?_⟩
  · have := arrP_len 17 _ _ ha; simp only at this ⊢; omega
  rintro ⟨i,⟨b,cap⟩,s,rr⟩ ⟨hL0,hsc,hrr⟩
  simp only at hL0 hsc hrr ⊢
  have hls := hL0.hs
  have hli := hL0.hi
  refine ⟨fun hlt => ⟨by omega,fun a ra ha => ⟨by omega,fun b' cap' hcap => .inr ⟨(i + 1,(b',cap'),s ++ [a],ra),⟨hL0.step (by omega) ha,by simp only [List.length_append,List.length_cons,List.length_nil]; omega,?_⟩,by simp only; omega,wrap_i64' (by omega) (by omega),StTo.pos ⟨⟨rfl,chk_iff.2 ⟨rfl,by simp,rfl,fun j hj => app_list Arr.row1 s a rfl hj⟩,rfl,weakL_refl _,rfl,⟨chk_iff.2 ⟨rfl,rfl,by simp,rfl⟩,weakD_refl _,weakD_refl _,weakD_refl _,trivial⟩,rfl,weakL_refl _,trivial⟩,trivial⟩⟩⟩,fun h => noC (hc0.trans (bindP_none (hL0.none (by omega) h)))⟩,fun hge => ?_⟩
  · have := arrP_len 17 _ _ ha; simp only at this ⊢; omega
  have hcod:codP l = codT s rr := hc0.trans (bindP_some (hL0.done (by omega)))
  clear hL0 hli hge
  refine ⟨by omega,fun n1 r1 hn1 t0 => ⟨⟨(0,t0,[],r1),⟨LHd.init _ _ _,?_⟩,rfl,⟨⟨rfl,fun _ _ => rfl⟩,rfl,fun i hi => absurd hi (Nat.not_lt_zero i),rfl⟩,rfl⟩,?_⟩,fun h => noC (hcod.trans (bindP_none h))⟩
  · have := cntP_ok hn1; simp only; omega
  have hc1 := hcod.trans (bindP_some hn1)
  have le1 := cntP_ok hn1
  rintro ⟨i,t1,fs,rs⟩ ⟨hL,hrl⟩
  simp only at hL hrl ⊢
  have hsl := hL.hs
  have hi := hL.hi
  refine ⟨fun hlt => ?_,fun hge => ?_⟩
  · have fail:funP rs = none→∀ c,¬ codP l = some (c,[]) := fun h => noC (hc1.trans (bindP_none (hL.none (by omega) h)))
    refine ⟨by omega,fun sl ra ha _ _ => ⟨by have := num_le ha; omega,fun m rb hm => ⟨fun t2 => ⟨⟨(0,t2,[],rb),⟨LHd.init _ _ _,?_⟩,rfl,⟨⟨rfl,fun _ _ => rfl⟩,rfl,fun i hi => absurd hi (Nat.not_lt_zero i),rfl⟩,rfl⟩,?_⟩,?_⟩,fun h => fail ((bindP_some ha).trans (bindP_none h))⟩,fun h => fail (bindP_none h)⟩
    · have := num_le ha; have := cntP_ok hm; simp only; omega
    · have lea := num_le ha
      have lem := cntP_ok hm
      rintro ⟨j,t3,code,r0⟩ ⟨hM,hr0⟩
      simp only at hM hr0 ⊢
      have hms := hM.hs
      have hmi := hM.hi
      refine ⟨fun hjl => ?_,fun hjg => ⟨(code,r0),⟨hM.done (by omega),hr0⟩,⟨rfl,fun _ _ => rfl⟩,rfl,fun _ _ => rfl⟩⟩
      have fail2:p4 r0 = none→∀ c,¬ codP l = some (c,[]) := fun h => fail ((bindP_some ha).trans ((bindP_some hm).trans (bindP_none (hM.none (by omega) h))))
      refine ⟨by  omega,fun a ra' ha' => ⟨by have := num_le ha'; omega,fun b rb' hb' => ⟨by have := num_le ha'; have := num_le hb'; omega,fun c rc' hc' => ⟨by have := num_le ha'; have := num_le hb'; have := num_le hc'; omega,fun d rd' hd' => ⟨by omega,fun t4 => ?_⟩,fun h => fail2 ((bindP_some ha').trans ((bindP_some hb').trans ((bindP_some hc').trans (bindP_none h))))⟩,fun h => fail2 ((bindP_some ha').trans ((bindP_some hb').trans (bindP_none h)))⟩,fun h => fail2 ((bindP_some ha').trans (bindP_none h))⟩,fun h => fail2 (bindP_none h)⟩
      have hp:p4 r0 = some (⟨a,b,c,d⟩,rd') := (bindP_some ha').trans ((bindP_some hb').trans ((bindP_some hc').trans (bindP_some hd')))
      exact ⟨(j + 1,t4,code ++ [I4.mk a b c d],rd'),⟨hM.step (by omega) hp,by have := num_le ha'; have := num_le hb'; have := num_le hc'; have := num_le hd'; simp only; omega⟩,by simp only; omega,wrap_i64' (by omega) (by omega),⟨⟨rfl,fun _ _ => rfl⟩,by simp,fun j hj => app_list I4.row code (I4.mk a b c d) rfl hj,rfl⟩,rfl⟩
    rintro ⟨code,r0⟩ ⟨hmd,hr0⟩
    simp only at hmd hr0 ⊢
    refine ⟨by omega,fun t4 => ?_⟩
    have hp:funP rs = some (⟨sl,code⟩,r0) := (bindP_some ha).trans ((bindP_some hm).trans (bindP_some hmd))
    exact ⟨(i + 1,t4,fs ++ [FnD.mk sl code],r0),⟨hL.step (by omega) hp,by simp only; omega⟩,by simp only; omega,wrap_i64' (by omega) (by omega),⟨⟨rfl,fun _ _ => rfl⟩,by simp,fun j hj => app_list FnD.row fs (FnD.mk sl code) rfl hj,rfl⟩,rfl⟩
  have hcd2 := hc1.trans (bindP_some (hL.done (by omega)))
  clear hc1 le1 hL hi hge hsl hn1 i t1 t0 n1
  refine ⟨by omega,fun n1 r1 hn1 t0 => ⟨⟨(0,t0,[],r1),⟨LHd.init _ _ _,?_⟩,rfl,⟨⟨rfl,fun _ _ => rfl⟩,rfl,fun i hi => absurd hi (Nat.not_lt_zero i),rfl⟩,rfl⟩,?_⟩,fun h => noC (hcd2.trans (bindP_none h))⟩
  · have := cntP_ok hn1; simp only; omega
  have hc1 := hcd2.trans (bindP_some hn1)
  have le1 := cntP_ok hn1
  rintro ⟨i,t1,ks,ru⟩ ⟨hL,hrl⟩
  simp only at hL hrl ⊢
  have hsl := hL.hs
  have hi := hL.hi
  refine ⟨fun hlt => ?_,fun hge => ?_⟩
  · have fail:kerP ru = none→∀ c,¬ codP l = some (c,[]) := fun h => noC (hc1.trans (bindP_none (hL.none (by omega) h)))
    refine ⟨by omega,fun sl ra ha _ _ => ⟨by have := num_le ha; omega,fun m rb hm => ⟨fun t2 => ⟨⟨(0,t2,[],rb),⟨LHd.init _ _ _,?_⟩,rfl,⟨⟨rfl,fun _ _ => rfl⟩,rfl,fun i hi => absurd hi (Nat.not_lt_zero i),rfl⟩,rfl⟩,?_⟩,?_⟩,fun h => fail ((bindP_some ha).trans (bindP_none h))⟩,fun h => fail (bindP_none h)⟩
    · have := num_le ha; have := cntP_ok hm; simp only; omega
    · have lea := num_le ha
      have lem := cntP_ok hm
      rintro ⟨j,t3,code,r0⟩ ⟨hM,hr0⟩
      simp only at hM hr0 ⊢
      have hms := hM.hs
      have hmi := hM.hi
      refine ⟨fun hjl => ?_,fun hjg => ⟨(code,r0),⟨hM.done (by omega),hr0⟩,⟨rfl,fun _ _ => rfl⟩,rfl,fun _ _ => rfl⟩⟩
      have fail2:p4 r0 = none→∀ c,¬ codP l = some (c,[]) := fun h => fail ((bindP_some ha).trans ((bindP_some hm).trans (bindP_none (hM.none (by omega) h))))
      refine ⟨by  omega,fun a ra' ha' => ⟨by have := num_le ha'; omega,fun b rb' hb' => ⟨by have := num_le ha'; have := num_le hb'; omega,fun c rc' hc' => ⟨by have := num_le ha'; have := num_le hb'; have := num_le hc'; omega,fun d rd' hd' => ⟨by omega,fun t4 => ?_⟩,fun h => fail2 ((bindP_some ha').trans ((bindP_some hb').trans ((bindP_some hc').trans (bindP_none h))))⟩,fun h => fail2 ((bindP_some ha').trans ((bindP_some hb').trans (bindP_none h)))⟩,fun h => fail2 ((bindP_some ha').trans (bindP_none h))⟩,fun h => fail2 (bindP_none h)⟩
      have hp:p4 r0 = some (⟨a,b,c,d⟩,rd') := (bindP_some ha').trans ((bindP_some hb').trans ((bindP_some hc').trans (bindP_some hd')))
      exact ⟨(j + 1,t4,code ++ [I4.mk a b c d],rd'),⟨hM.step (by omega) hp,by have := num_le ha'; have := num_le hb'; have := num_le hc'; have := num_le hd'; simp only; omega⟩,by simp only; omega,wrap_i64' (by omega) (by omega),⟨⟨rfl,fun _ _ => rfl⟩,by simp,fun j hj => app_list I4.row code (I4.mk a b c d) rfl hj,rfl⟩,rfl⟩
    rintro ⟨code,r0⟩ ⟨hmd,hr0⟩
    simp only at hmd hr0 ⊢
    refine ⟨by omega,fun re rf hre => ⟨by have := num_le hre; omega,fun at_ rg hat => ⟨by omega,fun t4 => ?_⟩,fun h => fail ((bindP_some ha).trans ((bindP_some hm).trans ((bindP_some hmd).trans ((bindP_some hre).trans (bindP_none h)))))⟩,fun h => fail ((bindP_some ha).trans ((bindP_some hm).trans ((bindP_some hmd).trans (bindP_none h))))⟩
    have hp:kerP ru = some (⟨sl,code,re,at_⟩,rg) := (bindP_some ha).trans ((bindP_some hm).trans ((bindP_some hmd).trans ((bindP_some hre).trans (bindP_some hat))))
    exact ⟨(i + 1,t4,ks ++ [KeD.mk sl code re at_],rg),⟨hL.step (by omega) hp,by have := num_le hre; have := num_le hat; simp only; omega⟩,by simp only; omega,wrap_i64' (by omega) (by omega),⟨⟨rfl,fun _ _ => rfl⟩,by simp,fun j hj => app_list KeD.row ks (KeD.mk sl code re at_) rfl hj,rfl⟩,rfl⟩
  have hcd3 := hc1.trans (bindP_some (hL.done (by omega)))
  clear hc1 le1 hL hi hge hsl hn1 i t1 t0 n1
  refine ⟨by omega,fun n1 r1 hn1 t0 => ⟨⟨(0,t0,[],r1),⟨LHd.init _ _ _,?_⟩,rfl,⟨⟨rfl,fun _ _ => rfl⟩,rfl,fun i hi => absurd hi (Nat.not_lt_zero i),rfl⟩,rfl⟩,?_⟩,fun h => noC (hcd3.trans (bindP_none h))⟩
  · have := cntP_ok hn1; simp only; omega
  have hc1 := hcd3.trans (bindP_some hn1)
  have le1 := cntP_ok hn1
  rintro ⟨i,t1,ls,rv⟩ ⟨hL,hrl⟩
  simp only at hL hrl ⊢
  have hsl := hL.hs
  have hi := hL.hi
  refine ⟨fun hlt => ?_,fun hge => ?_⟩
  · have fail:lanP rv = none→∀ c,¬ codP l = some (c,[]) := fun h => noC (hc1.trans (bindP_none (hL.none (by omega) h)))
    refine ⟨by omega,fun sl ra ha _ _ => ⟨by have := num_le ha; omega,fun m rb hm => ⟨fun t2 => ⟨⟨(0,t2,[],rb),⟨LHd.init _ _ _,?_⟩,rfl,⟨⟨rfl,fun _ _ => rfl⟩,rfl,fun i hi => absurd hi (Nat.not_lt_zero i),rfl⟩,rfl⟩,?_⟩,?_⟩,fun h => fail ((bindP_some ha).trans (bindP_none h))⟩,fun h => fail (bindP_none h)⟩
    · have := num_le ha; have := cntP_ok hm; simp only; omega
    · have lea := num_le ha
      have lem := cntP_ok hm
      rintro ⟨j,t3,code,r0⟩ ⟨hM,hr0⟩
      simp only at hM hr0 ⊢
      have hms := hM.hs
      have hmi := hM.hi
      refine ⟨fun hjl => ?_,fun hjg => ⟨(code,r0),⟨hM.done (by omega),hr0⟩,⟨rfl,fun _ _ => rfl⟩,rfl,fun _ _ => rfl⟩⟩
      have fail2:p6 r0 = none→∀ c,¬ codP l = some (c,[]) := fun h => fail ((bindP_some ha).trans ((bindP_some hm).trans (bindP_none (hM.none (by omega) h))))
      refine ⟨by  omega,fun a ra' ha' => ⟨by have := num_le ha'; omega,fun b rb' hb' => ⟨by have := num_le ha'; have := num_le hb'; omega,fun c rc' hc' => ⟨by have := num_le ha'; have := num_le hb'; have := num_le hc'; omega,fun d rd' hd' => ⟨by have := num_le ha'; have := num_le hb'; have := num_le hc'; have := num_le hd'; omega,fun e re' he' => ⟨by have := num_le ha'; have := num_le hb'; have := num_le hc'; have := num_le hd'; have := num_le he'; omega,fun f rf' hf' => ⟨by omega,fun t4 => ?_⟩,fun h => fail2 ((bindP_some ha').trans ((bindP_some hb').trans ((bindP_some hc').trans ((bindP_some hd').trans ((bindP_some he').trans (bindP_none h))))))⟩,fun h => fail2 ((bindP_some ha').trans ((bindP_some hb').trans ((bindP_some hc').trans ((bindP_some hd').trans (bindP_none h)))))⟩,fun h => fail2 ((bindP_some ha').trans ((bindP_some hb').trans ((bindP_some hc').trans (bindP_none h))))⟩,fun h => fail2 ((bindP_some ha').trans ((bindP_some hb').trans (bindP_none h)))⟩,fun h => fail2 ((bindP_some ha').trans (bindP_none h))⟩,fun h => fail2 (bindP_none h)⟩
      have hp:p6 r0 = some (⟨a,b,c,d,e,f⟩,rf') := (bindP_some ha').trans ((bindP_some hb').trans ((bindP_some hc').trans ((bindP_some hd').trans ((bindP_some he').trans (bindP_some hf')))))
      exact ⟨(j + 1,t4,code ++ [I6.mk a b c d e f],rf'),⟨hM.step (by omega) hp,by have := num_le ha'; have := num_le hb'; have := num_le hc'; have := num_le hd'; have := num_le he'; have := num_le hf'; simp only; omega⟩,by simp only; omega,wrap_i64' (by omega) (by omega),⟨⟨rfl,fun _ _ => rfl⟩,by simp,fun j hj => app_list I6.row code (I6.mk a b c d e f) rfl hj,rfl⟩,rfl⟩
    rintro ⟨code,r0⟩ ⟨hmd,hr0⟩
    simp only at hmd hr0 ⊢
    refine ⟨by omega,fun t4 => ?_⟩
    have hp:lanP rv = some (⟨sl,code⟩,r0) := (bindP_some ha).trans ((bindP_some hm).trans (bindP_some hmd))
    exact ⟨(i + 1,t4,ls ++ [LaD.mk sl code],r0),⟨hL.step (by omega) hp,by simp only; omega⟩,by simp only; omega,wrap_i64' (by omega) (by omega),⟨⟨rfl,fun _ _ => rfl⟩,by simp,fun j hj => app_list LaD.row ls (LaD.mk sl code) rfl hj,rfl⟩,rfl⟩
  have hcd4 := hc1.trans (bindP_some (hL.done (by omega)))
  clear hc1 le1 hL hi hge hsl hn1 i t1 t0 n1
  refine ⟨fun h => ?_,fun h => ?_⟩
  · have h:rv ≠ [] := fun e => by simp [e] at h
    intro c e
    rw [hcd4] at e
    injection e with e; injection e with _ e
    exact h e
  · have h:rv = [] := by simpa using h
    subst h
    exact ⟨(s,fs,ks,ls,[]),hcd4,⟨rfl,rfl,fun _ _ => rfl⟩,⟨rfl,fun _ _ => rfl⟩,⟨rfl,fun _ _ => rfl⟩,rfl,fun _ _ => rfl⟩
end Go.Proofs.Ytoglbmhkfkghbaa
namespace Go.Proofs.Ytoglbmhkfkghbaa
open Go Go.Ab
set_option maxRecDepth 100000
theorem listP_length {α:Type} {p:List UInt8→Option (α × List UInt8)}:∀ (n:Nat) (l:List UInt8) (y:List α × List UInt8),listP p n l = some y→y.1.length = n
  | 0,l,y,h => by rw [listP] at h; injection h with h; subst h; rfl
  | n + 1,l,y,h => by
    rw [listP] at h
    split at h
    · cases h
    · split at h
      · cases h
      · rename_i w hw
        injection h with h; subst h
        simp [listP_length n _ _ hw]
theorem bindP_some' {α β:Type} {p:Option (α × List UInt8)} {f:α→List UInt8→Option β} {z:β} (h:bindP p f = some z):∃ y,p = some y∧f y.1 y.2 = some z := by
  cases p with
  | none => cases h
  | some y => exact ⟨y,rfl,h⟩
theorem codT_consts {cs:List Arr} {l:List UInt8} {z:CodD × List UInt8} (h:codT cs l = some z):z.1.consts = cs := by
  obtain ⟨_,_,h⟩ := bindP_some' h
  obtain ⟨_,_,h⟩ := bindP_some' h
  obtain ⟨_,_,h⟩ := bindP_some' h
  obtain ⟨_,_,h⟩ := bindP_some' h
  obtain ⟨_,_,h⟩ := bindP_some' h
  obtain ⟨_,_,h⟩ := bindP_some' h
  injection h with h; subst h; rfl
theorem codP_consts {l:List UInt8} {z:CodD × List UInt8} (h:codP l = some z):∃ n r,cntP l = some (n,r)∧z.1.consts.length = n := by
  obtain ⟨y,h1,h⟩ := bindP_some' h
  obtain ⟨w,h2,h⟩ := bindP_some' h
  exact ⟨y.1,y.2,h1,by rw [codT_consts h,listP_length _ _ _ h2]⟩
theorem bodyP_of {l:List UInt8} {c:CodD} (h:codP l = some (c,[])):bodyP l = some c := by
  unfold bodyP; rw [bindP_some h]; simp
theorem bodyP_some {l:List UInt8} {c:CodD} (h:bodyP l = some c):codP l = some (c,[]) := by
  obtain ⟨y,h1,h⟩ := bindP_some' h
  split at h
  · rename_i e
    injection h with h
    rw [h1,← h,← e]
  · cases h
def _root_.Go.Ab.rcX (S:St) (R:AEnd→St→Prop) (k x:Nat):Prop :=
  match getO S.objs k with
  | some (y,.cells [.sl 1 n f .any]) => (y = x∧rowsB n f = true∧n ≤ 4294967296∧leS (stK k x (bytesOf n f)) S) ∧
    (∀ c,bodyP (bytesOf n f) = some c→c.consts = []→R (.ret (.agg [.sl 1 0 (fun _ => []) .nil,gsl 2 FnD.row c.funs,gsl 4 KeD.row c.kers,gsl 2 LaD.row c.lanes])) (S.less (stK k x []))) ∧
    (∀ c,bodyP (bytesOf n f) = some c→c.consts ≠ []→∀ b cap,R (.ret (.agg [.vs (nextTag S.objs) b c.consts.length cap 4,gsl 2 FnD.row c.funs,gsl 4 KeD.row c.kers,gsl 2 LaD.row c.lanes])) ((⟨[(nextTag S.objs,b,.vec 4 c.consts.length cap (fun i => (c.consts.getD i default).row1))],[]⟩:St).add (S.less (stK k x [])))) ∧
    (bodyP (bytesOf n f) = none→R (.pan brk) (S.less (stK k x [])))
  | _ => False
theorem rcX_ok {S:St} {R:AEnd→St→Prop} {k x:Nat} (hx:rcX S R k x):ACalls Try.prog 49 [.ref k x 0] S R := by
  unfold rcX at hx
  split at hx
  · rename_i y n g hg
    obtain ⟨⟨rfl,h1,h2,h3⟩,h4,h5,h6⟩ := hx
    have hl:(bytesOf n g).length ≤ 4294967296 := by simpa [bytesOf] using h2
    generalize hL:bytesOf n g = l at *
    have st:StTo S ((bS y l).add (S.less (stK k y []))) := fun C F w H => (StTo.frame (StTo.pos (S := stK k y l) (S' := bS y l) ⟨⟨rfl,by simp [weakO,weakL,weakD,chk_iff,weakM,bsl],trivial⟩,trivial⟩) _) C F w (H.split h3)
    have wa:weakL [D.ref k y 0] [D.ref 0 y 0] := ⟨by simp [weakD,chk_iff],trivial⟩
    by_cases hn:∀ n r,cntP l = some (n,r)→n = 0
    · have hc := ACalls.weakArgs (((rc0 y l hl hn).frame (S.less (stK k y []))).from st) wa
      refine hc.weaken ?_
      rintro e S2 ⟨S0,hR,rfl⟩
      have drop:StTo (S0.add (S.less (stK k y []))) (S.less (stK k y [])) := (StTo.frame (StTo.none S0) _).trans (fun C F w H => by simpa [St.add] using H)
      cases e with
      | ret d' =>
        obtain ⟨z,q1,q2⟩ := hR
        exact ⟨.ret _,_,(show weakD d' _ from q2),drop,h4 ⟨[],z.1,z.2.1,z.2.2.1⟩ (bodyP_of q1) rfl⟩
      | pan d' =>
        obtain ⟨q1,q2⟩ := hR
        refine ⟨.pan brk,_,(show weakD d' _ from q2),drop,h6 ?_⟩
        cases hb:bodyP l with
        | none => rfl
        | some c => exact (q1 c (bodyP_some hb)).elim
    · have hn:∃ n r,cntP l = some (n + 1,r) := by
        cases hc:cntP l with
        | none => exact (hn fun n r h => by rw [hc] at h; cases h).elim
        | some z =>
          obtain ⟨n,r⟩ := z
          cases n with
          | zero => exact (hn fun n r h => by rw [hc] at h; injection h with h; injection h with h; exact h.symm).elim
          | succ n => exact ⟨n,r,rfl⟩
      obtain ⟨n1,r1,hn⟩ := hn
      have hc := ACalls.weakArgs (((rc1 y n1 l r1 hl hn).frame (S.less (stK k y []))).from st) wa
      refine hc.weaken ?_
      rintro e S2 ⟨S0,hR,rfl⟩
      have drop:StTo (S0.add (S.less (stK k y []))) (S.less (stK k y [])) := (StTo.frame (StTo.none S0) _).trans (fun C F w H => by simpa [St.add] using H)
      cases e with
      | ret d' =>
        unfold endC1 at hR
        split at hR
        · rename_i dc df dk dl e
          injection e with e
          subst e
          obtain ⟨z,q1,q2,q3,q4,q5⟩ := hR
          unfold vecIs at q2
          split at q2
          · rename_i k0 b len cap wd
            obtain ⟨w4,e4,q6⟩ := chk_iff.1 q2
            subst e4
            have w4:wd = 4 := of_decide_eq_true w4
            subst w4
            have hne:z.1 ≠ [] := by
              obtain ⟨n,r,a1,a2⟩ := codP_consts q1
              rw [hn] at a1
              injection a1 with a1; injection a1 with a1 _
              intro e
              simp [e] at a2
              omega
            refine ⟨.ret (.agg [.vs (nextTag S.objs) b z.1.length cap 4,gsl 2 FnD.row z.2.1,gsl 4 KeD.row z.2.2.1,gsl 2 LaD.row z.2.2.2.1]),_,⟨chk_iff.2 ⟨rfl,rfl,rfl,rfl⟩,q3,q4,q5,trivial⟩,StTo.frame ((leS_to q6).trans (StTo.pos (S := ⟨[(k0,b,.vec 4 z.1.length cap (fun i => (z.1.getD i default).row1))],[]⟩) (S' := ⟨[(nextTag S.objs,b,.vec 4 z.1.length cap (fun i => (z.1.getD i default).row1))],[]⟩) ⟨⟨rfl,chk_iff.2 ⟨rfl,rfl,rfl,fun _ _ => rfl⟩,trivial⟩,trivial⟩)) _,h5 ⟨z.1,z.2.1,z.2.2.1,z.2.2.2.1⟩ (bodyP_of q1) hne b cap⟩
          · exact q2.elim
        · rename_i e; cases e
        · exact hR.elim
      | pan d' =>
        obtain ⟨q1,q2⟩ := hR
        refine ⟨.pan brk,_,(show weakD d' _ from q2),drop,h6 ?_⟩
        cases hb:bodyP l with
        | none => rfl
        | some c => exact (q1 c (bodyP_some hb)).elim
  · exact hx.elim
noncomputable def _root_.Go.Ab.inlC (con:Con) (k:Nat) (ds:List D) (S:St) (R:AEnd→St→Prop):Prop :=
  match Nat.beq k 49 with
  | true => match ds with
    | [.ref kx x 0] => rcX S R kx x
    | _ => False
  | false => inlD { E0 con 0 0 [] (fun _ => ([],[])) with auto := true } (frmGet frames) 9 k ds S R
theorem inlC_ok {con:Con} (hc:ConOk Try.prog con) (k:Nat) (ds:List D) (S:St) (R:AEnd→St→Prop) (h:inlC con k ds S R):ACalls Try.prog k ds S R := by
  unfold inlC at h
  split at h
  · rename_i hk
    have hk := Nat.eq_of_beq_eq_true hk
    subst hk
    split at h
    · exact rcX_ok h
    · exact h.elim
  · exact inlD_ok (E := { E0 con 0 0 [] (fun _ => ([],[])) with auto := true }) tab_ok hc mix frames_ok eqs_ok 9 k ds S R h
theorem door_of {E : Senv} {f : Nat} {A : Frm} {c : Code} {ds : List D} {S : St} {R : AEnd → St → Prop} {fr : Nat → Option Frm} (hE : EnvOk E) (hF : FrmOk E.P fr) (hA : fr f = some A) (hc : A.fn.body = some c) (hl : Nat.ble ds.length A.n = true)
    (h:vcD (E.fit A E.inl) c 0 (inlQ R E.tt A.fn.results.toList) (doorQ (dclE E fr E.inl) R E.tt A.fn.results.toList) (argsEnv 0 ds) S):ACalls E.P f ds S R := by
  obtain ⟨hT,hC,hm,hi,hQ⟩ := hE
  obtain ⟨q1,q2,q3⟩ := hF f A hA
  exact acalls_door hT q1 hc q3 q2 (Nat.le_of_ble_eq_true hl) (dclE_ok hT hC hm hF hQ hi) (vcD_sound (E := E.fit A E.inl) (fit_ok hT hC hm hQ hi) c 0 _ _ _ _ h)
def _root_.Go.Ab.conIs (dc:D) (cs:List Arr) (S:St):Prop := match dc with
  | .sl w n _ .nil => cs = []∧w = 1∧n = 0
  | dc => vecIs dc cs S∧cs ≠ []
def _root_.Go.Ab.endY (p:Option CodD) (e:AEnd) (S:St):Prop :=
  match e with
  | .ret (.tup [.agg [dc, df, dk, dl], .int .i64 z]) => (z = 25 → p = none ∧ weakL [dc, df, dk, dl] [.sl 1 0 (fun _ => []) .nil, .sl 1 0 (fun _ => []) .nil, .sl 1 0 (fun _ => []) .nil, .sl 1 0 (fun _ => []) .nil]) ∧
      (z ≠ 25→z = 0∧∃ c:CodD,p = some c∧weakD df (gsl 2 FnD.row c.funs)∧weakD dk (gsl 4 KeD.row c.kers)∧weakD dl (gsl 2 LaD.row c.lanes)∧conIs dc c.consts S)
  | _ => False
noncomputable def Eby:Senv := { E0 con0 0 0 [] (fun _ => ([],[])) with auto := true,inl := inlC con0 }
noncomputable section
def rd7q0 (p0:List UInt8) (p1:Nat):List D := [ZB (BI p0 p1)]
def rd7q1 (p0:List UInt8):List UInt8 := bytesOf (LN p0) fun (i:Nat) => rd7q0 p0 i
def rd7q2 (p0:List UInt8):Option CodD := bodyP (rd7q1 p0)
def rd7q3 (p0:List UInt8) (p1:CodD):Prop := rd7q2 p0 = some p1
def rd7q4 (p0:CodD):List Arr := CodD.consts p0
def rd7q5 (p0:List UInt8):Prop := bodyP p0 = none
def rd7q6:Prop := SM N0∧(∀ (i:Nat),i < N0→eqOf (List D) [] [])∧True
def rd7q7 (p0:List UInt8) (p1:CodD):Prop := bodyP p0 = some p1
def rd7q8 (p0:CodD):Nat := LN (CodD.funs p0)
def rd7q9 (p0:CodD) (p1:Nat):FnD := GF p0 p1
def rd7q10 (p0:CodD) (p1:Nat):List I4 := FnD.code (rd7q9 p0 p1)
def rd7q11 (p0:CodD) (p1 p2:Nat):I4 := G4 (rd7q10 p0 p1) p2
def rd7q12 (p0:CodD) (p1:Nat):List D := [ZI (FnD.slots (rd7q9 p0 p1)),D.sl N4 (LN (rd7q10 p0 p1)) (fun (i:Nat) => (R4 (rd7q11 p0 p1 i))) Mode.any]
def rd7q13 (p0 p1:CodD):Prop := rd7q8 p0 = rd7q8 p1∧(∀ (i:Nat),i < rd7q8 p0→rd7q12 p0 i = rd7q12 p1 i)∧True
def rd7q14 (p0:CodD):Nat := LN (CodD.kers p0)
def rd7q15 (p0:CodD) (p1:Nat):KeD := GK p0 p1
def rd7q16 (p0:CodD) (p1:Nat):List I4 := KeD.ops (rd7q15 p0 p1)
def rd7q17 (p0:CodD) (p1 p2:Nat):I4 := G4 (rd7q16 p0 p1) p2
def rd7q18 (p0:CodD) (p1:Nat):List D := [ZI (KeD.inputs (rd7q15 p0 p1)),D.sl N4 (LN (rd7q16 p0 p1)) (fun (i:Nat) => (R4 (rd7q17 p0 p1 i))) Mode.any,ZI (KeD.reduce (rd7q15 p0 p1)),ZI (KeD.at_ (rd7q15 p0 p1))]
def rd7q19 (p0 p1:CodD):Prop := rd7q14 p0 = rd7q14 p1∧(∀ (i:Nat),i < rd7q14 p0→rd7q18 p0 i = rd7q18 p1 i)∧True
def rd7q20 (p0:CodD):Nat := LN (CodD.lanes p0)
def rd7q21 (p0:CodD) (p1:Nat):LaD := GL p0 p1
def rd7q22 (p0:CodD) (p1:Nat):List I6 := LaD.code (rd7q21 p0 p1)
def rd7q23 (p0:CodD) (p1 p2:Nat):I6 := G6 (rd7q22 p0 p1) p2
def rd7q24 (p0:CodD) (p1:Nat):List D := [ZI (LaD.regs (rd7q21 p0 p1)),D.sl N6 (LN (rd7q22 p0 p1)) (fun (i:Nat) => (R6 (rd7q23 p0 p1 i))) Mode.any]
def rd7q25 (p0 p1:CodD):Prop := rd7q20 p0 = rd7q20 p1∧(∀ (i:Nat),i < rd7q20 p0→rd7q24 p0 i = rd7q24 p1 i)∧True
def rd7q26 (p0:CodD):Prop := eqOf (List Arr) (rd7q4 p0) []∧SM N1∧SM N0
def rd7q27 (p0:CodD):Nat := LN (rd7q4 p0)
def rd7q28 (p0 p1:CodD):Prop := rd7q27 p0 = rd7q27 p1
def rd7q29:Arr := DA
def rd7q30 (p0:CodD) (p1:Nat):Arr := List.getD (rd7q4 p0) p1 rd7q29
def rd7q31 (p0:CodD) (p1:Nat):List Int := Arr.sh (rd7q30 p0 p1)
def rd7q32 (p0:CodD) (p1:Nat):List Int := Arr.nu (rd7q30 p0 p1)
def rd7q33 (p0:CodD) (p1:Nat):List Arr := Arr.it (rd7q30 p0 p1)
def rd7q34 (p0:CodD) (p1:Nat):List D := [ZI (Arr.k (rd7q30 p0 p1)),SI (rd7q31 p0 p1),SI (rd7q32 p0 p1),D.sl N4 (LN (rd7q33 p0 p1)) (fun (i:Nat) => Arr.row (List.getD (rd7q33 p0 p1) i rd7q29)) Mode.any]
end
theorem by_ok (l:List UInt8) (hl:l.length ≤ 4294967296):ACalls Try.prog 25 [bsl l .any] ⟨[],[]⟩ (endY (bodyP l)) := by
  refine door_of (E := Eby) (fr := frmGet frames) ⟨tab_ok,con0_ok,mix,inlC_ok con0_ok,eqs_ok⟩ frames_ok rfl rfl (by kernel_rfl) ?_
  refine vc_eq (T :=
    ∀ (x:Nat),True→∀ (x_1:Nat),x ≠ x_1∧True→∀ (x_2:Nat),x_1 ≠ x_2∧x ≠ x_2∧True→(SM x_2∧(rowsB (LN l) fun (i:Nat) => rd7q0 l i) = true∧LN l ≤ (4294967296:Nat)∧(SM x_2∧((LN l = LN (rd7q1 l)∧(∀ (i:Nat),i < LN l→rd7q0 l i = [ZB (BI (rd7q1 l) i)])∧True)∧True)∧True)∧True)∧(∀ (c:CodD),rd7q3 l c→eqOf (List Arr) (rd7q4 c) []→SM x∧SM x_1∧(SM x∧SM x_1∧True)∧(Z0 = (25:Int)→rd7q5 l∧rd7q6∧False∧False∧False∧True)∧(Z0 ≠ (25:Int)→SM Z0∧∃ (c_1:CodD),rd7q7 l c_1∧rd7q13 c c_1∧rd7q19 c c_1∧rd7q25 c c_1∧rd7q26 c_1))∧(∀ (c:CodD),rd7q3 l c→rd7q4 c ≠ []→∀ (b cap:Nat),SM x∧SM x_1∧(SM x∧SM x_1∧True)∧(Z0 = (25:Int)→rd7q5 l∧D.vs (3:Nat) b (rd7q27 c) cap N4 = D.sl N1 N0 (fun (x:Nat) => []) Mode.nil∧False∧False∧False∧True)∧(Z0 ≠ (25:Int)→SM Z0∧∃ (c_1:CodD),rd7q7 l c_1∧rd7q13 c c_1∧rd7q19 c c_1∧rd7q25 c c_1∧(rd7q28 c c_1∧(SM b∧(rd7q28 c c_1∧SM cap∧∀ (i:Nat),i < rd7q27 c→rd7q34 c i = rd7q34 c_1 i)∧True)∧True)∧rd7q4 c_1 ≠ []))∧(rd7q2 l = none→∀ (x_3:Nat),x_1 ≠ x_3∧x ≠ x_3∧True→SM x_3∧SM x∧SM x_1∧(SM x∧SM x_1∧True)∧(SM (25:Int)→rd7q5 l∧rd7q6∧rd7q6∧rd7q6∧rd7q6∧True)∧((25:Int) ≠ (25:Int)→(25:Int) = Z0∧∃ (c:CodD),rd7q7 l c∧False∧False∧False∧rd7q26 c))) (by kernel_rfl) ?_
  delta BI D4 D6 DA DF DK DL G4 G6 GF GI GK GL LN N0 N1 N4 N6 R4 R6 SI SM U0 Z0 ZB ZI rd7q0 rd7q1 rd7q10 rd7q11 rd7q12 rd7q13 rd7q14 rd7q15 rd7q16 rd7q17 rd7q18 rd7q19 rd7q2 rd7q20 rd7q21 rd7q22 rd7q23 rd7q24 rd7q25 rd7q26 rd7q27 rd7q28 rd7q29 rd7q3 rd7q30 rd7q31 rd7q32 rd7q33 rd7q34 rd7q4 rd7q5 rd7q6 rd7q7 rd7q8 rd7q9
  have dF:(default:FnD) = ⟨0,[]⟩ := rfl
  have dK:(default:KeD) = ⟨0,[],0,0⟩ := rfl
  have dL:(default:LaD) = ⟨0,[]⟩ := rfl
  have d4:(default:I4) = ⟨0,0,0,0⟩ := rfl
  have d6:(default:I6) = ⟨0,0,0,0,0,0⟩ := rfl
  have da:(default:Arr) = Arr.mk 0 [] [] [] := rfl
  simp only [← da,← dF,← dK,← dL,← d4,← d6,eq_self,ne_eq,implies_true,true_and,and_true,forall_const,bytesOf_bsl,rowsB_bsl]
  refine fun x x1 _ x2 _ => ⟨hl,fun c hc he => ⟨fun h => absurd h (by decide),fun _ => ⟨c,hc,⟨rfl,fun _ _ => rfl⟩,⟨rfl,fun _ _ => rfl⟩,⟨rfl,fun _ _ => rfl⟩,he⟩⟩,fun c hc he b cap => ⟨fun h => absurd h (by decide),fun _ => ⟨c,hc,⟨rfl,fun _ _ => rfl⟩,⟨rfl,fun _ _ => rfl⟩,⟨rfl,fun _ _ => rfl⟩,⟨rfl,rfl,fun _ _ => rfl⟩,he⟩⟩,fun hn => ?_⟩
  exact fun x3 _ => ⟨hn,fun h => (h trivial).elim⟩
end Go.Proofs.Ytoglbmhkfkghbaa
namespace Go.Proofs.Ytoglbmhkfkghbaa
open Go Go.Ab
set_option maxRecDepth 100000
mutual
def arrB:Arr→List UInt8
  | .mk k s n is => numsB [k,(s.length:Int)] ++ numsB s ++ numsB n ++ arrBL is
def arrBL:List Arr→List UInt8
  | [] => []
  | a :: r => arrB a ++ arrBL r
end
mutual
def szA:Arr→Nat
  | .mk _ s n is => 2 + s.length + n.length + szL is
def szL:List Arr→Nat
  | [] => 0
  | a :: r => szA a + szL r
end
theorem arrB_eq (a:Arr):arrB a = numsB [a.k,(a.sh.length:Int)] ++ numsB a.sh ++ numsB a.nu ++ arrBL a.it := by
  cases a with
  | mk k s n is => rw [arrB]; rfl
theorem szA_eq (a:Arr):szA a = 2 + a.sh.length + a.nu.length + szL a.it := by
  cases a with
  | mk k s n is => rw [szA]; rfl
mutual
theorem arrB_len:∀ a:Arr,(arrB a).length ≤ 10 * szA a
  | .mk k s n is => by
    have h1 := numsB_len [k,(s.length:Int)]
    have h2 := numsB_len s
    have h3 := numsB_len n
    have h4 := arrBL_len is
    simp only [arrB,szA,List.length_append,List.length_cons,List.length_nil] at h1 ⊢
    omega
theorem arrBL_len:∀ l:List Arr,(arrBL l).length ≤ 10 * szL l
  | [] => by simp [arrBL]
  | a :: r => by
    have h1 := arrB_len a
    have h2 := arrBL_len r
    simp only [arrBL,szL,List.length_append]
    omega
end
theorem arrBL_app:∀ (l r:List Arr),arrBL (l ++ r) = arrBL l ++ arrBL r
  | [],r => by simp [arrBL]
  | a :: l,r => by simp only [List.cons_append,arrBL,arrBL_app l r,List.append_assoc]
theorem szL_app:∀ (l r:List Arr),szL (l ++ r) = szL l + szL r
  | [],r => by simp [szL]
  | a :: l,r => by simp only [List.cons_append,szL,szL_app l r,Nat.add_assoc]
theorem arrBL_take {l:List Arr} {i:Nat} (h:i < l.length):arrBL (l.take (i + 1)) = arrBL (l.take i) ++ arrB (l.getD i default) := by
  rw [take_step h,arrBL_app]; simp [arrBL]
theorem szL_take {l:List Arr} {i:Nat} (h:i < l.length):szL (l.take i) + szA (l.getD i default) ≤ szL l := by
  have e := szL_app (l.take i) (l.drop i)
  rw [List.take_append_drop,drop_step h,szL] at e
  omega
def sWa (row:Arr→List D) (q:Arr→Prop):FnSpec where
  β := Nat × Nat × List UInt8 × Arr
  α := Nat × List UInt8
  args := fun b => [.ref 0 b.1 0,.agg (row b.2.2.2)]
  st := fun b => ⟨[(0,b.1,.cells [bsl b.2.2.1 (.tok 0 b.2.1)])],[(0,b.2.1)]⟩
  pre := fun b => q b.2.2.2∧b.2.2.1.length + 10 * szA b.2.2.2 ≤ 70368744177664
  post := fun b y => y.2 = b.2.2.1 ++ arrB b.2.2.2
  res := fun _ _ => .ret (.tup [])
  out := fun b y => ⟨[(0,b.1,.cells [bsl y.2 (.tok 0 y.1)])],[(0,y.1)]⟩
def conWa (its:List Arr):Con := fun k ds S => match k with
  | 41 => some (sWa Arr.row1 (fun b => b ∈ its))
  | k => conW con0 k ds S
noncomputable def Ewa (x:Nat) (l:List UInt8) (a:Arr):Senv := { EC (conWa a.it) 33 2 [3,5,23,24,25,26] (fun _ => ([],[])) with
  ann := fun b _ _ => match b with
    | 0 => some { slots := [25],keep := [0,23,24],α := Nat × Nat × List UInt8,st := fun y => ([.int .i64 y.1],⟨[(0,x,.cells [bsl y.2.2 (.tok 0 y.2.1)])],[(0,y.2.1)]⟩),inv := fun y => y.1 ≤ a.it.length∧y.2.2 = l ++ numsB [a.k,(a.sh.length:Int)] ++ numsB a.sh ++ numsB a.nu ++ arrBL (a.it.take y.1),mu := fun y => a.it.length - y.1 }
    | _ => none }
noncomputable section
def wr3q0 (p0:Nat):Prop := tokIs [(N0,p0)] N0 p0
def wr3q1 (p0:List UInt8) (p1:Nat):List D := [ZB (BI p0 p1)]
def wr3q2 (p0:Arr):Nat := LN (Arr.sh p0)
def wr3q3 (p0:Arr):List D := [ZI (NI (wr3q2 p0))]
def wr3q4 (p0:List UInt8):List UInt8 := bytesOf (LN p0) fun (i:Nat) => wr3q1 p0 i
def wr3q5 (p0:Arr) (p1:Nat):List D := [ZI (GI (Arr.sh p0) p1)]
def wr3q6 (p0:Arr) (p1:Nat):List D := [ZI (GI (Arr.nu p0) p1)]
def wr3q7 (p0:Arr):List Arr := Arr.it p0
def wr3q8 (p0:Arr):Nat := LN (wr3q7 p0)
def wr3q9 (p0:Nat) (p1:Arr) (p2 p3:List UInt8):Prop := p0 ≤ wr3q8 p1∧p2 = p3 ++ numsB [Arr.k p1,(NI (wr3q2 p1))] ++ numsB (Arr.sh p1) ++ numsB (Arr.nu p1) ++ arrBL (List.take p0 (wr3q7 p1))
def wr3q10 (p0 p1:List UInt8) (p2 p3:Nat):Prop := ((LN p0 = LN p1∧(∀ (i:Nat),i < LN p0→wr3q1 p0 i = wr3q1 p1 i)∧p2 = p3)∧True)∧True
def wr3q11 (p0:Nat) (p1 p2:List UInt8) (p3 p4:Nat):Prop := (SM p0∧wr3q10 p1 p2 p3 p4)∧p3 = p4∧True
def wr3q12 (p0:Arr):Int := (NI (wr3q8 p0))
def wr3q13:Arr := DA
def wr3q14 (p0:Arr) (p1:Nat):Arr := List.getD (wr3q7 p0) (Int.toNat (↑p1:Int)) wr3q13
def wr3q15 (p0:Arr) (p1:Nat):List Int := Arr.sh (wr3q14 p0 p1)
def wr3q16 (p0:Arr) (p1:Nat):Nat := LN (wr3q15 p0 p1)
def wr3q17 (p0:Arr) (p1:Nat):List Int := Arr.nu (wr3q14 p0 p1)
def wr3q18 (p0:Arr) (p1:Nat):Nat := LN (wr3q17 p0 p1)
def wr3q19 (p0:Arr) (p1:Nat):List Arr := Arr.it (wr3q14 p0 p1)
def wr3q20 (p0:Arr) (p1:Nat):Nat := LN (wr3q19 p0 p1)
def wr3q21 (p0:Arr) (p1:Nat):Arr := List.getD (wr3q7 p0) p1 wr3q13
def wr3q22 (p0 p1:Nat) (p2 p3:List UInt8) (p4 p5:Nat):Prop := (p0 = p1∧wr3q10 p2 p3 p4 p5)∧p4 = p5∧True
def wr3q23 (p0:Arr) (p1:Nat):List Int := Arr.sh (wr3q21 p0 p1)
def wr3q24 (p0:Arr) (p1:Nat):List Int := Arr.nu (wr3q21 p0 p1)
def wr3q25 (p0:Arr) (p1:Nat):List Arr := Arr.it (wr3q21 p0 p1)
def wr3q26 (p0:Arr):D := D.sl N4 (wr3q8 p0) (fun (i:Nat) => [ZI (Arr.k (wr3q21 p0 i)),SI (wr3q23 p0 i),SI (wr3q24 p0 i),D.sl N4 (LN (wr3q25 p0 i)) (fun (i_1:Nat) => Arr.row (List.getD (wr3q25 p0 i) i_1 wr3q13)) Mode.any]) Mode.any
end
theorem wa_step (x t : Nat) (l : List UInt8) (a : Arr) (ha : a.nu.length ≤ maxLen ∧ a.it.length ≤ maxLen ∧ a.sh.length ≤ maxLen) (ho : inI64 a.k ∧ (∀ z ∈ a.sh, inI64 z) ∧ (∀ z ∈ a.nu, inI64 z)) (hl : l.length + 10 * szA a ≤ 70368744177664)
    (hc:ConOk Try.prog (conWa a.it)) :
    ACalls Try.prog 41 ((sWa Arr.row2 (fun _ => True)).args (x,t,l,a)) ((sWa Arr.row2 (fun _ => True)).st (x,t,l,a)) (SpecR (sWa Arr.row2 (fun _ => True)) (x,t,l,a)) := by
  refine con_of (A := sWa Arr.row2 (fun _ => True)) (x := (x,t,l,a)) (E := Ewa x l a) (eOk hc rfl) Try.func41 rfl (by kernel_rfl) rfl (by simp [sWa,Ewa,EC,E0]) ?_
  refine vc_eq (T :=
    ∀ (x_1:Nat),x ≠ x_1∧True→SM x_1∧SM x_1∧((SM x∧wr3q0 t∧fitP (LN l) (fun (i:Nat) => wr3q1 l i) N2 fun (i:Nat) => List.getD [[ZI (Arr.k a)],wr3q3 a] i [])∧True)∧∀ (y:Nat × List UInt8),y.2 = wr3q4 l ++ numsB [rowInt [ZI (Arr.k a)],rowInt (wr3q3 a)]→SM x_1∧((SM x∧wr3q0 y.1∧fitP (LN y.2) (fun (i:Nat) => wr3q1 y.2 i) (wr3q2 a) fun (i:Nat) => wr3q5 a i)∧True)∧∀ (y_1:Nat × List UInt8),y_1.2 = wr3q4 y.2 ++ numsB (intsOf (wr3q2 a) fun (i:Nat) => wr3q5 a i)→SM x_1∧((SM x∧wr3q0 y_1.1∧fitP (LN y_1.2) (fun (i:Nat) => wr3q1 y_1.2 i) (LN (Arr.nu a)) fun (i:Nat) => wr3q6 a i)∧True)∧∀ (y:Nat × List UInt8),y.2 = wr3q4 y_1.2 ++ numsB (intsOf (LN (Arr.nu a)) fun (i:Nat) => wr3q6 a i)→SM x_1∧(∃ (x_2:Nat × Nat × List UInt8),wr3q9 x_2.1 a x_2.2.2 l∧(Z0 = (NI x_2.1)∧True)∧wr3q11 x y.2 x_2.2.2 y.1 x_2.2.1)∧∀ (x_2:Nat × Nat × List UInt8),wr3q9 x_2.1 a x_2.2.2 l→ifB (decide ((NI x_2.1) < wr3q12 a)) (side (Z0 ≤ (NI x_2.1)∧(NI x_2.1) < wr3q12 a) (∀ (x_3:Nat),x ≠ x_3∧True→SM x_3∧SM x_3∧∃ (x_4:Nat × Nat × List UInt8 × Arr),(x = x_4.1∧(Arr.k (wr3q14 a x_2.1) = Arr.k x_4.2.2.2∧(wr3q16 a x_2.1 = wr3q2 x_4.2.2.2∧(∀ (i:Nat),i < wr3q16 a x_2.1→[ZI (GI (wr3q15 a x_2.1) i)] = wr3q5 x_4.2.2.2 i)∧True)∧(wr3q18 a x_2.1 = LN (Arr.nu x_4.2.2.2)∧(∀ (i:Nat),i < wr3q18 a x_2.1→[ZI (GI (wr3q17 a x_2.1) i)] = wr3q6 x_4.2.2.2 i)∧True)∧(wr3q20 a x_2.1 = wr3q8 x_4.2.2.2∧(∀ (i:Nat),i < wr3q20 a x_2.1→Arr.row (List.getD (wr3q19 a x_2.1) i wr3q13) = Arr.row (wr3q21 x_4.2.2.2 i))∧True)∧True)∧True)∧wr3q22 x x_4.1 x_2.2.2 x_4.2.2.1 x_2.2.1 x_4.2.1∧(x_4.2.2.2 ∈ wr3q7 a∧LN x_4.2.2.1 + (10:Nat) * szA x_4.2.2.2 ≤ (70368744177664:Nat))∧∀ (y:Nat × List UInt8),y.2 = x_4.2.2.1 ++ arrB x_4.2.2.2→(SM (D.ref N0 x N0)∧SM (wr3q26 a)∧SM (ZI (wr3q12 a))∧True)∧∃ (y_2:Nat × Nat × List UInt8),wr3q9 y_2.1 a y_2.2.2 l∧wr3q8 a - y_2.1 < wr3q8 a - x_2.1∧(IntKind.wrap IntKind.i64 ((NI x_2.1) + Z1) = (NI y_2.1)∧True)∧wr3q22 x_4.1 x y.2 y_2.2.2 y.1 y_2.2.1)) (True∧∃ (y:Nat × List UInt8),y.2 = l ++ arrB a∧True∧wr3q11 x x_2.2.2 y.2 x_2.2.1 y.1)) (by kernel_rfl) ?_
  delta BI DA GI LN N0 N1 N2 N4 NI SI SM U0 Z0 Z1 ZB ZI wr3q0 wr3q1 wr3q10 wr3q11 wr3q12 wr3q13 wr3q14 wr3q15 wr3q16 wr3q17 wr3q18 wr3q19 wr3q2 wr3q20 wr3q21 wr3q22 wr3q23 wr3q24 wr3q25 wr3q26 wr3q3 wr3q4 wr3q5 wr3q6 wr3q7 wr3q8 wr3q9
  have da:(default:Arr) = Arr.mk 0 [] [] [] := rfl
  simp only [← da,eq_self,Int.toNat_natCast,ifB_iff,side_iff,decide_eq_true_eq,decide_eq_false_iff_not,true_and,and_true,Prod.forall,forall_eq,bytesOf_bsl]
  obtain ⟨l1,l2,l3⟩ := ha
  simp only [maxLen] at l1 l2 l3
  obtain ⟨o1,o2,o3⟩ := ho
  have hz := szA_eq a
  have hb:∀ i,i ≤ a.it.length→(l ++ numsB [a.k,(a.sh.length:Int)] ++ numsB a.sh ++ numsB a.nu ++ arrBL (a.it.take i)).length ≤ l.length + 10 * (2 + a.sh.length + a.nu.length) + 10 * szL (a.it.take i) := by
    intro i _
    have h1 := numsB_len [a.k,(a.sh.length:Int)]
    have h2 := numsB_len a.sh
    have h3 := numsB_len a.nu
    have h4 := arrBL_len (a.it.take i)
    simp only [List.length_append,List.length_cons,List.length_nil] at h1 ⊢
    omega
  have hb0 := hb 0 (Nat.zero_le _)
  simp only [List.take_zero,arrBL,szL,List.append_nil,Nat.mul_zero,Nat.add_zero] at hb0
  have e2:intsOf a.sh.length (fun i => [D.int .i64 (a.sh.getD i 0)]) = a.sh := intsOf_isl _
  have e3:intsOf a.nu.length (fun i => [D.int .i64 (a.nu.getD i 0)]) = a.nu := intsOf_isl _
  simp only [e2,e3,rowInt]
  intro b1 _
  have hlen1:(l ++ numsB [a.k,(a.sh.length:Int)]).length ≤ l.length + 20 := by
    have h1 := numsB_len [a.k,(a.sh.length:Int)]
    simp only [List.length_append,List.length_cons,List.length_nil] at h1 ⊢
    omega
  have hlen2:(l ++ numsB [a.k,(a.sh.length:Int)] ++ numsB a.sh).length ≤ l.length + 20 + 10 * a.sh.length := by
    have h2 := numsB_len a.sh
    rw [List.length_append]
    omega
  refine ⟨⟨tok_is _ _,fit_lit l [a.k,(a.sh.length:Int)] ?_ (by simp only [List.length_cons,List.length_nil]; omega)⟩,fun t1 => ⟨⟨tok_is _ _,fit_isl o2 (by omega)⟩,fun t2 => ⟨⟨tok_is _ _,fit_isl o3 (by omega)⟩,fun t3 => ⟨⟨(0,t3,l ++ numsB [a.k,(a.sh.length:Int)] ++ numsB a.sh ++ numsB a.nu),⟨Nat.zero_le _,by simp [arrBL]⟩,rfl,⟨rfl,fun i _ => rfl,rfl⟩,rfl⟩,?_⟩⟩⟩⟩
  · intro z hz
    simp only [List.mem_cons,List.not_mem_nil,or_false] at hz
    rcases hz with rfl | rfl
    · exact o1
    · simp only [inI64]; omega
  rintro i t4 b ⟨hi,rfl⟩
  refine ⟨fun hlt => ⟨⟨by omega,hlt⟩,fun _ _ => ?_⟩,fun hge => ?_⟩
  · have hlt':i < a.it.length := by omega
    have h5 := szL_take hlt'
    have h6 := hb i hi
    refine ⟨(x,t4,_,a.it.getD i default),⟨rfl,rfl,⟨rfl,fun _ _ => rfl⟩,⟨rfl,fun _ _ => rfl⟩,rfl,fun _ _ => rfl⟩,⟨⟨rfl,rfl,fun _ _ => rfl,rfl⟩,rfl⟩,⟨mem_getD hlt',by simp only; omega⟩,fun t5 => ⟨(i + 1,t5,l ++ numsB [a.k,(a.sh.length:Int)] ++ numsB a.sh ++ numsB a.nu ++ arrBL (a.it.take (i + 1))),⟨by simp only; omega,rfl⟩,by simp only; omega,wrap_i64' (by omega) (by omega),⟨rfl,?_,?_,rfl⟩,rfl⟩⟩
    · simp only [arrBL_take hlt',List.append_assoc]
    · intro j hj
      simp only [arrBL_take hlt',List.append_assoc]
  · have hi':i = a.it.length := by omega
    subst hi'
    refine ⟨(t4,l ++ arrB a),rfl,⟨?_,fun i _ => ?_,rfl⟩,rfl⟩
    · simp only [List.take_length,arrB_eq a,List.append_assoc]
    · simp only [List.take_length,arrB_eq a,List.append_assoc]
theorem sWa_row {row row':Arr→List D} {q q':Arr→Prop} {b:Nat × Nat × List UInt8 × Arr} (hw:wkL (row' b.2.2.2) (row b.2.2.2)) (h:ACalls Try.prog 41 ((sWa row q).args b) ((sWa row q).st b) (SpecR (sWa row q) b)):ACalls Try.prog 41 ((sWa row' q').args b) ((sWa row' q').st b) (SpecR (sWa row' q') b) := by
  refine (h.wkArgs ?_).mono fun _ _ ⟨y,h1,h2,h3⟩ => ⟨y,h1,h2,h3⟩
  simp only [sWa,wkL,wkD]
  exact ⟨by simp [weakD,chk_iff],hw,trivial⟩
theorem wa_all:∀ (a:Arr),a.ok→∀ (x t:Nat) (l:List UInt8),l.length + 10 * szA a ≤ 70368744177664→ACalls Try.prog 41 ((sWa Arr.row2 (fun _ => True)).args (x,t,l,a)) ((sWa Arr.row2 (fun _ => True)).st (x,t,l,a)) (SpecR (sWa Arr.row2 (fun _ => True)) (x,t,l,a))
  | .mk k s n is,h,x,t,l,hl => by
    have h' := h
    simp only [Arr.ok] at h'
    obtain ⟨o1,o2,o3,h1,h2,h3,h4⟩ := h'
    refine wa_step x t l (.mk k s n is) ⟨h2,h3,h1⟩ ⟨o1,o2,o3⟩ hl ?_
    intro k' ds S A hk
    unfold conWa at hk
    split at hk
    · injection hk with hk; subst hk
      refine ConOk.plain (fun b hb => ?_) rfl rfl
      obtain ⟨x',t',l',b'⟩ := b
      obtain ⟨q1,q2⟩ := hb
      have hb':b' ∈ is := q1
      exact sWa_row (row1_wk b') (wa_all b' ((okL_iff _).1 h4 b' hb') x' t' l' q2)
    · exact conW_ok con0_ok _ _ _ _ hk
termination_by a => SizeOf.sizeOf a
decreasing_by
  have := List.sizeOf_lt_of_mem hb'
  simp only [Arr.mk.sizeOf_spec]
  omega
end Go.Proofs.Ytoglbmhkfkghbaa
namespace Go.Proofs.Ytoglbmhkfkghbaa
open Go Go.Ab
set_option maxRecDepth 100000
theorem app_bsl (l r:List UInt8) {i:Nat} (_hi:i < l.length + r.length):appF l.length (fun i => [D.int .u8 ((l.getD i 0).toNat:Int)]) (fun i => [D.int .u8 ((r.getD i 0).toNat:Int)]) i = [D.int .u8 (((l ++ r).getD i 0).toNat:Int)] := by
  simp only [appF]
  split
  · rename_i hlt
    simp [List.getD_eq_getElem?_getD,List.getElem?_append_left hlt]
  · rename_i hge
    simp [List.getD_eq_getElem?_getD,List.getElem?_append_right (Nat.le_of_not_lt hge)]
end Go.Proofs.Ytoglbmhkfkghbaa
namespace Go.Proofs.Ytoglbmhkfkghbaa
open Go Go.Ab
set_option maxRecDepth 100000
def i4B (i:I4):List UInt8 := numsB [i.a,i.b,i.c,i.d]
def i6B (i:I6):List UInt8 := numsB [i.a,i.b,i.c,i.d,i.e,i.f]
def funB (f:FnD):List UInt8 := numsB [f.slots,(f.code.length:Int)] ++ f.code.flatMap i4B
def kerY (k:KeD):List UInt8 := numsB [k.inputs,(k.ops.length:Int)] ++ (k.ops.flatMap i4B ++ numsB [k.reduce,k.at_])
def lanB (p:LaD):List UInt8 := numsB [p.regs,(p.code.length:Int)] ++ p.code.flatMap i6B
def tl4 (c:CodD):List UInt8 := numsB [(c.lanes.length:Int)] ++ c.lanes.flatMap lanB
def tl3 (c:CodD):List UInt8 := numsB [(c.kers.length:Int)] ++ (c.kers.flatMap kerY ++ tl4 c)
def tl2 (c:CodD):List UInt8 := numsB [(c.funs.length:Int)] ++ (c.funs.flatMap funB ++ tl3 c)
def codeB (c:CodD):List UInt8 := numsB [(c.consts.length:Int)] ++ (arrBL c.consts ++ tl2 c)
def CodD.row1 (c:CodD):List D := [gsl 4 Arr.row1 c.consts,gsl 2 FnD.row c.funs,gsl 4 KeD.row c.kers,gsl 2 LaD.row c.lanes]
theorem code_wk (c:CodD):wkL c.row c.row1 := by
  simp only [CodD.row,CodD.row1,gsl,wkL,wkD]
  exact ⟨chk_iff.2 ⟨rfl,trivial,fun i _ => row_wk _,by simp [weakM]⟩,chk_iff.2 ⟨rfl,trivial,fun i _ => wkL_refl _,by simp [weakM]⟩,chk_iff.2 ⟨rfl,trivial,fun i _ => wkL_refl _,by simp [weakM]⟩,chk_iff.2 ⟨rfl,trivial,fun i _ => wkL_refl _,by simp [weakM]⟩,trivial⟩
def natOf:D→Nat
  | .int _ z => z.toNat
  | _ => 0
def setB (S:St) (t:Nat) (l:List UInt8):St := ⟨setO S.objs 0 (.cells [bsl l (.tok 0 t)]),[(0,t)]⟩
def sWc (x:Nat) (l:List UInt8) (c:CodD) (row:List D):FnSpec where
  β := Unit
  α := Nat × List UInt8
  args := fun _ => [.ref 0 x 0,.agg row]
  st := fun _ => ⟨[(0,x,.cells [bsl l .full])],[]⟩
  pre := fun _ => True
  post := fun _ y => y.2 = l ++ codeB c
  res := fun _ _ => .ret (.tup [])
  out := fun _ y => ⟨[(0,x,.cells [bsl y.2 (.tok 0 y.1)])],[(0,y.1)]⟩
def conWc (c:CodD):Con := fun k ds S => match k with
  | 41 => some (sWa Arr.row1 (fun b => b ∈ c.consts))
  | k => conW con0 k ds S
theorem conWc_ok {c:CodD} (hc:c.ok):ConOk Try.prog (conWc c) := by
  intro k' ds S A hk
  unfold conWc at hk
  split at hk
  · injection hk with hk; subst hk
    refine ConOk.plain (fun b hb => ?_) rfl rfl
    obtain ⟨x',t',l',b'⟩ := b
    exact sWa_row (row1_wk b') (wa_all b' (hc.1 b' hb.1) x' t' l' hb.2)
  · exact conW_ok con0_ok _ _ _ _ hk
theorem fit_T {b R T:List UInt8} (ns:List Int) (h:b ++ R = T) (hT:T.length ≤ 35184372088832) (hn:∀ z ∈ ns,inI64 z) (hk:ns.length ≤ 6):fitP b.length (fun i => [.int .u8 ((b.getD i 0).toNat:Int)]) ns.length (fun i => (ns.map fun z => [D.int .i64 z]).getD i []) := by
  refine fit_lit b ns hn ?_
  have := congrArg List.length h
  rw [List.length_append] at this
  omega
theorem fit_U {b R T:List UInt8} {t:Nat} (ns:List Int) (h:b ++ R = T) (hT:T.length ≤ 35184372088832) (hn:∀ z ∈ ns,inI64 z) (hk:ns.length ≤ 6):tokIs [(0,t)] 0 t∧fitP b.length (fun i => [.int .u8 ((b.getD i 0).toNat:Int)]) ns.length (fun i => (ns.map fun z => [D.int .i64 z]).getD i []) :=
  ⟨tok_is _ _,fit_T ns h hT hn hk⟩
theorem loop_init {n t : Nat} {b T : List UInt8} (R : Nat → List UInt8) (h : b ++ R 0 = T) :
    ∃ y:Nat × Nat × List UInt8,(y.1 ≤ n∧y.2.2 ++ R y.1 = T)∧(0:Int) = (y.1:Int)∧(b.length = y.2.2.length∧(∀ i,i < b.length→[D.int .u8 ((b.getD i 0).toNat:Int)] = [D.int .u8 ((y.2.2.getD i 0).toNat:Int)])∧t = y.2.1)∧t = y.2.1 :=
  ⟨(0,t,b),⟨Nat.zero_le _,h⟩,rfl,⟨rfl,fun _ _ => rfl,rfl⟩,rfl⟩
theorem loop_next {n t a : Nat} {b T : List UInt8} (R : Nat → List UInt8) (ha : a < n) (hn : n ≤ maxLen) (h : b ++ R (a + 1) = T) :
    ∃ y:Nat × Nat × List UInt8,(y.1 ≤ n∧y.2.2 ++ R y.1 = T)∧n - y.1 < n - a∧IntKind.i64.wrap ((a:Int) + 1) = (y.1:Int)∧(b.length = y.2.2.length∧(∀ i,i < b.length→[D.int .u8 ((b.getD i 0).toNat:Int)] = [D.int .u8 ((y.2.2.getD i 0).toNat:Int)])∧t = y.2.1)∧t = y.2.1 := by
  simp only [maxLen] at hn
  exact ⟨(a + 1,t,b),⟨by simp only; omega,h⟩,by simp only; omega,wrap_i64' (by omega) (by omega),⟨rfl,fun _ _ => rfl,rfl⟩,rfl⟩
theorem len_i64 {n:Nat} (h:n ≤ maxLen):inI64 (n:Int) := by simp only [maxLen,inI64] at *; omega
theorem all1 {a:Int} (ha:inI64 a):∀ z ∈ [a],inI64 z := by simpa using ha
theorem all2 {a b:Int} (ha:inI64 a) (hb:inI64 b):∀ z ∈ [a,b],inI64 z := by simpa using ⟨ha,hb⟩
theorem all4 {a b c d:Int} (h:inI64 a∧inI64 b∧inI64 c∧inI64 d):∀ z ∈ [a,b,c,d],inI64 z := by simpa using h
theorem all6 {a b c d e f:Int} (h:inI64 a∧inI64 b∧inI64 c∧inI64 d∧inI64 e∧inI64 f):∀ z ∈ [a,b,c,d,e,f],inI64 z := by simpa using h
noncomputable def Ewc (l:List UInt8) (c:CodD):Senv := { EC (conWc c) 169 2 [3,5,7,9,11,13,15,17,25,26,27,28,42,43,44,45,57,58,59,60,83,84,85,86,98,99,100,101,131,132,133,134,146,147,148,149] (fun _ => ([],[])) with
  ann := fun b env S => match b with
    | 0 => some { slots := [27],keep := [0,3,25,26],α := Nat × Nat × List UInt8,st := fun y => ([.int .i64 y.1],setB S y.2.1 y.2.2),inv := fun y => y.1 ≤ c.consts.length∧y.2.2 ++ (arrBL (c.consts.drop y.1) ++ tl2 c) = l ++ codeB c,mu := fun y => c.consts.length - y.1 }
    | 2 => some { slots := [44],keep := [0,3,42,43],α := Nat × Nat × List UInt8,st := fun y => ([.int .i64 y.1],setB S y.2.1 y.2.2),inv := fun y => y.1 ≤ c.funs.length∧y.2.2 ++ ((c.funs.drop y.1).flatMap funB ++ tl3 c) = l ++ codeB c,mu := fun y => c.funs.length - y.1 }
    | 4 => some { slots := [59],keep := [0,3,7,42,43,44,57,58],α := Nat × Nat × List UInt8,st := fun y => ([.int .i64 y.1],setB S y.2.1 y.2.2),inv := fun y => y.1 ≤ (c.funs.getD (natOf (Ab.look env 44)) default).code.length∧y.2.2 ++ (((c.funs.getD (natOf (Ab.look env 44)) default).code.drop y.1).flatMap i4B ++ ((c.funs.drop (natOf (Ab.look env 44) + 1)).flatMap funB ++ tl3 c)) = l ++ codeB c,mu := fun y => (c.funs.getD (natOf (Ab.look env 44)) default).code.length - y.1 }
    | 6 => some { slots := [85],keep := [0,3,83,84],α := Nat × Nat × List UInt8,st := fun y => ([.int .i64 y.1],setB S y.2.1 y.2.2),inv := fun y => y.1 ≤ c.kers.length∧y.2.2 ++ ((c.kers.drop y.1).flatMap kerY ++ tl4 c) = l ++ codeB c,mu := fun y => c.kers.length - y.1 }
    | 8 => some { slots := [100],keep := [0,3,11,83,84,85,98,99],α := Nat × Nat × List UInt8,st := fun y => ([.int .i64 y.1],setB S y.2.1 y.2.2),inv := fun y => y.1 ≤ (c.kers.getD (natOf (Ab.look env 85)) default).ops.length∧y.2.2 ++ (((c.kers.getD (natOf (Ab.look env 85)) default).ops.drop y.1).flatMap i4B ++ (numsB [(c.kers.getD (natOf (Ab.look env 85)) default).reduce,(c.kers.getD (natOf (Ab.look env 85)) default).at_] ++ ((c.kers.drop (natOf (Ab.look env 85) + 1)).flatMap kerY ++ tl4 c))) = l ++ codeB c,mu := fun y => (c.kers.getD (natOf (Ab.look env 85)) default).ops.length - y.1 }
    | 10 => some { slots := [133],keep := [0,3,131,132],α := Nat × Nat × List UInt8,st := fun y => ([.int .i64 y.1],setB S y.2.1 y.2.2),inv := fun y => y.1 ≤ c.lanes.length∧y.2.2 ++ ((c.lanes.drop y.1).flatMap lanB) = l ++ codeB c,mu := fun y => c.lanes.length - y.1 }
    | 12 => some { slots := [148],keep := [0,3,15,131,132,133,146,147],α := Nat × Nat × List UInt8,st := fun y => ([.int .i64 y.1],setB S y.2.1 y.2.2),inv := fun y => y.1 ≤ (c.lanes.getD (natOf (Ab.look env 133)) default).code.length∧y.2.2 ++ (((c.lanes.getD (natOf (Ab.look env 133)) default).code.drop y.1).flatMap i6B ++ ((c.lanes.drop (natOf (Ab.look env 133) + 1)).flatMap lanB)) = l ++ codeB c,mu := fun y => (c.lanes.getD (natOf (Ab.look env 133)) default).code.length - y.1 }
    | _ => none }
noncomputable section
def wr4q0 (p0:List UInt8) (p1:Nat):List D := [ZB (BI p0 p1)]
def wr4q1 (p0:CodD):List Arr := CodD.consts p0
def wr4q2 (p0:CodD):Nat := LN (wr4q1 p0)
def wr4q3 (p0:CodD):Int := (NI (wr4q2 p0))
def wr4q4 (p0:CodD):D := ZI (wr4q3 p0)
def wr4q5 (p0:CodD):List D := [wr4q4 p0]
def wr4q6 (p0:List UInt8):List UInt8 := bytesOf (LN p0) fun (i:Nat) => wr4q0 p0 i
def wr4q7 (p0:List UInt8) (p1:CodD):List UInt8 := p0 ++ codeB p1
def wr4q8 (p0:Nat) (p1:CodD) (p2 p3:List UInt8):Prop := p0 ≤ wr4q2 p1∧p2 ++ (arrBL (List.drop p0 (wr4q1 p1)) ++ tl2 p1) = wr4q7 p3 p1
def wr4q9 (p0 p1:List UInt8) (p2 p3:Nat):Prop := (LN p0 = LN p1∧(∀ (i:Nat),i < LN p0→wr4q0 p0 i = wr4q0 p1 i)∧p2 = p3)∧True
def wr4q10:Arr := DA
def wr4q11 (p0:CodD) (p1:Nat):Arr := List.getD (wr4q1 p0) p1 wr4q10
def wr4q12 (p0:CodD) (p1:Nat):List Int := Arr.sh (wr4q11 p0 p1)
def wr4q13 (p0:CodD) (p1:Nat):List Int := Arr.nu (wr4q11 p0 p1)
def wr4q14 (p0:CodD) (p1:Nat):List Arr := Arr.it (wr4q11 p0 p1)
def wr4q15 (p0:CodD) (p1:Nat):List D := [ZI (Arr.k (wr4q11 p0 p1)),SI (wr4q12 p0 p1),SI (wr4q13 p0 p1),D.sl N4 (LN (wr4q14 p0 p1)) (fun (i:Nat) => Arr.row (List.getD (wr4q14 p0 p1) i wr4q10)) Mode.any]
def wr4q16 (p0:CodD):List FnD := CodD.funs p0
def wr4q17 (p0:CodD):Nat := LN (wr4q16 p0)
def wr4q18:FnD := DF
def wr4q19 (p0:CodD) (p1:Nat):FnD := List.getD (wr4q16 p0) p1 wr4q18
def wr4q20 (p0:CodD) (p1:Nat):List I4 := FnD.code (wr4q19 p0 p1)
def wr4q21:I4 := D4
def wr4q22 (p0:CodD) (p1 p2:Nat):I4 := List.getD (wr4q20 p0 p1) p2 wr4q21
def wr4q23 (p0:CodD) (p1:Nat):List D := [ZI (FnD.slots (wr4q19 p0 p1)),D.sl N4 (LN (wr4q20 p0 p1)) (fun (i:Nat) => (R4 (wr4q22 p0 p1 i))) Mode.any]
def wr4q24 (p0:CodD):List KeD := CodD.kers p0
def wr4q25 (p0:CodD):Nat := LN (wr4q24 p0)
def wr4q26:KeD := DK
def wr4q27 (p0:CodD) (p1:Nat):KeD := List.getD (wr4q24 p0) p1 wr4q26
def wr4q28 (p0:CodD) (p1:Nat):List I4 := KeD.ops (wr4q27 p0 p1)
def wr4q29 (p0:CodD) (p1 p2:Nat):I4 := List.getD (wr4q28 p0 p1) p2 wr4q21
def wr4q30 (p0:CodD) (p1:Nat):List D := [ZI (KeD.inputs (wr4q27 p0 p1)),D.sl N4 (LN (wr4q28 p0 p1)) (fun (i:Nat) => (R4 (wr4q29 p0 p1 i))) Mode.any,ZI (KeD.reduce (wr4q27 p0 p1)),ZI (KeD.at_ (wr4q27 p0 p1))]
def wr4q31 (p0:CodD):List LaD := CodD.lanes p0
def wr4q32 (p0:CodD):Nat := LN (wr4q31 p0)
def wr4q33:LaD := DL
def wr4q34 (p0:CodD) (p1:Nat):LaD := List.getD (wr4q31 p0) p1 wr4q33
def wr4q35 (p0:CodD) (p1:Nat):List I6 := LaD.code (wr4q34 p0 p1)
def wr4q36:I6 := D6
def wr4q37 (p0:CodD) (p1 p2:Nat):I6 := List.getD (wr4q35 p0 p1) p2 wr4q36
def wr4q38 (p0:CodD) (p1:Nat):List D := [ZI (LaD.regs (wr4q34 p0 p1)),D.sl N6 (LN (wr4q35 p0 p1)) (fun (i:Nat) => (R6 (wr4q37 p0 p1 i))) Mode.any]
def wr4q39 (p0:Nat) (p1:CodD):Prop := SM p0∧((SM (wr4q2 p1)∧(∀ (i:Nat),i < wr4q2 p1→SM (wr4q15 p1 i))∧True)∧(SM (wr4q17 p1)∧(∀ (i:Nat),i < wr4q17 p1→SM (wr4q23 p1 i))∧True)∧(SM (wr4q25 p1)∧(∀ (i:Nat),i < wr4q25 p1→SM (wr4q30 p1 i))∧True)∧(SM (wr4q32 p1)∧(∀ (i:Nat),i < wr4q32 p1→SM (wr4q38 p1 i))∧True)∧True)∧True
def wr4q40 (p0 p1:List UInt8) (p2 p3 p4:Nat) (p5:CodD):Prop := wr4q9 p0 p1 p2 p3∧wr4q39 p4 p5
def wr4q41 (p0:Nat) (p1 p2:List UInt8) (p3 p4 p5:Nat) (p6:CodD):Prop := (SM p0∧wr4q40 p1 p2 p3 p4 p5 p6)∧p3 = p4∧True
def wr4q42 (p0 p1:Nat) (p2 p3:List UInt8) (p4 p5 p6:Nat) (p7:CodD):Prop := (Z0 = (↑p0:Int)∧True)∧wr4q41 p1 p2 p3 p4 p5 p6 p7
def wr4q43 (p0:CodD) (p1:Nat):Arr := List.getD (wr4q1 p0) (Int.toNat (↑p1:Int)) wr4q10
def wr4q44 (p0:CodD) (p1:Nat):List Int := Arr.sh (wr4q43 p0 p1)
def wr4q45 (p0:CodD) (p1:Nat):Nat := LN (wr4q44 p0 p1)
def wr4q46 (p0:CodD) (p1:Nat):List Int := Arr.nu (wr4q43 p0 p1)
def wr4q47 (p0:CodD) (p1:Nat):Nat := LN (wr4q46 p0 p1)
def wr4q48 (p0:CodD) (p1:Nat):List Arr := Arr.it (wr4q43 p0 p1)
def wr4q49 (p0:CodD) (p1:Nat):Nat := LN (wr4q48 p0 p1)
def wr4q50 (p0 p1:List UInt8) (p2 p3:Nat):Prop := wr4q9 p0 p1 p2 p3∧True
def wr4q51 (p0:Nat):Prop := SM (D.ref N0 p0 N0)
def wr4q52 (p0:Nat):Prop := SM (D.ref N1 p0 N0)
def wr4q53 (p0:CodD):D := D.sl N4 (wr4q2 p0) (fun (i:Nat) => wr4q15 p0 i) Mode.any
def wr4q54 (p0 p1:Nat):Prop := IntKind.wrap IntKind.i64 ((↑p0:Int) + Z1) = (↑p1:Int)∧True
def wr4q55 (p0:Nat):Prop := tokIs [(N0,p0)] N0 p0
def wr4q56 (p0:CodD):Int := (NI (wr4q17 p0))
def wr4q57 (p0:CodD):D := ZI (wr4q56 p0)
def wr4q58 (p0:CodD):List D := [wr4q57 p0]
def wr4q59 (p0:Nat) (p1:CodD) (p2 p3:List UInt8):Prop := p0 ≤ wr4q17 p1∧p2 ++ (List.flatMap funB (List.drop p0 (wr4q16 p1)) ++ tl3 p1) = wr4q7 p3 p1
def wr4q60 (p0:CodD) (p1:Nat):FnD := List.getD (wr4q16 p0) (Int.toNat (↑p1:Int)) wr4q18
def wr4q61 (p0:CodD) (p1:Nat):Int := FnD.slots (wr4q60 p0 p1)
def wr4q62 (p0:CodD) (p1:Nat):List D := [ZI (wr4q61 p0 p1)]
def wr4q63 (p0:CodD) (p1:Nat):List I4 := FnD.code (wr4q60 p0 p1)
def wr4q64 (p0:CodD) (p1:Nat):Nat := LN (wr4q63 p0 p1)
def wr4q65 (p0:CodD) (p1:Nat):Int := (NI (wr4q64 p0 p1))
def wr4q66 (p0:CodD) (p1:Nat):D := ZI (wr4q65 p0 p1)
def wr4q67 (p0:CodD) (p1:Nat):List D := [wr4q66 p0 p1]
def wr4q68 (p0:Nat):Nat := natOf (ZI (↑p0:Int))
def wr4q69 (p0:CodD) (p1:Nat):List I4 := FnD.code (List.getD (wr4q16 p0) (wr4q68 p1) wr4q18)
def wr4q70 (p0:CodD) (p1:Nat):Nat := LN (wr4q69 p0 p1)
def wr4q71 (p0:Nat):Nat := wr4q68 p0 + N1
def wr4q72 (p0:Nat) (p1:CodD) (p2:Nat) (p3 p4:List UInt8):Prop := p0 ≤ wr4q70 p1 p2∧p3 ++ (List.flatMap i4B (List.drop p0 (wr4q69 p1 p2)) ++ (List.flatMap funB (List.drop (wr4q71 p2) (wr4q16 p1)) ++ tl3 p1)) = wr4q7 p4 p1
def wr4q73 (p0:CodD) (p1 p2:Nat):I4 := List.getD (wr4q63 p0 p1) p2 wr4q21
def wr4q74 (p0:CodD) (p1 p2:Nat):List D := (R4 (wr4q73 p0 p1 p2))
def wr4q75 (p0:Nat) (p1 p2:List UInt8) (p3 p4 p5:Nat) (p6:CodD) (p7 p8:Nat):Prop := (SM p0∧wr4q9 p1 p2 p3 p4∧SM p5∧(SM (wr4q61 p6 p7)∧(SM (wr4q64 p6 p7)∧(∀ (i:Nat),i < wr4q64 p6 p7→SM (wr4q74 p6 p7 i))∧True)∧True)∧wr4q39 p8 p6)∧p3 = p4∧True
def wr4q76 (p0:CodD) (p1 p2:Nat):I4 := List.getD (wr4q63 p0 p1) (Int.toNat (↑p2:Int)) wr4q21
def wr4q77 (p0:CodD) (p1 p2:Nat):List D := [ZI (I4.a (wr4q76 p0 p1 p2))]
def wr4q78 (p0:CodD) (p1 p2:Nat):List D := [ZI (I4.b (wr4q76 p0 p1 p2))]
def wr4q79 (p0:CodD) (p1 p2:Nat):List D := [ZI (I4.c (wr4q76 p0 p1 p2))]
def wr4q80 (p0:CodD) (p1 p2:Nat):List D := [ZI (I4.d (wr4q76 p0 p1 p2))]
def wr4q81 (p0:Nat):Prop := SM (D.ref (max N1 (max (N1 + N1) N0)) p0 N0)
def wr4q82 (p0:CodD):D := D.sl N2 (wr4q17 p0) (fun (i:Nat) => wr4q23 p0 i) Mode.any
def wr4q83 (p0:CodD):Prop := SM (wr4q82 p0)
def wr4q84 (p0:CodD):Prop := SM (wr4q57 p0)
def wr4q85 (p0:Nat):Prop := SM (ZI (↑p0:Int))
def wr4q86 (p0:CodD) (p1:Nat):D := D.sl N4 (wr4q64 p0 p1) (fun (i:Nat) => wr4q74 p0 p1 i) Mode.any
def wr4q87 (p0:CodD) (p1 p2:Nat):Nat := wr4q70 p0 p1 - p2
def wr4q88 (p0 p1 p2:Nat) (p3 p4:List UInt8) (p5 p6 p7:Nat) (p8:CodD):Prop := wr4q54 p0 p1∧wr4q41 p2 p3 p4 p5 p6 p7 p8
def wr4q89 (p0:CodD):Int := (NI (wr4q25 p0))
def wr4q90 (p0:CodD):D := ZI (wr4q89 p0)
def wr4q91 (p0:CodD):List D := [wr4q90 p0]
def wr4q92 (p0:Nat) (p1:CodD) (p2 p3:List UInt8):Prop := p0 ≤ wr4q25 p1∧p2 ++ (List.flatMap kerY (List.drop p0 (wr4q24 p1)) ++ tl4 p1) = wr4q7 p3 p1
def wr4q93 (p0:CodD) (p1:Nat):KeD := List.getD (wr4q24 p0) (Int.toNat (↑p1:Int)) wr4q26
def wr4q94 (p0:CodD) (p1:Nat):Int := KeD.inputs (wr4q93 p0 p1)
def wr4q95 (p0:CodD) (p1:Nat):List D := [ZI (wr4q94 p0 p1)]
def wr4q96 (p0:CodD) (p1:Nat):List I4 := KeD.ops (wr4q93 p0 p1)
def wr4q97 (p0:CodD) (p1:Nat):Nat := LN (wr4q96 p0 p1)
def wr4q98 (p0:CodD) (p1:Nat):Int := (NI (wr4q97 p0 p1))
def wr4q99 (p0:CodD) (p1:Nat):D := ZI (wr4q98 p0 p1)
def wr4q100 (p0:CodD) (p1:Nat):List D := [wr4q99 p0 p1]
def wr4q101 (p0:CodD) (p1:Nat):KeD := List.getD (wr4q24 p0) (wr4q68 p1) wr4q26
def wr4q102 (p0:CodD) (p1:Nat):List I4 := KeD.ops (wr4q101 p0 p1)
def wr4q103 (p0:CodD) (p1:Nat):Nat := LN (wr4q102 p0 p1)
def wr4q104 (p0:Nat) (p1:CodD) (p2:Nat) (p3 p4:List UInt8):Prop := p0 ≤ wr4q103 p1 p2∧p3 ++ (List.flatMap i4B (List.drop p0 (wr4q102 p1 p2)) ++ (numsB [KeD.reduce (wr4q101 p1 p2),KeD.at_ (wr4q101 p1 p2)] ++ (List.flatMap kerY (List.drop (wr4q71 p2) (wr4q24 p1)) ++ tl4 p1))) = wr4q7 p4 p1
def wr4q105 (p0:CodD) (p1 p2:Nat):I4 := List.getD (wr4q96 p0 p1) p2 wr4q21
def wr4q106 (p0:CodD) (p1 p2:Nat):List D := (R4 (wr4q105 p0 p1 p2))
def wr4q107 (p0:CodD) (p1:Nat):Int := KeD.reduce (wr4q93 p0 p1)
def wr4q108 (p0:CodD) (p1:Nat):Int := KeD.at_ (wr4q93 p0 p1)
def wr4q109 (p0:Nat) (p1 p2:List UInt8) (p3 p4 p5:Nat) (p6:CodD) (p7 p8:Nat):Prop := (SM p0∧wr4q9 p1 p2 p3 p4∧SM p5∧(SM (wr4q94 p6 p7)∧(SM (wr4q97 p6 p7)∧(∀ (i:Nat),i < wr4q97 p6 p7→SM (wr4q106 p6 p7 i))∧True)∧SM (wr4q107 p6 p7)∧SM (wr4q108 p6 p7)∧True)∧wr4q39 p8 p6)∧p3 = p4∧True
def wr4q110 (p0:CodD) (p1 p2:Nat):I4 := List.getD (wr4q96 p0 p1) (Int.toNat (↑p2:Int)) wr4q21
def wr4q111 (p0:CodD) (p1 p2:Nat):List D := [ZI (I4.a (wr4q110 p0 p1 p2))]
def wr4q112 (p0:CodD) (p1 p2:Nat):List D := [ZI (I4.b (wr4q110 p0 p1 p2))]
def wr4q113 (p0:CodD) (p1 p2:Nat):List D := [ZI (I4.c (wr4q110 p0 p1 p2))]
def wr4q114 (p0:CodD) (p1 p2:Nat):List D := [ZI (I4.d (wr4q110 p0 p1 p2))]
def wr4q115 (p0:CodD):D := D.sl N4 (wr4q25 p0) (fun (i:Nat) => wr4q30 p0 i) Mode.any
def wr4q116 (p0:CodD):Prop := SM (wr4q115 p0)
def wr4q117 (p0:CodD):Prop := SM (wr4q90 p0)
def wr4q118 (p0:CodD) (p1:Nat):D := D.sl N4 (wr4q97 p0 p1) (fun (i:Nat) => wr4q106 p0 p1 i) Mode.any
def wr4q119 (p0:CodD) (p1 p2:Nat):Nat := wr4q103 p0 p1 - p2
def wr4q120 (p0:CodD) (p1:Nat):List D := [ZI (wr4q107 p0 p1)]
def wr4q121 (p0:CodD) (p1:Nat):List D := [ZI (wr4q108 p0 p1)]
def wr4q122 (p0:CodD):Int := (NI (wr4q32 p0))
def wr4q123 (p0:CodD):D := ZI (wr4q122 p0)
def wr4q124 (p0:CodD):List D := [wr4q123 p0]
def wr4q125 (p0:Nat) (p1:CodD) (p2 p3:List UInt8):Prop := p0 ≤ wr4q32 p1∧p2 ++ List.flatMap lanB (List.drop p0 (wr4q31 p1)) = wr4q7 p3 p1
def wr4q126 (p0:CodD) (p1:Nat):LaD := List.getD (wr4q31 p0) (Int.toNat (↑p1:Int)) wr4q33
def wr4q127 (p0:CodD) (p1:Nat):Int := LaD.regs (wr4q126 p0 p1)
def wr4q128 (p0:CodD) (p1:Nat):List D := [ZI (wr4q127 p0 p1)]
def wr4q129 (p0:CodD) (p1:Nat):List I6 := LaD.code (wr4q126 p0 p1)
def wr4q130 (p0:CodD) (p1:Nat):Nat := LN (wr4q129 p0 p1)
def wr4q131 (p0:CodD) (p1:Nat):Int := (NI (wr4q130 p0 p1))
def wr4q132 (p0:CodD) (p1:Nat):D := ZI (wr4q131 p0 p1)
def wr4q133 (p0:CodD) (p1:Nat):List D := [wr4q132 p0 p1]
def wr4q134 (p0:CodD) (p1:Nat):List I6 := LaD.code (List.getD (wr4q31 p0) (wr4q68 p1) wr4q33)
def wr4q135 (p0:CodD) (p1:Nat):Nat := LN (wr4q134 p0 p1)
def wr4q136 (p0:Nat) (p1:CodD) (p2:Nat) (p3 p4:List UInt8):Prop := p0 ≤ wr4q135 p1 p2∧p3 ++ (List.flatMap i6B (List.drop p0 (wr4q134 p1 p2)) ++ List.flatMap lanB (List.drop (wr4q71 p2) (wr4q31 p1))) = wr4q7 p4 p1
def wr4q137 (p0:CodD) (p1 p2:Nat):I6 := List.getD (wr4q129 p0 p1) p2 wr4q36
def wr4q138 (p0:CodD) (p1 p2:Nat):List D := (R6 (wr4q137 p0 p1 p2))
def wr4q139 (p0:Nat) (p1 p2:List UInt8) (p3 p4 p5:Nat) (p6:CodD) (p7 p8:Nat):Prop := (SM p0∧wr4q9 p1 p2 p3 p4∧SM p5∧(SM (wr4q127 p6 p7)∧(SM (wr4q130 p6 p7)∧(∀ (i:Nat),i < wr4q130 p6 p7→SM (wr4q138 p6 p7 i))∧True)∧True)∧wr4q39 p8 p6)∧p3 = p4∧True
def wr4q140 (p0:CodD) (p1 p2:Nat):I6 := List.getD (wr4q129 p0 p1) (Int.toNat (↑p2:Int)) wr4q36
def wr4q141 (p0:CodD) (p1 p2:Nat):List D := [ZI (I6.a (wr4q140 p0 p1 p2))]
def wr4q142 (p0:CodD) (p1 p2:Nat):List D := [ZI (I6.b (wr4q140 p0 p1 p2))]
def wr4q143 (p0:CodD) (p1 p2:Nat):List D := [ZI (I6.c (wr4q140 p0 p1 p2))]
def wr4q144 (p0:CodD) (p1 p2:Nat):List D := [ZI (I6.d (wr4q140 p0 p1 p2))]
def wr4q145 (p0:CodD) (p1 p2:Nat):List D := [ZI (I6.e (wr4q140 p0 p1 p2))]
def wr4q146 (p0:CodD) (p1 p2:Nat):List D := [ZI (I6.f (wr4q140 p0 p1 p2))]
def wr4q147 (p0:CodD):D := D.sl N2 (wr4q32 p0) (fun (i:Nat) => wr4q38 p0 i) Mode.any
def wr4q148 (p0:CodD):Prop := SM (wr4q147 p0)
def wr4q149 (p0:CodD):Prop := SM (wr4q123 p0)
def wr4q150 (p0:CodD) (p1:Nat):D := D.sl N6 (wr4q130 p0 p1) (fun (i:Nat) => wr4q138 p0 p1 i) Mode.any
def wr4q151 (p0:CodD) (p1 p2:Nat):Nat := wr4q135 p0 p1 - p2
end
theorem wc_ok (x : Nat) (l : List UInt8) (c : CodD) (hc : c.ok) (hl : l.length + (codeB c).length ≤ 35184372088832) (hs : ∀ a ∈ c.consts, 10 * szA a ≤ 35184372088832) :
    ACalls Try.prog 21 ((sWc x l c c.row1).args ()) ((sWc x l c c.row1).st ()) (SpecR (sWc x l c c.row1) ()) := by
  refine con_of (A := sWc x l c c.row1) (x := ()) (E := Ewc l c) (eOk (conWc_ok hc) rfl) Try.func21 rfl (by kernel_rfl) rfl (by simp [sWc,Ewc,EC,E0]) ?_
  refine vc_eq (T :=
    ∀ (x_1:Nat),x ≠ x_1∧True→SM x_1∧((SM x∧fitP (LN l) (fun (i:Nat) => wr4q0 l i) N1 fun (i:Nat) => List.getD [wr4q5 c] i [])∧True)∧∀ (y:Nat × List UInt8),y.2 = wr4q6 l ++ numsB [rowInt (wr4q5 c)]→SM x_1∧(∃ (x_2:Nat × Nat × List UInt8),wr4q8 x_2.1 c x_2.2.2 l∧wr4q42 x_2.1 x y.2 x_2.2.2 y.1 x_2.2.1 x_1 c)∧∀ (x_2:Nat × Nat × List UInt8),wr4q8 x_2.1 c x_2.2.2 l→ifB (decide ((NI x_2.1) < wr4q3 c)) (side (Z0 ≤ (NI x_2.1)∧(NI x_2.1) < wr4q3 c) (∀ (x_3:Nat),x ≠ x_3∧x_1 ≠ x_3∧True→SM x_3∧SM x_3∧∃ (x_4:Nat × Nat × List UInt8 × Arr),(x = x_4.1∧(Arr.k (wr4q43 c x_2.1) = Arr.k x_4.2.2.2∧(wr4q45 c x_2.1 = LN (Arr.sh x_4.2.2.2)∧(∀ (i:Nat),i < wr4q45 c x_2.1→[ZI (GI (wr4q44 c x_2.1) i)] = [ZI (GI (Arr.sh x_4.2.2.2) i)])∧True)∧(wr4q47 c x_2.1 = LN (Arr.nu x_4.2.2.2)∧(∀ (i:Nat),i < wr4q47 c x_2.1→[ZI (GI (wr4q46 c x_2.1) i)] = [ZI (GI (Arr.nu x_4.2.2.2) i)])∧True)∧(wr4q49 c x_2.1 = LN (Arr.it x_4.2.2.2)∧(∀ (i:Nat),i < wr4q49 c x_2.1→Arr.row (List.getD (wr4q48 c x_2.1) i wr4q10) = Arr.row (List.getD (Arr.it x_4.2.2.2) i wr4q10))∧True)∧True)∧True)∧((x = x_4.1∧wr4q50 x_2.2.2 x_4.2.2.1 x_2.2.1 x_4.2.1)∧x_2.2.1 = x_4.2.1∧True)∧(x_4.2.2.2 ∈ wr4q1 c∧LN x_4.2.2.1 + (10:Nat) * szA x_4.2.2.2 ≤ (70368744177664:Nat))∧∀ (y:Nat × List UInt8),y.2 = x_4.2.2.1 ++ arrB x_4.2.2.2→(wr4q51 x∧wr4q52 x_1∧SM (wr4q53 c)∧SM (wr4q4 c)∧True)∧∃ (y_1:Nat × Nat × List UInt8),wr4q8 y_1.1 c y_1.2.2 l∧wr4q2 c - y_1.1 < wr4q2 c - x_2.1∧wr4q54 x_2.1 y_1.1∧(x_4.1 = x∧wr4q40 y.2 y_1.2.2 y.1 y_1.2.1 x_1 c)∧y.1 = y_1.2.1∧True)) (SM x_1∧((SM x∧wr4q55 x_2.2.1∧fitP (LN x_2.2.2) (fun (i:Nat) => wr4q0 x_2.2.2 i) N1 fun (i:Nat) => List.getD [wr4q58 c] i [])∧True)∧∀ (y:Nat × List UInt8),y.2 = wr4q6 x_2.2.2 ++ numsB [rowInt (wr4q58 c)]→SM x_1∧(∃ (x_3:Nat × Nat × List UInt8),wr4q59 x_3.1 c x_3.2.2 l∧wr4q42 x_3.1 x y.2 x_3.2.2 y.1 x_3.2.1 x_1 c)∧∀ (x_3:Nat × Nat × List UInt8),wr4q59 x_3.1 c x_3.2.2 l→ifB (decide ((NI x_3.1) < wr4q56 c)) (side (Z0 ≤ (NI x_3.1)∧(NI x_3.1) < wr4q56 c) (∀ (x_4:Nat),x ≠ x_4∧x_1 ≠ x_4∧True→SM x_4∧SM x_4∧SM x_4∧((SM x∧wr4q55 x_3.2.1∧fitP (LN x_3.2.2) (fun (i:Nat) => wr4q0 x_3.2.2 i) N2 fun (i:Nat) => List.getD [wr4q62 c x_3.1,wr4q67 c x_3.1] i [])∧True)∧∀ (y:Nat × List UInt8),y.2 = wr4q6 x_3.2.2 ++ numsB [rowInt (wr4q62 c x_3.1),rowInt (wr4q67 c x_3.1)]→SM x_4∧(∃ (x_5:Nat × Nat × List UInt8),wr4q72 x_5.1 c x_3.1 x_5.2.2 l∧(Z0 = (NI x_5.1)∧True)∧wr4q75 x y.2 x_5.2.2 y.1 x_5.2.1 x_4 c x_3.1 x_1)∧∀ (x_5:Nat × Nat × List UInt8),wr4q72 x_5.1 c x_3.1 x_5.2.2 l→ifB (decide ((NI x_5.1) < wr4q65 c x_3.1)) (side (Z0 ≤ (NI x_5.1)∧(NI x_5.1) < wr4q65 c x_3.1) (∀ (x_6:Nat),x ≠ x_6∧x_4 ≠ x_6∧x_1 ≠ x_6∧True→SM x_6∧SM x_6∧SM x_6∧SM x_6∧SM x_6∧((SM x∧wr4q55 x_5.2.1∧fitP (LN x_5.2.2) (fun (i:Nat) => wr4q0 x_5.2.2 i) N4 fun (i:Nat) => List.getD [wr4q77 c x_3.1 x_5.1,wr4q78 c x_3.1 x_5.1,wr4q79 c x_3.1 x_5.1,wr4q80 c x_3.1 x_5.1] i [])∧True)∧∀ (y:Nat × List UInt8),y.2 = wr4q6 x_5.2.2 ++ numsB [rowInt (wr4q77 c x_3.1 x_5.1),rowInt (wr4q78 c x_3.1 x_5.1),rowInt (wr4q79 c x_3.1 x_5.1),rowInt (wr4q80 c x_3.1 x_5.1)]→(wr4q51 x∧wr4q52 x_1∧wr4q81 x_4∧wr4q83 c∧wr4q84 c∧wr4q85 x_3.1∧SM (wr4q86 c x_3.1)∧SM (wr4q66 c x_3.1)∧True)∧∃ (y_1:Nat × Nat × List UInt8),wr4q72 y_1.1 c x_3.1 y_1.2.2 l∧wr4q87 c x_3.1 y_1.1 < wr4q87 c x_3.1 x_5.1∧wr4q54 x_5.1 y_1.1∧wr4q75 x y.2 y_1.2.2 y.1 y_1.2.1 x_4 c x_3.1 x_1)) ((wr4q51 x∧wr4q52 x_1∧wr4q83 c∧wr4q84 c∧True)∧∃ (y:Nat × Nat × List UInt8),wr4q59 y.1 c y.2.2 l∧wr4q17 c - y.1 < wr4q17 c - x_3.1∧wr4q88 x_3.1 y.1 x x_5.2.2 y.2.2 x_5.2.1 y.2.1 x_1 c))) (SM x_1∧((SM x∧wr4q55 x_3.2.1∧fitP (LN x_3.2.2) (fun (i:Nat) => wr4q0 x_3.2.2 i) N1 fun (i:Nat) => List.getD [wr4q91 c] i [])∧True)∧∀ (y:Nat × List UInt8),y.2 = wr4q6 x_3.2.2 ++ numsB [rowInt (wr4q91 c)]→SM x_1∧(∃ (x_4:Nat × Nat × List UInt8),wr4q92 x_4.1 c x_4.2.2 l∧wr4q42 x_4.1 x y.2 x_4.2.2 y.1 x_4.2.1 x_1 c)∧∀ (x_4:Nat × Nat × List UInt8),wr4q92 x_4.1 c x_4.2.2 l→ifB (decide ((NI x_4.1) < wr4q89 c)) (side (Z0 ≤ (NI x_4.1)∧(NI x_4.1) < wr4q89 c) (∀ (x_5:Nat),x ≠ x_5∧x_1 ≠ x_5∧True→SM x_5∧SM x_5∧SM x_5∧((SM x∧wr4q55 x_4.2.1∧fitP (LN x_4.2.2) (fun (i:Nat) => wr4q0 x_4.2.2 i) N2 fun (i:Nat) => List.getD [wr4q95 c x_4.1,wr4q100 c x_4.1] i [])∧True)∧∀ (y:Nat × List UInt8),y.2 = wr4q6 x_4.2.2 ++ numsB [rowInt (wr4q95 c x_4.1),rowInt (wr4q100 c x_4.1)]→SM x_5∧(∃ (x_6:Nat × Nat × List UInt8),wr4q104 x_6.1 c x_4.1 x_6.2.2 l∧(Z0 = (NI x_6.1)∧True)∧wr4q109 x y.2 x_6.2.2 y.1 x_6.2.1 x_5 c x_4.1 x_1)∧∀ (x_6:Nat × Nat × List UInt8),wr4q104 x_6.1 c x_4.1 x_6.2.2 l→ifB (decide ((NI x_6.1) < wr4q98 c x_4.1)) (side (Z0 ≤ (NI x_6.1)∧(NI x_6.1) < wr4q98 c x_4.1) (∀ (x_7:Nat),x ≠ x_7∧x_5 ≠ x_7∧x_1 ≠ x_7∧True→SM x_7∧SM x_7∧SM x_7∧SM x_7∧SM x_7∧((SM x∧wr4q55 x_6.2.1∧fitP (LN x_6.2.2) (fun (i:Nat) => wr4q0 x_6.2.2 i) N4 fun (i:Nat) => List.getD [wr4q111 c x_4.1 x_6.1,wr4q112 c x_4.1 x_6.1,wr4q113 c x_4.1 x_6.1,wr4q114 c x_4.1 x_6.1] i [])∧True)∧∀ (y:Nat × List UInt8),y.2 = wr4q6 x_6.2.2 ++ numsB [rowInt (wr4q111 c x_4.1 x_6.1),rowInt (wr4q112 c x_4.1 x_6.1),rowInt (wr4q113 c x_4.1 x_6.1),rowInt (wr4q114 c x_4.1 x_6.1)]→(wr4q51 x∧wr4q52 x_1∧wr4q81 x_5∧wr4q116 c∧wr4q117 c∧wr4q85 x_4.1∧SM (wr4q118 c x_4.1)∧SM (wr4q99 c x_4.1)∧True)∧∃ (y_1:Nat × Nat × List UInt8),wr4q104 y_1.1 c x_4.1 y_1.2.2 l∧wr4q119 c x_4.1 y_1.1 < wr4q119 c x_4.1 x_6.1∧wr4q54 x_6.1 y_1.1∧wr4q109 x y.2 y_1.2.2 y.1 y_1.2.1 x_5 c x_4.1 x_1)) (SM x_5∧SM x_5∧((SM x∧wr4q55 x_6.2.1∧fitP (LN x_6.2.2) (fun (i:Nat) => wr4q0 x_6.2.2 i) N2 fun (i:Nat) => List.getD [wr4q120 c x_4.1,wr4q121 c x_4.1] i [])∧True)∧∀ (y:Nat × List UInt8),y.2 = wr4q6 x_6.2.2 ++ numsB [rowInt (wr4q120 c x_4.1),rowInt (wr4q121 c x_4.1)]→(wr4q51 x∧wr4q52 x_1∧wr4q116 c∧wr4q117 c∧True)∧∃ (y_1:Nat × Nat × List UInt8),wr4q92 y_1.1 c y_1.2.2 l∧wr4q25 c - y_1.1 < wr4q25 c - x_4.1∧wr4q88 x_4.1 y_1.1 x y.2 y_1.2.2 y.1 y_1.2.1 x_1 c))) (SM x_1∧((SM x∧wr4q55 x_4.2.1∧fitP (LN x_4.2.2) (fun (i:Nat) => wr4q0 x_4.2.2 i) N1 fun (i:Nat) => List.getD [wr4q124 c] i [])∧True)∧∀ (y:Nat × List UInt8),y.2 = wr4q6 x_4.2.2 ++ numsB [rowInt (wr4q124 c)]→SM x_1∧(∃ (x_5:Nat × Nat × List UInt8),wr4q125 x_5.1 c x_5.2.2 l∧wr4q42 x_5.1 x y.2 x_5.2.2 y.1 x_5.2.1 x_1 c)∧∀ (x_5:Nat × Nat × List UInt8),wr4q125 x_5.1 c x_5.2.2 l→ifB (decide ((NI x_5.1) < wr4q122 c)) (side (Z0 ≤ (NI x_5.1)∧(NI x_5.1) < wr4q122 c) (∀ (x_6:Nat),x ≠ x_6∧x_1 ≠ x_6∧True→SM x_6∧SM x_6∧SM x_6∧((SM x∧wr4q55 x_5.2.1∧fitP (LN x_5.2.2) (fun (i:Nat) => wr4q0 x_5.2.2 i) N2 fun (i:Nat) => List.getD [wr4q128 c x_5.1,wr4q133 c x_5.1] i [])∧True)∧∀ (y:Nat × List UInt8),y.2 = wr4q6 x_5.2.2 ++ numsB [rowInt (wr4q128 c x_5.1),rowInt (wr4q133 c x_5.1)]→SM x_6∧(∃ (x_7:Nat × Nat × List UInt8),wr4q136 x_7.1 c x_5.1 x_7.2.2 l∧(Z0 = (NI x_7.1)∧True)∧wr4q139 x y.2 x_7.2.2 y.1 x_7.2.1 x_6 c x_5.1 x_1)∧∀ (x_7:Nat × Nat × List UInt8),wr4q136 x_7.1 c x_5.1 x_7.2.2 l→ifB (decide ((NI x_7.1) < wr4q131 c x_5.1)) (side (Z0 ≤ (NI x_7.1)∧(NI x_7.1) < wr4q131 c x_5.1) (∀ (x_8:Nat),x ≠ x_8∧x_6 ≠ x_8∧x_1 ≠ x_8∧True→SM x_8∧SM x_8∧SM x_8∧SM x_8∧SM x_8∧SM x_8∧SM x_8∧((SM x∧wr4q55 x_7.2.1∧fitP (LN x_7.2.2) (fun (i:Nat) => wr4q0 x_7.2.2 i) N6 fun (i:Nat) => List.getD [wr4q141 c x_5.1 x_7.1,wr4q142 c x_5.1 x_7.1,wr4q143 c x_5.1 x_7.1,wr4q144 c x_5.1 x_7.1,wr4q145 c x_5.1 x_7.1,wr4q146 c x_5.1 x_7.1] i [])∧True)∧∀ (y:Nat × List UInt8),y.2 = wr4q6 x_7.2.2 ++ numsB [rowInt (wr4q141 c x_5.1 x_7.1),rowInt (wr4q142 c x_5.1 x_7.1),rowInt (wr4q143 c x_5.1 x_7.1),rowInt (wr4q144 c x_5.1 x_7.1),rowInt (wr4q145 c x_5.1 x_7.1),rowInt (wr4q146 c x_5.1 x_7.1)]→(wr4q51 x∧wr4q52 x_1∧wr4q81 x_6∧wr4q148 c∧wr4q149 c∧wr4q85 x_5.1∧SM (wr4q150 c x_5.1)∧SM (wr4q132 c x_5.1)∧True)∧∃ (y_1:Nat × Nat × List UInt8),wr4q136 y_1.1 c x_5.1 y_1.2.2 l∧wr4q151 c x_5.1 y_1.1 < wr4q151 c x_5.1 x_7.1∧wr4q54 x_7.1 y_1.1∧wr4q139 x y.2 y_1.2.2 y.1 y_1.2.1 x_6 c x_5.1 x_1)) ((wr4q51 x∧wr4q52 x_1∧wr4q148 c∧wr4q149 c∧True)∧∃ (y:Nat × Nat × List UInt8),wr4q125 y.1 c y.2.2 l∧wr4q32 c - y.1 < wr4q32 c - x_5.1∧wr4q88 x_5.1 y.1 x x_7.2.2 y.2.2 x_7.2.1 y.2.1 x_1 c))) (True∧∃ (y:Nat × List UInt8),y.2 = wr4q7 l c∧True∧(SM x∧wr4q50 x_5.2.2 y.2 x_5.2.1 y.1)∧x_5.2.1 = y.1∧True))))) (by kernel_rfl) ?_
  delta BI D4 D6 DA DF DK DL GI LN N0 N1 N2 N4 N6 NI R4 R6 SI SM U0 Z0 Z1 ZB ZI wr4q0 wr4q1 wr4q10 wr4q100 wr4q101 wr4q102 wr4q103 wr4q104 wr4q105 wr4q106 wr4q107 wr4q108 wr4q109 wr4q11 wr4q110 wr4q111 wr4q112 wr4q113 wr4q114 wr4q115 wr4q116 wr4q117 wr4q118 wr4q119 wr4q12 wr4q120 wr4q121 wr4q122 wr4q123 wr4q124 wr4q125 wr4q126 wr4q127 wr4q128 wr4q129 wr4q13 wr4q130 wr4q131 wr4q132 wr4q133 wr4q134 wr4q135 wr4q136 wr4q137 wr4q138 wr4q139 wr4q14 wr4q140 wr4q141 wr4q142 wr4q143 wr4q144 wr4q145 wr4q146 wr4q147 wr4q148 wr4q149 wr4q15 wr4q150 wr4q151 wr4q16 wr4q17 wr4q18 wr4q19 wr4q2 wr4q20 wr4q21 wr4q22 wr4q23 wr4q24 wr4q25 wr4q26 wr4q27 wr4q28 wr4q29 wr4q3 wr4q30 wr4q31 wr4q32 wr4q33 wr4q34 wr4q35 wr4q36 wr4q37 wr4q38 wr4q39 wr4q4 wr4q40 wr4q41 wr4q42 wr4q43 wr4q44 wr4q45 wr4q46 wr4q47 wr4q48 wr4q49 wr4q5 wr4q50 wr4q51 wr4q52 wr4q53 wr4q54 wr4q55 wr4q56 wr4q57 wr4q58 wr4q59 wr4q6 wr4q60 wr4q61 wr4q62 wr4q63 wr4q64 wr4q65 wr4q66 wr4q67 wr4q68 wr4q69 wr4q7 wr4q70 wr4q71 wr4q72 wr4q73 wr4q74 wr4q75 wr4q76 wr4q77 wr4q78 wr4q79 wr4q8 wr4q80 wr4q81 wr4q82 wr4q83 wr4q84 wr4q85 wr4q86 wr4q87 wr4q88 wr4q89 wr4q9 wr4q90 wr4q91 wr4q92 wr4q93 wr4q94 wr4q95 wr4q96 wr4q97 wr4q98 wr4q99
  have da:(default:Arr) = Arr.mk 0 [] [] [] := rfl
  have dF:(default:FnD) = ⟨0,[]⟩ := rfl
  have dK:(default:KeD) = ⟨0,[],0,0⟩ := rfl
  have dL:(default:LaD) = ⟨0,[]⟩ := rfl
  have d4:(default:I4) = ⟨0,0,0,0⟩ := rfl
  have d6:(default:I6) = ⟨0,0,0,0,0,0⟩ := rfl
  simp only [← da,← dF,← dK,← dL,← d4,← d6,eq_self,implies_true,Int.toNat_natCast,ifB_iff,side_iff,decide_eq_true_eq,decide_eq_false_iff_not,true_and,and_true,Prod.forall,forall_eq,bytesOf_bsl,rowInt,natOf]
  have hT:(l ++ codeB c).length ≤ 35184372088832 := by rw [List.length_append]; exact hl
  obtain ⟨k1,k2,k3,k4,m1,m2,m3,m4⟩ := hc
  intro xb _
  refine ⟨fit_T [(c.consts.length:Int)] (R := codeB c) rfl hT (all1 (len_i64 m1)) (by simp),fun t0 => ⟨loop_init (fun i => arrBL (c.consts.drop i) ++ tl2 c) (by simp only [List.drop_zero,List.append_assoc,codeB]),?_⟩⟩
  rintro i t b ⟨hi,hb⟩
  refine ⟨fun hlt => ⟨⟨by omega,hlt⟩,fun _ _ => ?_⟩,fun hge => ?_⟩
  · have hlt':i < c.consts.length := by omega
    have hbl:b.length ≤ 35184372088832 := by
      have := congrArg List.length hb
      rw [List.length_append] at this
      omega
    have hs' := hs _ (mem_getD hlt')
    have e:(b ++ arrB (c.consts.getD i default)) ++ (arrBL (c.consts.drop (i + 1)) ++ tl2 c) = l ++ codeB c := by
      rw [← hb,drop_step hlt',arrBL]; simp only [List.append_assoc]
    obtain ⟨y,q1,q2,q3,q4,q5⟩ := loop_next (t := 0) (fun i => arrBL (c.consts.drop i) ++ tl2 c) hlt' m1 e
    refine ⟨(x,t,b,c.consts.getD i default),⟨rfl,rfl,⟨rfl,fun _ _ => rfl⟩,⟨rfl,fun _ _ => rfl⟩,rfl,fun _ _ => rfl⟩,⟨⟨rfl,rfl,fun _ _ => rfl,rfl⟩,rfl⟩,⟨mem_getD hlt',by simp only; omega⟩,fun t' => ?_⟩
    exact ⟨(y.1,t',y.2.2),q1,q2,q3,⟨rfl,q4.1,q4.2.1,rfl⟩,rfl⟩
  have hi':i = c.consts.length := by omega
  rw [hi',List.drop_length,arrBL,List.nil_append] at hb
  refine ⟨fit_U [(c.funs.length:Int)] hb hT (all1 (len_i64 m2)) (by simp),fun t0 => ⟨loop_init (fun i => (c.funs.drop i).flatMap funB ++ tl3 c) (by rw [← hb]; simp only [List.drop_zero,List.append_assoc,tl2]),?_⟩⟩
  clear hb hge hi hi' i t b t0
  rintro i t b ⟨hi,hb⟩
  refine ⟨fun hlt => ⟨⟨by omega,hlt⟩,fun _ _ => ?_⟩,fun hge => ?_⟩
  · have hlt':i < c.funs.length := by omega
    have kf := k2 _ (mem_getD hlt')
    rw [drop_step hlt',List.flatMap_cons,funB] at hb
    refine ⟨fit_U [(c.funs.getD i default).slots,((c.funs.getD i default).code.length:Int)] hb hT (all2 kf.1 (len_i64 kf.2.2)) (by simp),fun t0 => ⟨loop_init (fun j => ((c.funs.getD i default).code.drop j).flatMap i4B ++ ((c.funs.drop (i + 1)).flatMap funB ++ tl3 c)) (by rw [← hb]; simp only [List.drop_zero,List.append_assoc]),?_⟩⟩
    clear hb t b
    rintro j t b ⟨hj,hb⟩
    refine ⟨fun hjl => ⟨⟨by omega,hjl⟩,fun _ _ => ?_⟩,fun hjg => ?_⟩
    · have hj':j < (c.funs.getD i default).code.length := by omega
      rw [drop_step hj',List.flatMap_cons,i4B] at hb
      exact ⟨fit_U [((c.funs.getD i default).code.getD j default).a,((c.funs.getD i default).code.getD j default).b,((c.funs.getD i default).code.getD j default).c,((c.funs.getD i default).code.getD j default).d] hb hT (all4 (kf.2.1 _ (mem_getD hj'))) (by simp),fun t1 => loop_next (fun j => ((c.funs.getD i default).code.drop j).flatMap i4B ++ ((c.funs.drop (i + 1)).flatMap funB ++ tl3 c)) hj' kf.2.2 (by rw [← hb]; simp only [List.append_assoc])⟩
    · have hj':j = (c.funs.getD i default).code.length := by omega
      rw [hj',List.drop_length,List.flatMap_nil,List.nil_append] at hb
      exact loop_next (fun i => (c.funs.drop i).flatMap funB ++ tl3 c) hlt' m2 hb
  have hi':i = c.funs.length := by omega
  rw [hi',List.drop_length,List.flatMap_nil,List.nil_append] at hb
  refine ⟨fit_U [(c.kers.length:Int)] hb hT (all1 (len_i64 m3)) (by simp),fun t0 => ⟨loop_init (fun i => (c.kers.drop i).flatMap kerY ++ tl4 c) (by rw [← hb]; simp only [List.drop_zero,List.append_assoc,tl3]),?_⟩⟩
  clear hb hge hi hi' i t b t0
  rintro i t b ⟨hi,hb⟩
  refine ⟨fun hlt => ⟨⟨by omega,hlt⟩,fun _ _ => ?_⟩,fun hge => ?_⟩
  · have hlt':i < c.kers.length := by omega
    have kf := k3 _ (mem_getD hlt')
    rw [drop_step hlt',List.flatMap_cons,kerY] at hb
    refine ⟨fit_U [(c.kers.getD i default).inputs,((c.kers.getD i default).ops.length:Int)] hb hT (all2 kf.1 (len_i64 kf.2.2.1)) (by simp),fun t0 => ⟨loop_init (fun j => ((c.kers.getD i default).ops.drop j).flatMap i4B ++ (numsB [(c.kers.getD i default).reduce,(c.kers.getD i default).at_] ++ ((c.kers.drop (i + 1)).flatMap kerY ++ tl4 c))) (by rw [← hb]; simp only [List.drop_zero,List.append_assoc]),?_⟩⟩
    clear hb t b
    rintro j t b ⟨hj,hb⟩
    refine ⟨fun hjl => ⟨⟨by omega,hjl⟩,fun _ _ => ?_⟩,fun hjg => ?_⟩
    · have hj':j < (c.kers.getD i default).ops.length := by omega
      rw [drop_step hj',List.flatMap_cons,i4B] at hb
      exact ⟨fit_U [((c.kers.getD i default).ops.getD j default).a,((c.kers.getD i default).ops.getD j default).b,((c.kers.getD i default).ops.getD j default).c,((c.kers.getD i default).ops.getD j default).d] hb hT (all4 (kf.2.1 _ (mem_getD hj'))) (by simp),fun t1 => loop_next (fun j => ((c.kers.getD i default).ops.drop j).flatMap i4B ++ (numsB [(c.kers.getD i default).reduce,(c.kers.getD i default).at_] ++ ((c.kers.drop (i + 1)).flatMap kerY ++ tl4 c))) hj' kf.2.2.1 (by rw [← hb]; simp only [List.append_assoc])⟩
    · have hj':j = (c.kers.getD i default).ops.length := by omega
      rw [hj',List.drop_length,List.flatMap_nil,List.nil_append] at hb
      exact ⟨fit_U [(c.kers.getD i default).reduce,(c.kers.getD i default).at_] hb hT (all2 kf.2.2.2.1 kf.2.2.2.2) (by simp),fun t1 => loop_next (fun i => (c.kers.drop i).flatMap kerY ++ tl4 c) hlt' m3 (by rw [← hb]; simp only [List.append_assoc])⟩
  have hi':i = c.kers.length := by omega
  rw [hi',List.drop_length,List.flatMap_nil,List.nil_append] at hb
  refine ⟨fit_U [(c.lanes.length:Int)] hb hT (all1 (len_i64 m4)) (by simp),fun t0 => ⟨loop_init (fun i => (c.lanes.drop i).flatMap lanB) (by rw [← hb]; simp only [List.drop_zero,List.append_assoc,tl4]),?_⟩⟩
  clear hb hge hi hi' i t b t0
  rintro i t b ⟨hi,hb⟩
  refine ⟨fun hlt => ⟨⟨by omega,hlt⟩,fun _ _ => ?_⟩,fun hge => ?_⟩
  · have hlt':i < c.lanes.length := by omega
    have kf := k4 _ (mem_getD hlt')
    rw [drop_step hlt',List.flatMap_cons,lanB] at hb
    refine ⟨fit_U [(c.lanes.getD i default).regs,((c.lanes.getD i default).code.length:Int)] hb hT (all2 kf.1 (len_i64 kf.2.2)) (by simp),fun t0 => ⟨loop_init (fun j => ((c.lanes.getD i default).code.drop j).flatMap i6B ++ ((c.lanes.drop (i + 1)).flatMap lanB)) (by rw [← hb]; simp only [List.drop_zero,List.append_assoc]),?_⟩⟩
    clear hb t b
    rintro j t b ⟨hj,hb⟩
    refine ⟨fun hjl => ⟨⟨by omega,hjl⟩,fun _ _ => ?_⟩,fun hjg => ?_⟩
    · have hj':j < (c.lanes.getD i default).code.length := by omega
      rw [drop_step hj',List.flatMap_cons,i6B] at hb
      exact ⟨fit_U [((c.lanes.getD i default).code.getD j default).a,((c.lanes.getD i default).code.getD j default).b,((c.lanes.getD i default).code.getD j default).c,((c.lanes.getD i default).code.getD j default).d,((c.lanes.getD i default).code.getD j default).e,((c.lanes.getD i default).code.getD j default).f] hb hT (all6 (kf.2.1 _ (mem_getD hj'))) (by simp),fun t1 => loop_next (fun j => ((c.lanes.getD i default).code.drop j).flatMap i6B ++ ((c.lanes.drop (i + 1)).flatMap lanB)) hj' kf.2.2 (by rw [← hb]; simp only [List.append_assoc])⟩
    · have hj':j = (c.lanes.getD i default).code.length := by omega
      rw [hj',List.drop_length,List.flatMap_nil,List.nil_append] at hb
      exact loop_next (fun i => (c.lanes.drop i).flatMap lanB) hlt' m4 hb
  have hi':i = c.lanes.length := by omega
  rw [hi',List.drop_length,List.flatMap_nil,List.append_nil] at hb
  exact ⟨(t,b),hb,⟨rfl,fun _ _ => rfl,rfl⟩,rfl⟩
end Go.Proofs.Ytoglbmhkfkghbaa
