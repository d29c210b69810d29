/- Functions of the given program and what each of them computes: lemmas towards the statement, their conditions stated with each of them. -/
import Derived.Test.YtoglbmhkfkghbaaD3
namespace Go.Proofs.Ytoglbmhkfkghbaa
open Go Go.Ab
def bit1 (c:Nat):Nat := match c % 2 with
  | 0 => c / 2
  | _ => (c / 2) ^^^ 3988292384
def bits (k c:Nat):Nat := match k with
  | 0 => c
  | k + 1 => bit1 (bits k c)
def crc (l:List UInt8) (c:Nat):Nat := match l with
  | [] => c
  | b :: r => crc r (bits 8 (c ^^^ b.toNat))
def sumN (l:List UInt8):Nat := crc l 4294967295 ^^^ 4294967295
theorem bit1_lt {c:Nat} (h:c < 4294967296):bit1 c < 4294967296 := by
  unfold bit1
  split
  · omega
  · exact Nat.xor_lt_two_pow (n := 32) (by omega) (by omega)
theorem bits_lt {c:Nat} (h:c < 4294967296):∀ k,bits k c < 4294967296
  | 0 => h
  | k + 1 => bit1_lt (bits_lt h k)
theorem byte_xor {c:Nat} (h:c < 4294967296) (b:UInt8):c ^^^ b.toNat < 4294967296 := Nat.xor_lt_two_pow (n := 32) (by omega) (by have := b.toNat_lt; omega)
theorem crc_lt:∀ (l:List UInt8) {c:Nat},c < 4294967296→crc l c < 4294967296
  | [],_,h => h
  | b :: l,_,h => crc_lt l (bits_lt (byte_xor h b) 8)
theorem crc_app:∀ (l r:List UInt8) (c:Nat),crc (l ++ r) c = crc r (crc l c)
  | [],_,_ => rfl
  | _b :: l,r,_c => crc_app l r _
theorem crc_take (l:List UInt8) {x:Nat} (h:x < l.length) (c:Nat):crc (l.take (x + 1)) c = bits 8 (crc (l.take x) c ^^^ (l.getD x 0).toNat) := by
  rw [List.take_add_one,crc_app,List.getD_eq_getElem?_getD,List.getElem?_eq_getElem h]; rfl
theorem xor32 {a b:Nat} (ha:a < 4294967296) (hb:b < 4294967296):xorI .u32 a b = ((a ^^^ b:Nat):Int) := xorI_nat rfl ha hb
theorem and32 {a b:Nat} (ha:a < 4294967296) (hb:b < 4294967296):andI .u32 a b = ((a &&& b:Nat):Int) := andI_nat rfl ha hb
theorem not32 {a:Nat} (ha:a < 4294967296):notI .u32 a = ((a ^^^ 4294967295:Nat):Int) := notI_nat rfl ha
theorem wrapB (b:UInt8):IntKind.u32.wrap (b.toNat:Int) = (b.toNat:Int) := wrap_uns rfl (by have := b.toNat_lt; simp [IntKind.bits]; omega)
theorem low_bit {c:Nat} (h:c < 4294967296):(andI .u32 (c:Int) 1 == 1) = decide (c % 2 = 1) := by
  have := and32 h (b := 1) (by omega)
  simp only [Int.ofNat_one] at this
  rw [this,Nat.and_one_is_mod]
  by_cases e:c % 2 = 1
  · simp [e]
  · have:c % 2 = 0 := by omega
    simp [this]
theorem half (c:Nat):Int.fdiv (c:Int) 2 = ((c / 2:Nat):Int) := fdiv_nat c 2
theorem bit_1 {c:Nat} (h:c < 4294967296) (e:c % 2 = 1):xorI .u32 (Int.fdiv (c:Int) 2) 3988292384 = ((bit1 c:Nat):Int) := by
  rw [half]
  have := xor32 (a := c / 2) (b := 3988292384) (by omega) (by omega)
  rw [show ((3988292384:Nat):Int) = 3988292384 from rfl] at this
  rw [this]
  unfold bit1; rw [e]; rfl
theorem bit_0 {c:Nat} (e:c % 2 = 0):Int.fdiv (c:Int) 2 = ((bit1 c:Nat):Int) := by
  rw [half]; unfold bit1; rw [e]; rfl
theorem sum_law (l:List UInt8):notI .u32 ((crc (l.take l.length) 4294967295:Nat):Int) = ((sumN l:Nat):Int) := by
  rw [List.take_length,not32 (crc_lt l (by omega))]; rfl
def sSum:FnSpec where
  β := List UInt8 × Ab.Mode
  α := Unit
  args := fun x => [.sl 1 x.1.length (fun i => [.int .u8 ((x.1.getD i 0).toNat:Int)]) x.2]
  st := fun _ => ⟨[],[]⟩
  pre := fun x => x.1.length ≤ 9223372036854775807
  post := fun _ _ => True
  res := fun x _ => .ret (.int .u32 (sumN x.1:Int))
  out := fun _ _ => ⟨[],[]⟩
def inner (l:List UInt8) (d:D) (s1 s2:Nat) (keep:List Nat):Option LoopAnn :=
  match d with
  | .int _ z => some { slots := [s1,s2],keep := keep,α := Nat,st := fun k => ([.int .u32 (bits k (crc (l.take z.toNat) 4294967295 ^^^ (l.getD z.toNat 0).toNat):Int),.int .i64 k],⟨[],[]⟩),inv := fun k => k ≤ 8,mu := fun k => 8 - k }
  | _ => none
noncomputable def E10 (l:List UInt8):Senv := { EC con0 31 1 [2,3,5,6,7,8,9,10,17,18,24] (fun _ => ([],[])) with
  ann := fun b env _ => match b with
    | 0 => some { slots := [3,9],keep := [7,8],α := Nat,st := fun i => ([.int .u32 (crc (l.take i) 4294967295:Int),.int .i64 i],⟨[],[]⟩),inv := fun i => i ≤ l.length,mu := fun i => l.length - i }
    | 2 => inner l (Ab.look env 9) 3 17 [7,8,9]
    | _ => none }
noncomputable section
def su1q0 (p0:Nat) (p1:List UInt8):Int := (NI (crc (List.take p0 p1) (4294967295:Nat)))
def su1q1 (p0 p1:Nat) (p2:List UInt8):Int := (NI (bits p0 (crc (List.take (Int.toNat (↑p1:Int)) p2) (4294967295:Nat) ^^^ UInt8.toNat (List.getD p2 (Int.toNat (↑p1:Int)) U0))))
def su1q2 (p0:List UInt8) (p1:Ab.Mode):D := D.sl N1 (LN p0) (fun (i:Nat) => [ZB (BI p0 i)]) p1
def su1q3 (p0:List UInt8) (p1:Ab.Mode):Prop := SM (su1q2 p0 p1)
def su1q4 (p0:List UInt8) (p1:Ab.Mode) (p2:Nat):Prop := su1q3 p0 p1∧SM (ZI (LI p0))∧SM (ZI (↑p2:Int))∧True
def su1q5 (p0 p1:Nat) (p2:List UInt8):Int := Int.fdiv (su1q1 p0 p1 p2) (2:Int)
def su1q6 (p0 p1:Nat):Prop := IntKind.wrap IntKind.i64 ((↑p0:Int) + Z1) = (↑p1:Int)∧True
end
theorem sum_ok (l:List UInt8) (m:Ab.Mode) (hl:l.length ≤ 9223372036854775807):ACalls Try.prog 10 (sSum.args (l,m)) (sSum.st (l,m)) (SpecR sSum (l,m)) := by
  refine con_of (A := sSum) (x := (l,m)) (E := E10 l) (eOk con0_ok rfl) Try.func10 rfl (by kernel_rfl) rfl (by simp [sSum,E10,EC,E0]) ?_
  refine vc_eq (T :=
    (∃ (x:Nat),x ≤ LN l∧((4294967295:Int) = su1q0 x l∧Z0 = (↑x:Int)∧True)∧True∧True)∧∀ (x:Nat),x ≤ LN l→ifB (decide ((↑x:Int) < (LI l))) (side (Z0 ≤ (↑x:Int)∧(↑x:Int) < (LI l)) ((∃ (x_1:Nat),x_1 ≤ (8:Nat)∧(xorI IntKind.u32 (su1q0 x l) (IntKind.wrap IntKind.u32 (BI l (Int.toNat (↑x:Int)))) = su1q1 x_1 x l∧Z0 = (↑x_1:Int)∧True)∧True∧True)∧∀ (x_1:Nat),x_1 ≤ (8:Nat)→ifB (decide ((↑x_1:Int) < (8:Int))) (ifB (andI IntKind.u32 (su1q1 x_1 x l) Z1 == Z1) (su1q4 l m x∧∃ (y:Nat),y ≤ (8:Nat)∧(8:Nat) - y < (8:Nat) - x_1∧(xorI IntKind.u32 (su1q5 x_1 x l) (3988292384:Int) = su1q1 y x l∧su1q6 x_1 y)∧True∧True) (su1q4 l m x∧∃ (y:Nat),y ≤ (8:Nat)∧(8:Nat) - y < (8:Nat) - x_1∧(su1q5 x_1 x l = su1q1 y x l∧su1q6 x_1 y)∧True∧True)) ((su1q3 l m∧SM (ZI (LI l))∧True)∧∃ (y:Nat),y ≤ LN l∧LN l - y < LN l - x∧(su1q1 x_1 x l = su1q0 y l∧su1q6 x y)∧True∧True))) (True∧∃ (y:Unit),True∧notI IntKind.u32 (su1q0 x l) = (NI (sumN l))∧True∧True)) (by kernel_rfl) ?_
  delta BI LI LN N1 NI SM U0 Z0 Z1 ZB ZI su1q0 su1q1 su1q2 su1q3 su1q4 su1q5 su1q6
  have hc := fun x => crc_lt (l.take x) (c := 4294967295) (by omega)
  refine ⟨⟨0,Nat.zero_le _,⟨rfl,rfl,trivial⟩,trivial,trivial⟩,fun x hx => ?_⟩
  simp only [ifB_iff,side_iff,decide_eq_true_eq,decide_eq_false_iff_not,Int.toNat_natCast,true_and,and_true]
  refine ⟨fun h => ?_,fun h => ⟨(),?_⟩⟩
  · have hlt:x < l.length := by omega
    have hb := byte_xor (hc x) (l.getD x 0)
    refine ⟨⟨by omega,h⟩,?_⟩
    refine ⟨⟨0,by omega,?_,rfl⟩,fun k hk => ?_⟩
    · rw [wrapB,xor32 (hc x) (by have := (l.getD x 0).toNat_lt; omega)]; rfl
    · have hbk := bits_lt hb k
      simp only [low_bit hbk,decide_eq_true_eq,decide_eq_false_iff_not]
      refine ⟨fun h8 => ⟨fun h1 => ⟨k + 1,by omega,by omega,bit_1 hbk h1,?_⟩,fun h1 => ⟨k + 1,by omega,by omega,bit_0 (by omega),?_⟩⟩,fun h8 => ⟨x + 1,by omega,by omega,?_,?_⟩⟩
      · exact wrap_i64' (by omega) (by omega)
      · exact wrap_i64' (by omega) (by omega)
      · have:k = 8 := by omega
        subst this
        rw [crc_take l hlt]
      · exact wrap_i64' (by omega) (by omega)
  · have:x = l.length := by omega
    subst this
    exact sum_law l
noncomputable def E11 (l:List UInt8):Senv := { EC con0 34 1 [2,3,4,5,6,10,21,29] (fun _ => ([],[])) with
  ann := fun b env _ => match b with
    | 0 => some { slots := [3,4],keep := [0],α := Nat,st := fun i => ([.int .u32 (crc (l.take i) 4294967295:Int),.int .i64 i],⟨[],[]⟩),inv := fun i => i ≤ l.length,mu := fun i => l.length - i }
    | 2 => inner l (Ab.look env 4) 3 5 [0,4]
    | _ => none }
noncomputable section
def su1q7 (p0:Nat) (p1:List UInt8):Int := (NI (crc (List.take p0 p1) (4294967295:Nat)))
def su1q8 (p0 p1:Nat) (p2:List UInt8):Int := (NI (bits p0 (crc (List.take (Int.toNat (↑p1:Int)) p2) (4294967295:Nat) ^^^ UInt8.toNat (List.getD p2 (Int.toNat (↑p1:Int)) U0))))
def su1q9 (p0:List UInt8) (p1:Ab.Mode):D := D.sl N1 (LN p0) (fun (i:Nat) => [ZB (BI p0 i)]) p1
def su1q10 (p0:List UInt8) (p1:Ab.Mode):Prop := SM (su1q9 p0 p1)
def su1q11 (p0:List UInt8) (p1:Ab.Mode) (p2:Nat):Prop := su1q10 p0 p1∧SM (ZI (↑p2:Int))∧True
def su1q12 (p0 p1:Nat) (p2:List UInt8):Int := Int.fdiv (su1q8 p0 p1 p2) (2:Int)
def su1q13 (p0 p1:Nat):Prop := IntKind.wrap IntKind.i64 ((↑p0:Int) + Z1) = (↑p1:Int)∧True
end
theorem rsum_ok (l:List UInt8) (m:Ab.Mode) (hl:l.length ≤ 9223372036854775807):ACalls Try.prog 11 (sSum.args (l,m)) (sSum.st (l,m)) (SpecR sSum (l,m)) := by
  refine con_of (A := sSum) (x := (l,m)) (E := E11 l) (eOk con0_ok rfl) Try.func11 rfl (by kernel_rfl) rfl (by simp [sSum,E11,EC,E0]) ?_
  refine vc_eq (T :=
    (∃ (x:Nat),x ≤ LN l∧((4294967295:Int) = su1q7 x l∧Z0 = (↑x:Int)∧True)∧True∧True)∧∀ (x:Nat),x ≤ LN l→ifB (decide ((↑x:Int) < (LI l))) (side (Z0 ≤ (↑x:Int)∧(↑x:Int) < (LI l)) ((∃ (x_1:Nat),x_1 ≤ (8:Nat)∧(xorI IntKind.u32 (su1q7 x l) (IntKind.wrap IntKind.u32 (BI l (Int.toNat (↑x:Int)))) = su1q8 x_1 x l∧Z0 = (↑x_1:Int)∧True)∧True∧True)∧∀ (x_1:Nat),x_1 ≤ (8:Nat)→ifB (decide ((↑x_1:Int) < (8:Int))) (ifB (andI IntKind.u32 (su1q8 x_1 x l) Z1 == Z1) (su1q11 l m x∧∃ (y:Nat),y ≤ (8:Nat)∧(8:Nat) - y < (8:Nat) - x_1∧(xorI IntKind.u32 (su1q12 x_1 x l) (3988292384:Int) = su1q8 y x l∧su1q13 x_1 y)∧True∧True) (su1q11 l m x∧∃ (y:Nat),y ≤ (8:Nat)∧(8:Nat) - y < (8:Nat) - x_1∧(su1q12 x_1 x l = su1q8 y x l∧su1q13 x_1 y)∧True∧True)) ((su1q10 l m∧True)∧∃ (y:Nat),y ≤ LN l∧LN l - y < LN l - x∧(su1q8 x_1 x l = su1q7 y l∧su1q13 x y)∧True∧True))) (True∧∃ (y:Unit),True∧xorI IntKind.u32 (su1q7 x l) (4294967295:Int) = (NI (sumN l))∧True∧True)) (by kernel_rfl) ?_
  delta BI LI LN N1 NI SM U0 Z0 Z1 ZB ZI su1q10 su1q11 su1q12 su1q13 su1q7 su1q8 su1q9
  have hc := fun x => crc_lt (l.take x) (c := 4294967295) (by omega)
  refine ⟨⟨0,Nat.zero_le _,⟨rfl,rfl,trivial⟩,trivial,trivial⟩,fun x hx => ?_⟩
  simp only [ifB_iff,side_iff,decide_eq_true_eq,decide_eq_false_iff_not,Int.toNat_natCast,true_and,and_true]
  refine ⟨fun h => ?_,fun h => ⟨(),?_⟩⟩
  · have hlt:x < l.length := by omega
    have hb := byte_xor (hc x) (l.getD x 0)
    refine ⟨⟨by omega,h⟩,?_⟩
    refine ⟨⟨0,by omega,?_,rfl⟩,fun k hk => ?_⟩
    · rw [wrapB,xor32 (hc x) (by have := (l.getD x 0).toNat_lt; omega)]; rfl
    · have hbk := bits_lt hb k
      simp only [low_bit hbk,decide_eq_true_eq,decide_eq_false_iff_not]
      refine ⟨fun h8 => ⟨fun h1 => ⟨k + 1,by omega,by omega,bit_1 hbk h1,?_⟩,fun h1 => ⟨k + 1,by omega,by omega,bit_0 (by omega),?_⟩⟩,fun h8 => ⟨x + 1,by omega,by omega,?_,?_⟩⟩
      · exact wrap_i64' (by omega) (by omega)
      · exact wrap_i64' (by omega) (by omega)
      · have:k = 8 := by omega
        subst this
        rw [crc_take l hlt]
      · exact wrap_i64' (by omega) (by omega)
  · have:x = l.length := by omega
    subst this
    rw [← sum_law l,not32 (hc _)]
    exact xor32 (b := 4294967295) (hc _) (by omega)
end Go.Proofs.Ytoglbmhkfkghbaa
namespace Go.Proofs.Ytoglbmhkfkghbaa
open Go Go.Ab
def in0:List D := [.int .i64 25,.int .i64 0,.int .i64 0,.int .i64 0]
def fn0 (m:Ab.Mode):List D := [.int .i64 0,.sl 4 1 (fun i => ([in0]:List (List D)).getD i []) m]
def nils:D := .sl 1 0 (fun _ => []) .nil
def c0 (m m':Ab.Mode):D := .agg [nils,.sl 2 1 (fun i => ([fn0 m']:List (List D)).getD i []) m,nils,nils]
def b0:List (List D) := [65,76,67,49,0,2,0,2,50,0,0,0,0,0,116,248,41,197].map fun n => [.int .u8 n]
def d0 (m:Ab.Mode):D := .sl 1 18 (fun i => b0.getD i []) m
theorem sum_fits {k n : Nat} {f : Nat → List D} {m : Ab.Mode} {S : St} (h : ∀ l m, l.length ≤ 9223372036854775807 → ACalls Try.prog k (sSum.args (l, m)) (sSum.st (l, m)) (SpecR sSum (l, m))) :
    (∀ y,(sSum.fits (bytesOf n f,m) (rowsB n f = true)).pre y→ACalls Try.prog k ((sSum.fits (bytesOf n f,m) (rowsB n f = true)).args y) ((sSum.fits (bytesOf n f,m) (rowsB n f = true)).st y) (SpecR (sSum.fits (bytesOf n f,m) (rowsB n f = true)) y))∧(∀ y,(sSum.fits (bytesOf n f,m) (rowsB n f = true)).fit = some y→(sSum.fits (bytesOf n f,m) (rowsB n f = true)).pre y→weakL [.sl 1 n f m] ((sSum.fits (bytesOf n f,m) (rowsB n f = true)).args y)∧leS ((sSum.fits (bytesOf n f,m) (rowsB n f = true)).st y) S)∧((sSum.fits (bytesOf n f,m) (rowsB n f = true)).all = true→∀ y,(sSum.fits (bytesOf n f,m) (rowsB n f = true)).pre y→weakL [.sl 1 n f m] ((sSum.fits (bytesOf n f,m) (rowsB n f = true)).args y)∧(sSum.fits (bytesOf n f,m) (rowsB n f = true)).st y = S) := by
  refine FnSpec.fits_ok (A := sSum) (fun y hy => h y.1 y.2 hy) fun hr => ⟨?_,by simp [sSum,leS,leO,leT,nodupB,chk_iff]⟩
  simp only [sSum,weakL,weakD,chk_iff]
  refine ⟨⟨by simp,by simp [bytesOf],fun i hi => ?_,weakM_refl m⟩,trivial⟩
  have hb:rowB (f i) = true := List.all_eq_true.1 hr i (List.mem_range.2 hi)
  have hg:(bytesOf n f).getD i 0 = rowByte (f i) := by
    simp [bytesOf,List.getD_eq_getElem?_getD,hi]
  rw [hg]
  unfold rowB at hb
  split at hb
  · rename_i d hd
    rw [hd]
    have := byteB_eq hb
    simp only [rowByte]
    rw [← this]
  · cases hb
def conS (k:Nat) (ds:List D) (_:St):Option FnSpec :=
  match k with
  | 10 => match ds with
    | [.sl 1 n f m] => some (sSum.fits (bytesOf n f,m) (rowsB n f = true))
    | _ => none
  | 11 => match ds with
    | [.sl 1 n f m] => some (sSum.fits (bytesOf n f,m) (rowsB n f = true))
    | _ => none
  | _ => none
theorem conS_ok:ConOk Try.prog conS := by
  intro k ds S A h
  unfold conS at h
  split at h
  · split at h
    · injection h with h; subst h
      exact sum_fits sum_ok
    · cases h
  · split at h
    · injection h with h; subst h
      exact sum_fits rsum_ok
    · cases h
  · cases h
end Go.Proofs.Ytoglbmhkfkghbaa
namespace Go.Proofs.Ytoglbmhkfkghbaa
open Go Go.Ab
def stepS (c:CodD) (f i:Nat) (x:I4) (st:List UInt8):Option (List UInt8) :=
  match effC c f x with
  | none => none
  | some e => if okA st e.1 true = true∧¬ x.d < 0∧¬ ((x.a = 25∨x.a = 24)∧newA st e.1 e.2 ≠ [])∧¬ (x.a = 24∧x.b ≤ i) then some (newA st e.1 e.2) else none
def runS (c:CodD) (f:Nat):Nat→List I4→List UInt8→Nat→Option Nat
  | _,[],_,deep => some deep
  | i,x :: r,st,deep => match stepS c f i x st with
    | none => none
    | some nx => runS c f (i + 1) r nx (max deep nx.length)
def empS (c:CodD) (f:Nat):Nat→List I4→List UInt8→List Bool
  | _,[],_ => []
  | i,x :: r,st => st.isEmpty :: match stepS c f i x st with
    | none => []
    | some nx => empS c f (i + 1) r nx
def guardsB (em:List Bool) (code:List I4):Bool := code.all fun x => decide (x.a ≠ 24) || em.getD x.b.toNat false
def funS (c:CodD) (f:Nat):Option Nat :=
  let fd := c.funs.getD f default
  if between fd.slots 0 1000 = true∧fd.code ≠ []∧(fd.code.getD (fd.code.length - 1) default).a = 25 then
    match runS c f 0 fd.code [] 0 with
    | none => none
    | some d => if guardsB (empS c f 0 fd.code []) fd.code then some d else none
  else none
def funD (e:Option Nat):D := .tup [.int .i64 (e.getD 0:Nat),.bool e.isSome]
def conF (c:CodD) (f:Nat):Con := fun k ds S => match k with
  | 63 => match ds with
    | [a0,a1,.agg [.int .i64 a,.int .i64 b,.int .i64 d,.int .i64 e]] => some (pQ [.agg c.row,.int .i64 f,.agg (I4.row ⟨a,b,d,e⟩)] (offD (effC c f ⟨a,b,d,e⟩)) (offQ (effC c f ⟨a,b,d,e⟩)) (weakL [a0,a1] [.agg c.row,.int .i64 f]∧I4.ok ⟨a,b,d,e⟩))
    | _ => none
  | k => conE k ds S
theorem conF_ok {c:CodD} {f:Nat} (hf:f < c.funs.length) (hc:c.ok):ConOk Try.prog (conF c f) := by
  intro k ds S A h
  unfold conF at h
  split at h
  · split at h
    · injection h with h; subst h
      exact pQ_ok fun ⟨hw,hx⟩ => ⟨⟨hw.1,hw.2.1,weakD_refl _,trivial⟩,(of_ok c f ⟨_,_,_,_⟩ hf hc hx).mono fun _ _ h => h⟩
    · cases h
  · exact conE_ok _ _ _ _ h
noncomputable def _root_.Go.Ab.inlF (con:Con) (k:Nat) (ds:List D) (S:St) (R:AEnd→St→Prop):Prop :=
  match Nat.beq k 64 with
  | true => inlA k ds S R
  | false => inlD { E0 con 0 0 [] (fun _ => ([],[])) with auto := true } (frmGet frames) 9 k ds S R
theorem inlF_ok {con:Con} (hc:ConOk Try.prog con) (k:Nat) (ds:List D) (S:St) (R:AEnd→St→Prop) (h:inlF con k ds S R):ACalls Try.prog k ds S R := by
  unfold inlF at h
  split at h
  · exact inlA_ok _ _ _ _ h
  · exact inlD_ok (E := { E0 con 0 0 [] (fun _ => ([],[])) with auto := true }) tab_ok hc mix frames_ok eqs_ok 9 k ds S R h
noncomputable def EF (c:CodD) (f:Nat):Senv := { EC (conF c f) 139 3 [4,5,6,7,8,9,10,11,12,13,14,15,16,17,19,45,49,50,51,52,73,108,116,117,118,119,136] (fun _ => ([],[])) with inl := inlF (conF c f) }
def erow (l:List Bool):Nat→List D := fun i => [.bool (l.getD i false)]
structure FunHead (c:CodD) (f:Nat) (i:Nat) (st:List UInt8) (deep:Nat) (em:List Bool):Prop where
  hi:i ≤ (c.funs.getD f default).code.length
  hs:st.length ≤ i
  hd:deep ≤ 65536
  hr:runS c f i ((c.funs.getD f default).code.drop i) st deep = runS c f 0 (c.funs.getD f default).code [] 0
  hl:em.length = (c.funs.getD f default).code.length
  he:em.take i ++ empS c f i ((c.funs.getD f default).code.drop i) st = empS c f 0 (c.funs.getD f default).code []
abbrev O4 := D × D × D × D
def O4.row (d:O4):List D := [d.1,d.2.1,d.2.2.1,d.2.2.2]
def CB (c:CodD) (d:O4):Prop := d.row = c.row
def cutF (c:CodD) (f:Nat) (d2:D):Option LoopAnn :=
  match d2 with
  | .ref _ x2 _ => some
    { slots := [6],keep := [],α := Nat × FnD × O4
      st := fun y => ([.ref 1 y.1 0],⟨[(1,y.1,.cells (FnD.row y.2.1)),(0,x2,.cells (O4.row y.2.2))],[]⟩)
      inv := fun y => y.2.1 = c.funs.getD f default∧CB c y.2.2,mu := fun _ => 0 }
  | _ => none
def annF1 (c:CodD) (f n:Nat) (os:List (Nat × Nat × AObj)):Option (LoopAnn × LoopAnn) :=
  match os with
  | [(_,x9,.vec _ _ _ _),(_,x6,.cells fn),(_,x2,.cells cc)] => some
    ({ slots := [51, 8, 10], keep := [1, 2, 6, 7, 9, 11, 49, 50], α := Nat × Nat × List Bool
       st := fun y => ([.int .i64 y.1,nilB,.int .i64 y.2.1],⟨[(2,x9,.vec 1 n n (erow y.2.2)),(1,x6,.cells fn),(0,x2,.cells cc)],[]⟩)
       inv := fun y => FunHead c f y.1 [] y.2.1 y.2.2,mu := fun y => n - y.1 },
     { slots := [51,8,10],keep := [1,2,6,7,9,11,49,50],α := (Nat × Nat × List Bool) × List UInt8 × Nat × Nat
       st := fun y => ([.int .i64 y.1.1,.vs 3 y.2.2.1 y.2.1.length y.2.2.2 1,.int .i64 y.1.2.1],⟨[(3,y.2.2.1,.vec 1 y.2.1.length y.2.2.2 (brow y.2.1)),(2,x9,.vec 1 n n (erow y.1.2.2)),(1,x6,.cells fn),(0,x2,.cells cc)],[]⟩)
       inv := fun y => FunHead c f y.1.1 y.2.1 y.1.2.1 y.1.2.2∧y.2.1.length ≤ y.2.2.2,mu := fun y => n - y.1.1 })
  | _ => none
def MidInv (c:CodD) (f:Nat) (dp:Nat) (r:Bool) (em:List Bool):Prop :=
  (r = true∧runS c f 0 (c.funs.getD f default).code [] 0 = some dp∧em = empS c f 0 (c.funs.getD f default).code [])∨(r = false∧runS c f 0 (c.funs.getD f default).code [] 0 = none)
def annB (c:CodD) (f n:Nat) (os:List (Nat × Nat × AObj)):Option LoopAnn :=
  match os with
  | [(_,x9,.vec _ _ _ _),(_,x6,.cells fn),_] => some
    { slots := [10,11],keep := [6,9],α := Nat × Bool × List Bool
      st := fun y => ([.int .i64 y.1,.bool y.2.1],⟨[(2,x9,.vec 1 n n (erow y.2.2)),(1,x6,.cells fn)],[]⟩)
      inv := fun y => MidInv c f y.1 y.2.1 y.2.2,mu := fun _ => 0 }
  | _ => none
def annF2 (c:CodD) (f n:Nat) (d9 d10 d11:D) (emOf:Nat→List D):Option LoopAnn :=
  match d9,d10,d11 with
  | .vs _ x9 _ _ _,.int _ _,.bool r0 => some
    { slots := [118,11],keep := [9,10,116,117],α := Nat × Bool
      st := fun y => ([.int .i64 y.1,.bool y.2],⟨[(2,x9,.vec 1 n n emOf)],[]⟩)
      inv := fun y => y.1 ≤ n∧(y.2 = false→y.1 = 0∧r0 = false)∧(y.2 = true→r0 = true∧guardsB (empS c f 0 (c.funs.getD f default).code []) ((c.funs.getD f default).code.take y.1) = true)
      mu := fun y => n - y.1 }
  | _,_,_ => none
def vecOf (S:St):Nat→List D :=
  match S.objs with
  | (_,_,.vec _ _ _ f) :: _ => f
  | _ => fun _ => []
theorem gu_len {b:Bool} {p q:List UInt8} {e:Eff} (h:gu b (p,q) = some e) (hp:b = true→p.length ≤ 1000) (hq:q.length ≤ 1):e.1.length ≤ 1000∧e.2.length ≤ 1 := by
  unfold gu at h
  split at h
  · injection h with h; subst h; exact ⟨hp ‹_›,hq⟩
  · cases h
theorem some_len {p q:List UInt8} {e:Eff} (h:some (p,q) = some e) (hp:p.length ≤ 1000) (hq:q.length ≤ 1):e.1.length ≤ 1000∧e.2.length ≤ 1 := by
  injection h with h; subst h; exact ⟨hp,hq⟩
def LenOk (o:Option Eff):Prop := ∀ e,o = some e→e.1.length ≤ 1000∧e.2.length ≤ 1
theorem LenOk.ite {c:Prop} [Decidable c] {a b:Option Eff} (ha:LenOk a) (hb:LenOk b):LenOk (if c then a else b) := by
  split <;> assumption
theorem LenOk.none:LenOk none := fun _ h => nomatch h
theorem eff_len {c:CodD} {f:Nat} {x:I4}:∀ {e:Eff},effC c f x = some e→e.1.length ≤ 1000∧e.2.length ≤ 1 := by
  have:LenOk (effC c f x) := by
    unfold effC effS plainS
    repeat' (first
      | exact LenOk.none
      | refine fun e h => some_len h ?_ ?_
      | refine fun e h => gu_len h ?_ ?_
      | apply LenOk.ite)
    all_goals first
      | (simp; done)
      | (intro hb
         generalize (c.kers.getD x.b.toNat default).inputs = ki at *
         simp only [between,Bool.and_eq_true,decide_eq_true_eq] at hb
         rw [Lib.repeatL_length]
         simp only [List.length_singleton]
         omega)
  exact fun {e} h => this e h
theorem eff_guard {c:CodD} {f:Nat} {x:I4} {e:Eff} (h:effC c f x = some e) (ha:x.a = 24):0 ≤ x.b∧x.b < ((c.funs.getD f default).code.length:Int) := by
  unfold effC effS gu between at h
  generalize (c.funs.getD f default).code.length = n at *
  simp only [ha] at h
  simp at h
  omega
theorem newA_length (st p q:List UInt8):(newA st p q).length = st.length - p.length + q.length := by simp [newA]
theorem step_len {c:CodD} {f i:Nat} {x:I4} {st nx:List UInt8} (h:stepS c f i x st = some nx):nx.length ≤ st.length + 1 := by
  unfold stepS at h
  split at h
  · cases h
  · rename_i e he
    split at h
    · simp only [Option.some.injEq] at h
      subst h
      rw [newA_length]
      have := (eff_len he).2
      omega
    · cases h
theorem FunHead.next {c : CodD} {f i : Nat} {st : List UInt8} {deep : Nat} {em : List Bool} (h : FunHead c f i st deep em) (hn : (c.funs.getD f default).code.length ≤ 65536) (hlt : i < (c.funs.getD f default).code.length) {nx : List UInt8}
    (hs:stepS c f i ((c.funs.getD f default).code.getD i default) st = some nx):FunHead c f (i + 1) nx (max deep nx.length) (em.set i st.isEmpty) := by
  have hl := step_len hs
  have h1 := h.hs
  have hd := drop_step hlt
  refine ⟨by omega,by omega,by have := h.hd; omega,?_,by simpa using h.hl,?_⟩
  · have := h.hr
    rw [hd,runS,hs] at this
    exact this
  · have := h.he
    rw [hd,empS,hs] at this
    rw [← this]
    have hlm := h.hl
    rw [List.take_add_one,List.take_set_of_le (Nat.le_refl i)]
    simp [show i < em.length by omega]
theorem FunHead.fail {c : CodD} {f i : Nat} {st : List UInt8} {deep : Nat} {em : List Bool} (h : FunHead c f i st deep em) (hlt : i < (c.funs.getD f default).code.length)
    (hs:stepS c f i ((c.funs.getD f default).code.getD i default) st = none):runS c f 0 (c.funs.getD f default).code [] 0 = none := by
  have := h.hr
  rw [drop_step hlt,runS,hs] at this
  exact this.symm
theorem FunHead.done {c:CodD} {f i:Nat} {st:List UInt8} {deep:Nat} {em:List Bool} (h:FunHead c f i st deep em) (hge:¬ i < (c.funs.getD f default).code.length):MidInv c f deep true em := by
  have hi:i = (c.funs.getD f default).code.length := by have := h.hi; omega
  have h1 := h.hr
  have h2 := h.he
  rw [hi,List.drop_length] at h1 h2
  refine .inl ⟨rfl,?_,?_⟩
  · rw [← h1,runS]
  · rw [← h2,empS,List.append_nil,← h.hl,List.take_length]
theorem upd_row (em:List Bool) (i:Nat) (b:Bool) (hi:i < em.length) (j:Nat):updF (fun i => [D.bool (em.getD i false)]) i [D.bool b] j = [D.bool ((em.set i b).getD j false)] := by
  simp only [updF]
  split
  · rename_i e; subst e
    simp [List.getD_eq_getElem?_getD,hi]
  · rename_i e
    simp [List.getD_eq_getElem?_getD,List.getElem?_set_ne (Ne.symm e)]
theorem run_mem {c:CodD} {f:Nat}:∀ (l:List I4) (i:Nat) (st:List UInt8) (d r:Nat),runS c f i l st d = some r→∀ x ∈ l,∃ e,effC c f x = some e
  | [],_,_,_,_,_,x,hx => by cases hx
  | y :: l,i,st,d,r,h,x,hx => by
    rw [runS] at h
    split at h
    · cases h
    · rename_i nx hs
      rcases List.mem_cons.1 hx with rfl | hx
      · unfold stepS at hs
        split at hs
        · cases hs
        · exact ⟨_,‹_›⟩
      · exact run_mem l _ _ _ _ h x hx
theorem getD_mem {α:Type} [Inhabited α] {l:List α} {i:Nat} (h:i < l.length):l.getD i default ∈ l := by
  rw [List.getD_eq_getElem?_getD,List.getElem?_eq_getElem h]; exact List.getElem_mem h
theorem guard_one {x:I4} {b:Bool} (h:(!(true && (x.a != 24 || b))) = false):(decide (x.a ≠ 24) || b) = true∧(true && (x.a != 24 || b)) = true := by
  cases b <;> simp_all
theorem ops1 {a:Int}:(a = 25→true = (a == 25 || a == 24))∧(¬ a = 25→(a == 24) = (a == 25 || a == 24)) := ⟨fun h => by simp [h],fun h => by simp [h]⟩
theorem ops2 {p:Bool} {a:Int} {d:Bool}:(p = true→(a = 24→d = (p && false || a == 24 && d))∧(¬ a = 24→false = (p && false || a == 24 && d)))∧(p = false→(a = 24→d = (p && false || a == 24 && d))∧(¬ a = 24→false = (p && false || a == 24 && d))) :=
  ⟨fun _ => ⟨fun h => by simp [h],fun h => by simp [h]⟩,fun _ => ⟨fun h => by simp [h],fun h => by simp [h]⟩⟩
theorem ops3 {p:Bool} {a:Int} {d:Bool} {n:Nat}:(p = true→(0 < (n:Int)→true = (p && decide (0 < (n:Int)) || a == 24 && d))∧(¬ 0 < (n:Int)→(a = 24→d = (p && decide (0 < (n:Int)) || a == 24 && d))∧(¬ a = 24→false = (p && decide (0 < (n:Int)) || a == 24 && d))))∧(p = false→(a = 24→d = (p && decide (0 < (n:Int)) || a == 24 && d))∧(¬ a = 24→false = (p && decide (0 < (n:Int)) || a == 24 && d))) :=
  ⟨fun hp => ⟨fun h => by rw [hp,decide_eq_true h]; rfl,fun h => ⟨fun ha => by rw [decide_eq_false h]; simp [ha],fun ha => by rw [decide_eq_false h]; simp [ha]⟩⟩,fun hp => ⟨fun ha => by rw [hp]; simp [ha],fun ha => by rw [hp]; simp [ha]⟩⟩
theorem step_cond {c : CodD} {f i : Nat} {x : I4} {st : List UInt8} {y : Eff} (he : effC c f x = some y) (hok : okA st y.1 true = true) (hd : ¬ x.d < 0) {b : Bool} (hb : b = decide (newA st y.1 y.2 ≠ [])) :
    (((x.a == 25 || x.a == 24) && b || x.a == 24 && decide (x.b ≤ i)) = true→stepS c f i x st = none)∧(((x.a == 25 || x.a == 24) && b || x.a == 24 && decide (x.b ≤ i)) = false→stepS c f i x st = some (newA st y.1 y.2)) := by
  subst hb
  unfold stepS
  rw [he]
  simp only [hok]
  refine ⟨fun h => ?_,fun h => ?_⟩
  · rw [if_neg]
    rintro ⟨_,_,h1,h2⟩
    simp only [Bool.or_eq_true,Bool.and_eq_true,beq_iff_eq,decide_eq_true_eq] at h
    rcases h with h | h
    · exact h1 h
    · exact h2 h
  · simp only [Bool.or_eq_false_iff] at h
    rw [if_pos]
    refine ⟨trivial,hd,fun h1 => ?_,fun h2 => ?_⟩
    · have := h.1
      rw [Bool.and_eq_false_iff] at this
      rcases this with h3 | h3
      · rcases h1.1 with h4 | h4 <;> simp [h4] at h3
      · simp [h1.2] at h3
    · have := h.2
      simp [h2.1,h2.2] at this
theorem lenB {l:List UInt8}:decide (0 < (l.length:Int)) = decide (l ≠ []) := by
  cases l with
  | nil => rfl
  | cons a l => simp
theorem maxI (a b:Nat):(if (a:Int) < (b:Int) then (b:Int) else (a:Int)) = ((max a b:Nat):Int) := by
  split <;> omega
theorem maxI0 (a:Nat):(if (a:Int) < 0 then (0:Int) else (a:Int)) = (a:Int) := by
  split <;> omega
noncomputable def E39 (c:CodD) (f:Nat):Senv := { EF c f with
  mg := fun id => match id with
    | 13 => 2
    | _ => 0
  cut := fun id env _ => match id with
    | 1 => cutF c f (Ab.look env 2)
    | _ => none
  ann2 := fun b _ S => match b with
    | 0 => annF1 c f (c.funs.getD f default).code.length S.objs
    | _ => none
  ann := fun b env S => match b with
    | 2 => annF2 c f (c.funs.getD f default).code.length (Ab.look env 9) (Ab.look env 10) (Ab.look env 11) (vecOf S)
    | _ => none
  bcut := fun b _ S => match b with
    | 0 => annB c f (c.funs.getD f default).code.length S.objs
    | _ => none }
noncomputable section
def bc7q0 (p0:CodD) (p1:Nat):FnD := GF p0 p1
def bc7q1 (p0:FnD) (p1:CodD) (p2:Nat) (p3:O4):Prop := p0 = bc7q0 p1 p2∧CB p1 p3
def bc7q2 (p0:Nat):Nat := Int.toNat (↑p0:Int)
def bc7q3 (p0:CodD) (p1:Nat):FnD := GF p0 (bc7q2 p1)
def bc7q4 (p0:FnD):Int := FnD.slots p0
def bc7q5 (p0:CodD) (p1:Nat):List I4 := FnD.code (bc7q3 p0 p1)
def bc7q6 (p0:CodD) (p1:Nat):Nat := LN (bc7q5 p0 p1)
def bc7q7 (p0:FnD):List I4 := FnD.code p0
def bc7q8 (p0:FnD):Nat := LN (bc7q7 p0)
def bc7q9:I4 := D4
def bc7q10 (p0:CodD) (p1 p2:Nat):I4 := List.getD (bc7q5 p0 p1) p2 bc7q9
def bc7q11 (p0:FnD) (p1:Nat):I4 := List.getD (bc7q7 p0) p1 bc7q9
def bc7q12 (p0:FnD) (p1:Nat):List D := (R4 (bc7q11 p0 p1))
def bc7q13 (p0:CodD):D := D.sl N4 (LN (CodD.consts p0)) (fun (i:Nat) => Arr.row (GC p0 i)) Mode.any
def bc7q14 (p0:CodD) (p1:Nat):List I4 := FnD.code (bc7q0 p0 p1)
def bc7q15 (p0:CodD) (p1:Nat):Nat := LN (bc7q14 p0 p1)
def bc7q16 (p0:CodD) (p1 p2:Nat):I4 := List.getD (bc7q14 p0 p1) p2 bc7q9
def bc7q17 (p0:CodD):D := D.sl N2 (LN (CodD.funs p0)) (fun (i:Nat) => [ZI (FnD.slots (bc7q0 p0 i)),D.sl N4 (bc7q15 p0 i) (fun (i_1:Nat) => (R4 (bc7q16 p0 i i_1))) Mode.any]) Mode.any
def bc7q18 (p0:CodD):D := D.sl N4 (LN (CodD.kers p0)) (fun (i:Nat) => KeD.row (GK p0 i)) Mode.any
def bc7q19 (p0:CodD):D := D.sl N2 (LN (CodD.lanes p0)) (fun (i:Nat) => LaD.row (GL p0 i)) Mode.any
def bc7q20 (p0:FnD):Bool := bif decide (Z0 ≤ bc7q4 p0) then decide (bc7q4 p0 ≤ (1000:Int)) else false
def bc7q21 (p0:CodD) (p1:Nat):Prop := True∧∃ (_y:Unit),True∧(Z0 = (NI (Option.getD (funS p0 p1) N0))∧false = Option.isSome (funS p0 p1)∧True)∧True∧True
def bc7q22 (p0:FnD):Int := (NI (bc7q8 p0))
def bc7q23 (p0:FnD):Int := IntKind.wrap IntKind.i64 (bc7q22 p0 - Z1)
def bc7q24 (p0:CodD) (p1 p2 p3:Nat) (p4:List Bool):Prop := FunHead p0 p1 p2 [] p3 p4
def bc7q25:Prop := SM N0∧(∀ (i:Nat),i < N0→eqOf (List D) [] [])∧True
def bc7q26 (p0:FnD):Nat := Int.toNat (bc7q22 p0)
def bc7q27 (p0:FnD):D := D.sl N4 (bc7q8 p0) (fun (i:Nat) => bc7q12 p0 i) Mode.any
def bc7q28 (p0:Nat) (p1:FnD) (p2:Nat) (p3 p4 p5 p6:D):List (Nat × Nat × AObj) := [(N1,p0,AObj.cells [ZI (bc7q4 p1),bc7q27 p1]),(N0,p2,AObj.cells [p3,p4,p5,p6])]
def bc7q29 (p0:Nat) (p1:FnD) (p2 p3:Nat) (p4 p5 p6 p7:D):St := St.mk ((N2,p0,AObj.vec N1 (bc7q26 p1) (bc7q26 p1) fun (_x:Nat) => [D.bool false]) :: bc7q28 p2 p1 p3 p4 p5 p6 p7) []
def bc7q30 (p0:List Bool) (p1:Nat):List D := [D.bool (List.getD p0 p1 false)]
def bc7q31 (p0:Nat) (p1:CodD) (p2:Nat) (p3:List Bool) (p4:Nat) (p5:FnD) (p6:Nat) (p7 p8 p9 p10:D):List (Nat × Nat × AObj) := (N2,p0,AObj.vec N1 (bc7q15 p1 p2) (bc7q15 p1 p2) fun (i:Nat) => bc7q30 p3 i) :: bc7q28 p4 p5 p6 p7 p8 p9 p10
def bc7q32 (p0:Nat) (p1:CodD) (p2:Nat) (p3:List Bool) (p4:Nat) (p5:FnD) (p6:Nat) (p7 p8 p9 p10:D):St := St.mk (bc7q31 p0 p1 p2 p3 p4 p5 p6 p7 p8 p9 p10) []
def bc7q33 (p0:CodD) (p1 p2:Nat) (p3:List UInt8) (p4:Nat) (p5:List Bool) (p6:Nat):Prop := FunHead p0 p1 p2 p3 p4 p5∧LN p3 ≤ p6
def bc7q34:D := D.sl N1 N0 (fun (_x:Nat) => []) Mode.nil
def bc7q35 (p0:List UInt8) (p1:Nat):List D := [ZB (BI p0 p1)]
def bc7q36 (p0:Nat) (p1:List UInt8) (p2:Nat):Nat × AObj := (p0,AObj.vec N1 (LN p1) p2 fun (i:Nat) => bc7q35 p1 i)
def bc7q37 (p0:Nat) (p1:FnD):Bool := decide ((↑p0:Int) < bc7q22 p1)
def bc7q38 (p0:FnD):Int := (NI (bc7q26 p0))
def bc7q39 (p0:FnD) (p1:Nat):I4 := List.getD (bc7q7 p0) (bc7q2 p1) bc7q9
def bc7q40 (p0:FnD) (p1:Nat):Int := I4.a (bc7q39 p0 p1)
def bc7q41 (p0:FnD) (p1:Nat):Int := I4.b (bc7q39 p0 p1)
def bc7q42 (p0:FnD) (p1:Nat):Int := I4.c (bc7q39 p0 p1)
def bc7q43 (p0:FnD) (p1:Nat):Int := I4.d (bc7q39 p0 p1)
def bc7q44 (p0:FnD) (p1:Nat):I4 := I4.mk (bc7q40 p0 p1) (bc7q41 p0 p1) (bc7q42 p0 p1) (bc7q43 p0 p1)
def bc7q45 (p0:D) (p1:CodD) (p2 p3 p4:D) (p5:Nat) (p6:FnD) (p7:Nat):Prop := ((weakD p0 (bc7q13 p1)∧weakD p2 (bc7q17 p1)∧weakD p3 (bc7q18 p1)∧weakD p4 (bc7q19 p1)∧True)∧SM (↑p5:Int)∧True)∧I4.ok (bc7q44 p6 p7)
def bc7q46 (p0:CodD) (p1:Nat) (p2:FnD) (p3:Nat):Option Eff := effC p0 p1 (bc7q44 p2 p3)
def bc7q47 (p0:CodD) (p1:Nat) (p2:FnD) (p3:Nat) (p4:Eff):Prop := offQ (bc7q46 p0 p1 p2 p3) p4
def bc7q48 (p0:CodD) (p1:Nat) (p2:FnD) (p3:Nat):Bool := Option.isSome (bc7q46 p0 p1 p2 p3)
def bc7q49 (p0 p1:List UInt8) (p2:CodD) (p3:Nat) (p4:FnD) (p5:Nat):Bool := p0 == [] && (p1 == [] && (bc7q48 p2 p3 p4 p5 == false && true))
def bc7q50 (p0:Nat) (p1:FnD):D := D.vs N2 p0 (bc7q26 p1) (bc7q26 p1) N1
def bc7q51 (p0:Nat) (p1:FnD):Prop := SM (bc7q50 p0 p1)
def bc7q52 (p0 p1:Nat) (p2:FnD):Prop := SM (D.ref N1 p0 N0)∧bc7q51 p1 p2∧True
def bc7q53 (p0:CodD) (p1:Nat):Prop := SM (bc7q15 p0 p1)
def bc7q54 (p0:Nat) (p1:CodD) (p2:Nat):Prop := p0 < bc7q15 p1 p2
def bc7q55 (p0:Nat) (p1:FnD):Prop := SM p0∧(SM (bc7q4 p1)∧(SM (bc7q8 p1)∧(∀ (i:Nat),i < bc7q8 p1→SM (bc7q12 p1 i))∧True)∧True)∧True
def bc7q56 (p0 p1:Nat) (p2:FnD) (p3:CodD) (p4 p5:Nat) (p6:List Bool) (p7:Nat):Prop := bc7q52 p0 p1 p2∧∃ (x:Nat × Bool × List Bool),MidInv p3 p4 x.1 x.2.1 x.2.2∧((↑p5:Int) = (NI x.1)∧false = x.2.1∧True)∧(SM p1∧(bc7q53 p3 p4∧bc7q53 p3 p4∧∀ (i:Nat),bc7q54 i p3 p4→updF (fun (i:Nat) => bc7q30 p6 i) (bc7q2 p7) [D.bool true] i = bc7q30 x.2.2 i)∧bc7q55 p0 p2)∧True
def bc7q57 (p0:FnD) (p1:Nat):Bool := decide (bc7q43 p0 p1 < Z0)
def bc7q58 (p0:CodD) (p1:Nat) (p2:FnD) (p3:Nat):Prop := bc7q48 p0 p1 p2 p3 = true
def bc7q59 (p0:FnD) (p1:Nat):Bool := bc7q40 p0 p1 == (25:Int)
def bc7q60 (p0:FnD) (p1:Nat):Bool := bc7q40 p0 p1 == (24:Int)
def bc7q61 (p0:FnD) (p1:Nat):Bool := bif bc7q59 p0 p1 then true else bc7q60 p0 p1
def bc7q62 (p0:Nat) (p1:FnD) (p2:Nat):Prop := SM p0∧ifB (bc7q59 p1 p2) (true = bc7q61 p1 p2∧True) (SM p0∧bc7q60 p1 p2 = bc7q61 p1 p2∧True)
def bc7q63 (p0:FnD) (p1:Nat):Bool := decide (bc7q41 p0 p1 ≤ (↑p1:Int))
def bc7q64 (p0:FnD) (p1:Nat):Bool := bif bc7q60 p0 p1 then bc7q63 p0 p1 else false
def bc7q65 (p0:FnD) (p1:Nat):Bool := bif bif bc7q61 p0 p1 then false else false then true else bc7q64 p0 p1
def bc7q66 (p0:Nat) (p1:FnD) (p2:Nat):Prop := SM p0∧ifB (bc7q60 p1 p2) (SM p0∧bc7q63 p1 p2 = bc7q65 p1 p2∧True) (false = bc7q65 p1 p2∧True)
def bc7q67 (p0:FnD):Prop := SM (ZI (bc7q22 p0))
def bc7q68 (p0:FnD):Prop := SM (bc7q27 p0)∧bc7q67 p0∧True
def bc7q69 (p0 p1 p2:Nat) (p3:FnD) (p4:Nat):Prop := SM (ZI (↑p0:Int))∧SM (D.ref N0 p1 N0)∧SM (D.ref N1 p2 N0)∧bc7q67 p3∧bc7q51 p4 p3∧SM (D.bool true)∧bc7q68 p3
def bc7q70 (p0:CodD) (p1 p2:Nat):Nat := bc7q15 p0 p1 - p2
def bc7q71 (p0:CodD) (p1 p2 p3:Nat):Prop := bc7q70 p0 p1 p2 < bc7q70 p0 p1 p3
def bc7q72 (p0 p1:Nat):Prop := IntKind.wrap IntKind.i64 ((↑p0:Int) + Z1) = (↑p1:Int)
def bc7q73 (p0:Nat) (p1 p2:List UInt8) (p3:CodD) (p4:Nat) (p5:FnD) (p6:Nat):Nat × AObj := (p0,AObj.cells [D.str p1,D.str p2,D.bool (bc7q48 p3 p4 p5 p6)])
def bc7q74 (p0:Nat) (p1:FnD) (p2:Nat):Nat × AObj := (p0,AObj.cells [ZI (bc7q40 p1 p2),ZI (bc7q41 p1 p2),ZI (bc7q42 p1 p2),ZI (bc7q43 p1 p2)])
def bc7q75 (p0:FnD) (p1:Nat) (p2:List UInt8):Bool := bif bif bc7q61 p0 p1 then decide (Z0 < (LI p2)) else false then true else bc7q64 p0 p1
def bc7q76 (p0:Nat) (p1:FnD) (p2:Nat) (p3:List UInt8):Prop := SM p0∧ifB (bc7q60 p1 p2) (SM p0∧bc7q63 p1 p2 = bc7q75 p1 p2 p3∧True) (false = bc7q75 p1 p2 p3∧True)
def bc7q77 (p0 p1:Nat) (p2:FnD) (p3:CodD) (p4 p5:Nat) (p6:List Bool):Prop := bc7q52 p0 p1 p2∧∃ (x:Nat × Bool × List Bool),MidInv p3 p4 x.1 x.2.1 x.2.2∧((↑p5:Int) = (NI x.1)∧true = x.2.1∧True)∧(SM p1∧(bc7q53 p3 p4∧bc7q53 p3 p4∧∀ (i:Nat),bc7q54 i p3 p4→bc7q30 p6 i = bc7q30 x.2.2 i)∧bc7q55 p0 p2)∧True
def bc7q78 (p0 p1:Nat) (p2:FnD) (p3:CodD) (p4 p5:Nat) (p6:List Bool) (p7:Nat) (p8:List UInt8):Prop := bc7q52 p0 p1 p2∧∃ (x:Nat × Bool × List Bool),MidInv p3 p4 x.1 x.2.1 x.2.2∧((↑p5:Int) = (NI x.1)∧false = x.2.1∧True)∧(SM p1∧(bc7q53 p3 p4∧bc7q53 p3 p4∧∀ (i:Nat),bc7q54 i p3 p4→updF (fun (i:Nat) => bc7q30 p6 i) (bc7q2 p7) [D.bool ((LI p8) == Z0)] i = bc7q30 x.2.2 i)∧bc7q55 p0 p2)∧True
def bc7q79 (p0 p1 p2:List UInt8):Nat := LN (newA p0 p1 p2)
def bc7q80 (p0:FnD) (p1:Nat) (p2 p3 p4:List UInt8):Bool := bif bif bc7q61 p0 p1 then decide (Z0 < (NI (bc7q79 p2 p3 p4))) else false then true else bc7q64 p0 p1
def bc7q81 (p0:Nat) (p1:FnD) (p2:Nat) (p3 p4 p5:List UInt8):Prop := SM p0∧ifB (bc7q60 p1 p2) (SM p0∧bc7q63 p1 p2 = bc7q80 p1 p2 p3 p4 p5∧True) (false = bc7q80 p1 p2 p3 p4 p5∧True)
def bc7q82 (p0:Nat) (p1 p2 p3:List UInt8) (p4:Nat):Prop := (if (↑p0:Int) < (NI (bc7q79 p1 p2 p3)) then (NI (bc7q79 p1 p2 p3)) else (↑p0:Int)) = (↑p4:Int)∧True
def bc7q83 (p0:Nat) (p1:CodD) (p2:Nat) (p3 p4:Bool):Prop := p0 ≤ bc7q15 p1 p2∧(p3 = false→p0 = N0∧p4 = false)∧(p3 = true→p4 = true∧guardsB (empS p1 p2 N0 (bc7q14 p1 p2) []) (List.take p0 (bc7q14 p1 p2)) = true)
def bc7q84 (p0:Nat) (p1:CodD) (p2:Nat) (p3:List Bool):Prop := (SM p0∧(bc7q53 p1 p2∧bc7q53 p1 p2∧∀ (i:Nat),bc7q54 i p1 p2→SM (bc7q30 p3 i))∧True)∧True
def bc7q85 (p0:FnD) (p1:Nat):Bool := bc7q40 p0 p1 != (24:Int)
def bc7q86 (p0:FnD) (p1:Nat):Nat := Int.toNat (bc7q41 p0 p1)
def bc7q87 (p0:List Bool) (p1:FnD) (p2:Nat):Bool := List.getD p0 (bc7q86 p1 p2) false
def bc7q88 (p0:Bool) (p1:FnD) (p2:Nat) (p3:List Bool):Bool := bif p0 then bif bc7q85 p1 p2 then true else bc7q87 p3 p1 p2 else false
end
set_option maxHeartbeats 4000000 in
theorem fun_ok (c:CodD) (f:Nat) (hf:f < c.funs.length) (hc:c.ok) (hn:(c.funs.getD f default).code.length ≤ 65536):ACalls Try.prog 39 [.agg c.row,.int .i64 f] ⟨[],[]⟩ (SpecR (sC [.agg c.row,.int .i64 f] (funD (funS c f))) ()) := by
  refine con_of (A := sC _ _) (x := ()) (E := E39 c f) ⟨tab_ok,conF_ok hf hc,mix,inlF_ok (conF_ok hf hc),eqs_ok⟩ Try.func39 rfl (by kernel_rfl) rfl (by simp [sC,E39,EF,EC,E0]) ?_
  refine vc_eq (T :=
    ∀ (x:Nat),True→(SM x∧side (Z0 ≤ (↑f:Int)∧(↑f:Int) < (LI (CodD.funs c))) (∀ (x_1:Nat),x ≠ x_1∧True→SM x_1∧∃ (x_2:Nat × FnD × O4),bc7q1 x_2.2.1 c f x_2.2.2∧(x_1 = x_2.1∧True)∧(x_1 = x_2.1∧(FnD.slots (bc7q3 c f) = bc7q4 x_2.2.1∧(bc7q6 c f = bc7q8 x_2.2.1∧(∀ (i:Nat),i < bc7q6 c f→(R4 (bc7q10 c f i)) = bc7q12 x_2.2.1 i)∧True)∧True)∧SM x∧(weakD (bc7q13 c) x_2.2.2.1∧weakD (bc7q17 c) x_2.2.2.2.1∧weakD (bc7q18 c) x_2.2.2.2.2.1∧weakD (bc7q19 c) x_2.2.2.2.2.2∧True)∧True)∧True))∧∀ (x_1:Nat × FnD × O4),bc7q1 x_1.2.1 c f x_1.2.2→SM x_1.1∧SM x_1.1∧ifB (decide (Z0 ≤ bc7q4 x_1.2.1)) (decide (bc7q4 x_1.2.1 ≤ (1000:Int)) = bc7q20 x_1.2.1∧True) (false = bc7q20 x_1.2.1∧True)∧True∧ifB (!bc7q20 x_1.2.1) (bc7q21 c f) (ifB (bc7q22 x_1.2.1 == Z0) (bc7q21 c f) (SM x_1.1∧side (Z0 ≤ bc7q23 x_1.2.1∧bc7q23 x_1.2.1 < bc7q22 x_1.2.1) (ifB (I4.a (List.getD (bc7q7 x_1.2.1) (Int.toNat (bc7q23 x_1.2.1)) bc7q9) != (25:Int)) (bc7q21 c f) (side (Z0 ≤ bc7q22 x_1.2.1∧bc7q22 x_1.2.1 ≤ bc7q22 x_1.2.1∧Z1 * bc7q22 x_1.2.1 ≤ (281474976710656:Int)∧bc7q22 x_1.2.1 ≤ (9223372036854775807:Int)) (∀ (x_2:Nat),x_1.1 ≠ x_2∧x ≠ x_2∧True→SM x_1.1∧(((∃ (x_3:Nat × Nat × List Bool),bc7q24 c f x_3.1 x_3.2.1 x_3.2.2∧True∧(Z0 = (NI x_3.1)∧bc7q25∧Z0 = (NI x_3.2.1)∧True)∧StTo (bc7q29 x_2 x_1.2.1 x_1.1 x x_1.2.2.1 x_1.2.2.2.1 x_1.2.2.2.2.1 x_1.2.2.2.2.2) (bc7q32 x_2 c f x_3.2.2 x_1.1 x_1.2.1 x x_1.2.2.1 x_1.2.2.2.1 x_1.2.2.2.2.1 x_1.2.2.2.2.2))∨∃ (x_3:(Nat × Nat × List Bool) × List UInt8 × Nat × Nat),bc7q33 c f x_3.1.1 x_3.2.1 x_3.1.2.1 x_3.1.2.2 x_3.2.2.2∧True∧(Z0 = (NI x_3.1.1)∧bc7q34 = D.vs (3:Nat) x_3.2.2.1 (LN x_3.2.1) x_3.2.2.2 N1∧Z0 = (NI x_3.1.2.1)∧True)∧StTo (bc7q29 x_2 x_1.2.1 x_1.1 x x_1.2.2.1 x_1.2.2.2.1 x_1.2.2.2.2.1 x_1.2.2.2.2.2) (St.mk (((3:Nat),bc7q36 x_3.2.2.1 x_3.2.1 x_3.2.2.2) :: bc7q31 x_2 c f x_3.1.2.2 x_1.1 x_1.2.1 x x_1.2.2.1 x_1.2.2.2.1 x_1.2.2.2.2.1 x_1.2.2.2.2.2) []))∧(∀ (x_3:Nat × Nat × List Bool),bc7q24 c f x_3.1 x_3.2.1 x_3.2.2→ifB (bc7q37 x_3.1 x_1.2.1) (side (Z0 ≤ (NI x_3.1)∧(NI x_3.1) < bc7q22 x_1.2.1) (∀ (x_4:Nat),x_2 ≠ x_4∧x_1.1 ≠ x_4∧x ≠ x_4∧True→SM x_4∧side (Z0 ≤ (NI x_3.1)∧(NI x_3.1) < bc7q38 x_1.2.1) (SM x_2∧side (bc7q2 x_3.1 < bc7q15 c f) (SM x∧SM x_4∧bc7q45 x_1.2.2.1 c x_1.2.2.2.1 x_1.2.2.2.2.1 x_1.2.2.2.2.2 f x_1.2.1 x_3.1∧∀ (y:Eff),bc7q47 c f x_1.2.1 x_3.1 y→∀ (x_5:Nat),x_4 ≠ x_5∧x_2 ≠ x_5∧x_1.1 ≠ x_5∧x ≠ x_5∧True→SM x_5∧SM x_5∧ifB (bc7q49 y.1 y.2 c f x_1.2.1 x_3.1) (bc7q56 x_1.1 x_2 x_1.2.1 c f x_3.2.1 x_3.2.2 x_3.1) (SM x_4∧ifB (bc7q57 x_1.2.1 x_3.1) (bc7q56 x_1.1 x_2 x_1.2.1 c f x_3.2.1 x_3.2.2 x_3.1) (SM x_5∧(bc7q58 c f x_1.2.1 x_3.1→LN y.2 ≤ (1000000:Nat)∧LN y.1 ≤ (1000000:Nat))∧ifB (okA [] y.1 (bc7q48 c f x_1.2.1 x_3.1)) (ifB (List.isEmpty y.2) (bc7q62 x_4 x_1.2.1 x_3.1∧ifB (bc7q61 x_1.2.1 x_3.1) (bc7q66 x_4 x_1.2.1 x_3.1) (bc7q66 x_4 x_1.2.1 x_3.1)∧ifB (bc7q65 x_1.2.1 x_3.1) (bc7q56 x_1.1 x_2 x_1.2.1 c f x_3.2.1 x_3.2.2 x_3.1) (bc7q69 f x x_1.1 x_1.2.1 x_2∧((∃ (x_6:Nat × Nat × List Bool),bc7q24 c f x_6.1 x_6.2.1 x_6.2.2∧bc7q71 c f x_6.1 x_3.1∧(bc7q72 x_3.1 x_6.1∧bc7q25∧(if (NI x_3.2.1) < Z0 then Z0 else (NI x_3.2.1)) = (NI x_6.2.1)∧True)∧StTo (St.mk ((N4,bc7q73 x_5 y.1 y.2 c f x_1.2.1 x_3.1) :: ((3:Nat),bc7q74 x_4 x_1.2.1 x_3.1) :: (N2,x_2,AObj.vec N1 (bc7q15 c f) (bc7q15 c f) (updF (fun (i:Nat) => bc7q30 x_3.2.2 i) (bc7q2 x_3.1) [D.bool true])) :: bc7q28 x_1.1 x_1.2.1 x x_1.2.2.1 x_1.2.2.2.1 x_1.2.2.2.2.1 x_1.2.2.2.2.2) []) (bc7q32 x_2 c f x_6.2.2 x_1.1 x_1.2.1 x x_1.2.2.1 x_1.2.2.2.1 x_1.2.2.2.2.1 x_1.2.2.2.2.2))∨∃ (x_6:(Nat × Nat × List Bool) × List UInt8 × Nat × Nat),bc7q33 c f x_6.1.1 x_6.2.1 x_6.1.2.1 x_6.1.2.2 x_6.2.2.2∧bc7q71 c f x_6.1.1 x_3.1∧(bc7q72 x_3.1 x_6.1.1∧bc7q34 = D.vs (3:Nat) x_6.2.2.1 (LN x_6.2.1) x_6.2.2.2 N1∧(if (NI x_3.2.1) < Z0 then Z0 else (NI x_3.2.1)) = (NI x_6.1.2.1)∧True)∧StTo (St.mk ((N4,bc7q73 x_5 y.1 y.2 c f x_1.2.1 x_3.1) :: ((3:Nat),bc7q74 x_4 x_1.2.1 x_3.1) :: (N2,x_2,AObj.vec N1 (bc7q15 c f) (bc7q15 c f) (updF (fun (i:Nat) => bc7q30 x_3.2.2 i) (bc7q2 x_3.1) [D.bool true])) :: bc7q28 x_1.1 x_1.2.1 x x_1.2.2.1 x_1.2.2.2.1 x_1.2.2.2.2.1 x_1.2.2.2.2.2) []) (St.mk (((3:Nat),bc7q36 x_6.2.2.1 x_6.2.1 x_6.2.2.2) :: bc7q31 x_2 c f x_6.1.2.2 x_1.1 x_1.2.1 x x_1.2.2.1 x_1.2.2.2.1 x_1.2.2.2.2.1 x_1.2.2.2.2.2) [])))) (∀ (x_6 cap:Nat),LN y.2 ≤ cap→bc7q62 x_4 x_1.2.1 x_3.1∧ifB (bc7q61 x_1.2.1 x_3.1) (ifB (decide (Z0 < (LI y.2))) (true = bc7q75 x_1.2.1 x_3.1 y.2∧True) (bc7q76 x_4 x_1.2.1 x_3.1 y.2)) (bc7q76 x_4 x_1.2.1 x_3.1 y.2)∧ifB (bc7q75 x_1.2.1 x_3.1 y.2) (bc7q56 x_1.1 x_2 x_1.2.1 c f x_3.2.1 x_3.2.2 x_3.1) (bc7q69 f x x_1.1 x_1.2.1 x_2∧((∃ (x_7:Nat × Nat × List Bool),bc7q24 c f x_7.1 x_7.2.1 x_7.2.2∧bc7q71 c f x_7.1 x_3.1∧(bc7q72 x_3.1 x_7.1∧D.vs (5:Nat) x_6 (LN y.2) cap N1 = bc7q34∧(if (NI x_3.2.1) < (LI y.2) then (LI y.2) else (NI x_3.2.1)) = (NI x_7.2.1)∧True)∧StTo (St.mk (((5:Nat),bc7q36 x_6 y.2 cap) :: (N4,bc7q73 x_5 y.1 y.2 c f x_1.2.1 x_3.1) :: ((3:Nat),bc7q74 x_4 x_1.2.1 x_3.1) :: (N2,x_2,AObj.vec N1 (bc7q15 c f) (bc7q15 c f) (updF (fun (i:Nat) => bc7q30 x_3.2.2 i) (bc7q2 x_3.1) [D.bool true])) :: bc7q28 x_1.1 x_1.2.1 x x_1.2.2.1 x_1.2.2.2.1 x_1.2.2.2.2.1 x_1.2.2.2.2.2) []) (bc7q32 x_2 c f x_7.2.2 x_1.1 x_1.2.1 x x_1.2.2.1 x_1.2.2.2.1 x_1.2.2.2.2.1 x_1.2.2.2.2.2))∨∃ (x_7:(Nat × Nat × List Bool) × List UInt8 × Nat × Nat),bc7q33 c f x_7.1.1 x_7.2.1 x_7.1.2.1 x_7.1.2.2 x_7.2.2.2∧bc7q71 c f x_7.1.1 x_3.1∧(bc7q72 x_3.1 x_7.1.1∧(x_6 = x_7.2.2.1∧LN y.2 = LN x_7.2.1∧cap = x_7.2.2.2)∧(if (NI x_3.2.1) < (LI y.2) then (LI y.2) else (NI x_3.2.1)) = (NI x_7.1.2.1)∧True)∧StTo (St.mk (((5:Nat),bc7q36 x_6 y.2 cap) :: (N4,bc7q73 x_5 y.1 y.2 c f x_1.2.1 x_3.1) :: ((3:Nat),bc7q74 x_4 x_1.2.1 x_3.1) :: (N2,x_2,AObj.vec N1 (bc7q15 c f) (bc7q15 c f) (updF (fun (i:Nat) => bc7q30 x_3.2.2 i) (bc7q2 x_3.1) [D.bool true])) :: bc7q28 x_1.1 x_1.2.1 x x_1.2.2.1 x_1.2.2.2.1 x_1.2.2.2.2.1 x_1.2.2.2.2.2) []) (St.mk (((3:Nat),bc7q36 x_7.2.2.1 x_7.2.1 x_7.2.2.2) :: bc7q31 x_2 c f x_7.1.2.2 x_1.1 x_1.2.1 x x_1.2.2.1 x_1.2.2.2.1 x_1.2.2.2.2.1 x_1.2.2.2.2.2) []))))) (bc7q62 x_4 x_1.2.1 x_3.1∧(SM true∧True)∧bc7q56 x_1.1 x_2 x_1.2.1 c f x_3.2.1 x_3.2.2 x_3.1))))))) (bc7q77 x_1.1 x_2 x_1.2.1 c f x_3.2.1 x_3.2.2))∧∀ (x_3:(Nat × Nat × List Bool) × List UInt8 × Nat × Nat),bc7q33 c f x_3.1.1 x_3.2.1 x_3.1.2.1 x_3.1.2.2 x_3.2.2.2→ifB (bc7q37 x_3.1.1 x_1.2.1) (side (Z0 ≤ (NI x_3.1.1)∧(NI x_3.1.1) < bc7q22 x_1.2.1) (∀ (x_4:Nat),x_3.2.2.1 ≠ x_4∧x_2 ≠ x_4∧x_1.1 ≠ x_4∧x ≠ x_4∧True→SM x_4∧side (Z0 ≤ (NI x_3.1.1)∧(NI x_3.1.1) < bc7q38 x_1.2.1) (SM x_2∧side (bc7q2 x_3.1.1 < bc7q15 c f) (SM x∧SM x_4∧bc7q45 x_1.2.2.1 c x_1.2.2.2.1 x_1.2.2.2.2.1 x_1.2.2.2.2.2 f x_1.2.1 x_3.1.1∧∀ (y:Eff),bc7q47 c f x_1.2.1 x_3.1.1 y→∀ (x_5:Nat),x_4 ≠ x_5∧x_3.2.2.1 ≠ x_5∧x_2 ≠ x_5∧x_1.1 ≠ x_5∧x ≠ x_5∧True→SM x_5∧SM x_5∧ifB (bc7q49 y.1 y.2 c f x_1.2.1 x_3.1.1) (bc7q78 x_1.1 x_2 x_1.2.1 c f x_3.1.2.1 x_3.1.2.2 x_3.1.1 x_3.2.1) (SM x_4∧ifB (bc7q57 x_1.2.1 x_3.1.1) (bc7q78 x_1.1 x_2 x_1.2.1 c f x_3.1.2.1 x_3.1.2.2 x_3.1.1 x_3.2.1) (SM x_5∧∃ (st:List UInt8),(LN st = LN x_3.2.1∧LN x_3.2.1 ≤ x_3.2.2.2∧(bc7q58 c f x_1.2.1 x_3.1.1→LN st + LN y.2 ≤ (1000000:Nat)∧LN y.1 ≤ (1000000:Nat))∧(SM x_3.2.2.1∧(SM (LN x_3.2.1)∧SM x_3.2.2.2∧∀ (i:Nat),i < LN x_3.2.1→bc7q35 x_3.2.1 i = bc7q35 st i)∧True)∧True)∧ifB (okA st y.1 (bc7q48 c f x_1.2.1 x_3.1.1)) (∀ (x' cap':Nat),bc7q79 st y.1 y.2 ≤ cap'→bc7q62 x_4 x_1.2.1 x_3.1.1∧ifB (bc7q61 x_1.2.1 x_3.1.1) (ifB (decide (Z0 < (NI (bc7q79 st y.1 y.2)))) (true = bc7q80 x_1.2.1 x_3.1.1 st y.1 y.2∧True) (bc7q81 x_4 x_1.2.1 x_3.1.1 st y.1 y.2)) (bc7q81 x_4 x_1.2.1 x_3.1.1 st y.1 y.2)∧ifB (bc7q80 x_1.2.1 x_3.1.1 st y.1 y.2) (bc7q78 x_1.1 x_2 x_1.2.1 c f x_3.1.2.1 x_3.1.2.2 x_3.1.1 x_3.2.1) (bc7q69 f x x_1.1 x_1.2.1 x_2∧((∃ (x_6:Nat × Nat × List Bool),bc7q24 c f x_6.1 x_6.2.1 x_6.2.2∧bc7q71 c f x_6.1 x_3.1.1∧(bc7q72 x_3.1.1 x_6.1∧D.vs (3:Nat) x' (bc7q79 st y.1 y.2) cap' N1 = bc7q34∧bc7q82 x_3.1.2.1 st y.1 y.2 x_6.2.1)∧StTo (St.mk (((3:Nat),x',AObj.vec N1 (bc7q79 st y.1 y.2) cap' fun (i:Nat) => [ZB (BI (newA st y.1 y.2) i)]) :: ((5:Nat),bc7q73 x_5 y.1 y.2 c f x_1.2.1 x_3.1.1) :: (N4,bc7q74 x_4 x_1.2.1 x_3.1.1) :: (N2,x_2,AObj.vec N1 (bc7q15 c f) (bc7q15 c f) (updF (fun (i:Nat) => bc7q30 x_3.1.2.2 i) (bc7q2 x_3.1.1) [D.bool ((LI x_3.2.1) == Z0)])) :: bc7q28 x_1.1 x_1.2.1 x x_1.2.2.1 x_1.2.2.2.1 x_1.2.2.2.2.1 x_1.2.2.2.2.2) []) (bc7q32 x_2 c f x_6.2.2 x_1.1 x_1.2.1 x x_1.2.2.1 x_1.2.2.2.1 x_1.2.2.2.2.1 x_1.2.2.2.2.2))∨∃ (x_6:(Nat × Nat × List Bool) × List UInt8 × Nat × Nat),bc7q33 c f x_6.1.1 x_6.2.1 x_6.1.2.1 x_6.1.2.2 x_6.2.2.2∧bc7q71 c f x_6.1.1 x_3.1.1∧(bc7q72 x_3.1.1 x_6.1.1∧(x' = x_6.2.2.1∧bc7q79 st y.1 y.2 = LN x_6.2.1∧cap' = x_6.2.2.2)∧bc7q82 x_3.1.2.1 st y.1 y.2 x_6.1.2.1)∧StTo (St.mk (((3:Nat),x',AObj.vec N1 (bc7q79 st y.1 y.2) cap' fun (i:Nat) => [ZB (BI (newA st y.1 y.2) i)]) :: ((5:Nat),bc7q73 x_5 y.1 y.2 c f x_1.2.1 x_3.1.1) :: (N4,bc7q74 x_4 x_1.2.1 x_3.1.1) :: (N2,x_2,AObj.vec N1 (bc7q15 c f) (bc7q15 c f) (updF (fun (i:Nat) => bc7q30 x_3.1.2.2 i) (bc7q2 x_3.1.1) [D.bool ((LI x_3.2.1) == Z0)])) :: bc7q28 x_1.1 x_1.2.1 x x_1.2.2.1 x_1.2.2.2.1 x_1.2.2.2.2.1 x_1.2.2.2.2.2) []) (St.mk (((3:Nat),bc7q36 x_6.2.2.1 x_6.2.1 x_6.2.2.2) :: bc7q31 x_2 c f x_6.1.2.2 x_1.1 x_1.2.1 x x_1.2.2.1 x_1.2.2.2.1 x_1.2.2.2.2.1 x_1.2.2.2.2.2) [])))) (bc7q62 x_4 x_1.2.1 x_3.1.1∧(SM true∧True)∧bc7q78 x_1.1 x_2 x_1.2.1 c f x_3.1.2.1 x_3.1.2.2 x_3.1.1 x_3.2.1))))))) (bc7q77 x_1.1 x_2 x_1.2.1 c f x_3.1.2.1 x_3.1.2.2))∧∀ (x:Nat × Bool × List Bool),MidInv c f x.1 x.2.1 x.2.2→SM x_1.1∧(∃ (x_3:Nat × Bool),bc7q83 x_3.1 c f x_3.2 x.2.1∧(Z0 = (NI x_3.1)∧x.2.1 = x_3.2∧True)∧bc7q84 x_2 c f x.2.2)∧∀ (x_3:Nat × Bool),bc7q83 x_3.1 c f x_3.2 x.2.1→ifB (bc7q37 x_3.1 x_1.2.1) (side (Z0 ≤ (NI x_3.1)∧(NI x_3.1) < bc7q22 x_1.2.1) (∀ (x_4:Nat),x_2 ≠ x_4∧True→SM x_4∧ifB x_3.2 (SM x_4∧ifB (bc7q85 x_1.2.1 x_3.1) (true = bc7q88 x_3.2 x_1.2.1 x_3.1 x.2.2∧True) (SM x_4∧side (Z0 ≤ bc7q41 x_1.2.1 x_3.1∧bc7q41 x_1.2.1 x_3.1 < bc7q38 x_1.2.1) (SM x_2∧side (bc7q86 x_1.2.1 x_3.1 < bc7q15 c f) (bc7q87 x.2.2 x_1.2.1 x_3.1 = bc7q88 x_3.2 x_1.2.1 x_3.1 x.2.2∧True)))) (false = bc7q88 x_3.2 x_1.2.1 x_3.1 x.2.2∧True)∧ifB (!bc7q88 x_3.2 x_1.2.1 x_3.1 x.2.2) (bc7q21 c f) ((bc7q51 x_2 x_1.2.1∧SM (ZI (NI x.1))∧bc7q68 x_1.2.1)∧∃ (y:Nat × Bool),bc7q83 y.1 c f y.2 x.2.1∧bc7q71 c f y.1 x_3.1∧(bc7q72 x_3.1 y.1∧bc7q88 x_3.2 x_1.2.1 x_3.1 x.2.2 = y.2∧True)∧bc7q84 x_2 c f x.2.2))) (True∧∃ (y:Unit),True∧((NI x.1) = (NI (Option.getD (funS c f) N0))∧true = Option.isSome (funS c f)∧True)∧True∧True))))))) (by kernel_rfl) ?_
  delta BI D4 DA DF DK DL GC GF GK GL LI LN N0 N1 N2 N4 NI R4 SM U0 Z0 Z1 ZB ZI bc7q0 bc7q1 bc7q10 bc7q11 bc7q12 bc7q13 bc7q14 bc7q15 bc7q16 bc7q17 bc7q18 bc7q19 bc7q2 bc7q20 bc7q21 bc7q22 bc7q23 bc7q24 bc7q25 bc7q26 bc7q27 bc7q28 bc7q29 bc7q3 bc7q30 bc7q31 bc7q32 bc7q33 bc7q34 bc7q35 bc7q36 bc7q37 bc7q38 bc7q39 bc7q4 bc7q40 bc7q41 bc7q42 bc7q43 bc7q44 bc7q45 bc7q46 bc7q47 bc7q48 bc7q49 bc7q5 bc7q50 bc7q51 bc7q52 bc7q53 bc7q54 bc7q55 bc7q56 bc7q57 bc7q58 bc7q59 bc7q6 bc7q60 bc7q61 bc7q62 bc7q63 bc7q64 bc7q65 bc7q66 bc7q67 bc7q68 bc7q69 bc7q7 bc7q70 bc7q71 bc7q72 bc7q73 bc7q74 bc7q75 bc7q76 bc7q77 bc7q78 bc7q79 bc7q8 bc7q80 bc7q81 bc7q82 bc7q83 bc7q84 bc7q85 bc7q86 bc7q87 bc7q88 bc7q9
  have de:(default:FnD) = ⟨0,[]⟩ := rfl
  have d4:(default:I4) = ⟨0,0,0,0⟩ := rfl
  simp only [← de,← d4,Int.toNat_natCast]
  simp only [ifB_iff,side_iff,decide_eq_true_eq,decide_eq_false_iff_not,true_and,and_true,beq_iff_eq,bne_iff_ne,Bool.cond_false_right,Bool.cond_true_left,Bool.and_eq_true,Bool.and_eq_false_iff,beq_eq_false_iff_ne,ne_eq]
  intro x2 _
  refine ⟨⟨by omega,fun x6 _ => ⟨(x6,c.funs.getD f default,(gsl 4 Arr.row c.consts,gsl 2 FnD.row c.funs,gsl 4 KeD.row c.kers,gsl 2 LaD.row c.lanes)),⟨rfl,rfl⟩,rfl,rfl,⟨rfl,rfl,fun _ _ => rfl⟩,weakD_refl _,weakD_refl _,weakD_refl _,weakD_refl _⟩⟩,?_⟩
  rintro ⟨x6,F,dd⟩ ⟨hF,hdd⟩
  simp only at hF hdd ⊢
  subst hF
  have hco:∀ i:Nat,i < (c.funs.getD f default).code.length→((c.funs.getD f default).code.getD i default).ok := fun i hi => getD_ok (getD_ok hc.2.1 hf).2.1 hi
  have hD:weakD dd.1 (gsl 4 Arr.row c.consts)∧weakD dd.2.1 (gsl 2 FnD.row c.funs)∧weakD dd.2.2.1 (gsl 4 KeD.row c.kers)∧weakD dd.2.2.2 (gsl 2 LaD.row c.lanes) := by
    have h := hdd
    simp only [CB,O4.row,CodD.row,List.cons.injEq,and_true] at h
    obtain ⟨h1,h2,h3,h4⟩ := h
    rw [h1,h2,h3,h4]
    exact ⟨weakD_refl _,weakD_refl _,weakD_refl _,weakD_refl _⟩
  have hw1:IntKind.i64.wrap (((c.funs.getD f default).code.length:Int) - 1) = ((c.funs.getD f default).code.length:Int) - 1 := wrap_i64' (by omega) (by omega)
  have no:funS c f = none→∃ y:Unit,(0:Int) = ((funS c f).getD 0:Nat)∧false = (funS c f).isSome := fun h => ⟨(),by simp [h],by simp [h]⟩
  have gen:∃ CO:List I4,CO = (c.funs.getD f default).code := ⟨_,rfl⟩
  refine ⟨⟨fun h => by rw [decide_eq_true h,Bool.true_and],fun h => by rw [decide_eq_false h,Bool.false_and]⟩,fun h => no ?_,fun h1 => ⟨fun h => no ?_,fun h2 => ⟨by rw [hw1]; omega,fun h => no ?_,fun h3 => ⟨by omega,fun x9 _ => ⟨⟨?_,?_,?_⟩,?_⟩⟩⟩⟩⟩
  · simp only [funS]
    rw [if_neg]
    intro hh
    simp only [between] at hh
    rw [hh.1] at h
    cases h
  · simp only [funS]
    rw [if_neg]
    exact fun hh => hh.2.1 (List.eq_nil_of_length_eq_zero (by omega))
  · simp only [funS]
    rw [if_neg]
    intro hh
    apply h
    rw [hw1,show (((c.funs.getD f default).code.length:Int) - 1).toNat = (c.funs.getD f default).code.length - 1 by omega]
    exact hh.2.2
  · refine .inl ⟨(0,0,List.replicate (c.funs.getD f default).code.length false),⟨Nat.zero_le _,Nat.le_refl _,Nat.zero_le _,by simp,by simp,by simp⟩,⟨rfl,fun _ _ => trivial,rfl⟩,leS_to ?_⟩
    simp [leS,chk_iff,leO,leT,getO,nodupB,weakO,weakD_refl,weakL,List.getD_eq_getElem?_getD,List.getElem?_replicate]
    intro i hi
    simp [hi]
  · rintro ⟨i,deep,em⟩ hh
    simp only at hh ⊢
    refine ⟨fun hlt => ?_,fun hge => ⟨(deep,true,em),hh.done (by omega),⟨rfl,rfl⟩,fun _ _ => rfl,fun _ _ => trivial⟩⟩
    have hlt:i < (c.funs.getD f default).code.length := by omega
    have hx := hco i hlt
    have hiem:i < em.length := by rw [hh.hl]; exact hlt
    have fl := fun h => hh.fail hlt h
    have nxt := fun {nx:List UInt8} (h:stepS c f i ((c.funs.getD f default).code.getD i default) [] = some nx) => hh.next hn hlt h
    generalize (c.funs.getD f default).code.getD i default = x at *
    have fail:stepS c f i x [] = none→∃ y:Nat × Bool × List Bool,MidInv c f y.1 y.2.1 y.2.2∧((deep:Int) = (y.1:Int)∧false = y.2.1)∧(∀ j,j < (c.funs.getD f default).code.length→updF (fun j => [D.bool (em.getD j false)]) i [D.bool true] j = [D.bool (y.2.2.getD j false)])∧∀ j,j < (c.funs.getD f default).code.length→True :=
      fun h => ⟨(deep,false,em.set i true),.inr ⟨rfl,fl h⟩,⟨rfl,rfl⟩,fun j _ => upd_row em i true hiem j,fun _ _ => trivial⟩
    refine ⟨by omega,fun x4 _ => ⟨by omega,hlt,⟨hD,hx⟩,fun y hy x5 _ => ?_⟩⟩
    generalize he:effC c f ⟨x.a,x.b,x.c,x.d⟩ = e at *
    have he:effC c f x = e := he
    cases e with
    | none =>
      have flw := fail (by simp [stepS,he])
      refine ⟨fun _ => flw,fun _ => ⟨fun _ => flw,fun _ => ⟨fun h => (by cases h),fun h => (by simp [okA] at h),fun _ => ⟨⟨fun h => by simp [h],fun h => by simp [h]⟩,flw⟩⟩⟩⟩
    | some e' =>
      have hye:y = e' := hy e' rfl
      subst hye
      have hlen := eff_len he
      refine ⟨fun h => (by simp at h),fun _ => ⟨fun hd => fail (by simp [stepS,he,hd]),fun hd => ⟨fun _ => by omega,fun hok => ⟨fun hq => ⟨?_,?_,fun hcond => fail ?_,fun hcond => .inl ?_⟩,fun hq xs cap hcap => ⟨?_,?_,fun hcond => fail ?_,fun hcond => .inr ?_⟩⟩,fun hok => ⟨⟨fun h => by simp [h],fun h => by simp [h]⟩,fail (by simp only [Option.isSome] at hok; simp [stepS,he,hok])⟩⟩⟩⟩
      · exact ops1
      · exact ops2
      · have hq0:y.2 = [] := by simpa using hq
        exact (step_cond he hok hd (b := false) (by simp [newA,hq0])).1 hcond
      · have hq0:y.2 = [] := by simpa using hq
        have hs := (step_cond he hok hd (b := false) (by simp [newA,hq0])).2 hcond
        have hn0:newA [] y.1 y.2 = [] := by simp [newA,hq0]
        rw [hn0] at hs
        refine ⟨(i + 1,max deep 0,em.set i true),nxt hs,by simp only; omega,⟨wrap_i64' (by omega) (by omega),fun _ _ => trivial,by rw [maxI0]; simp⟩,leS_to ?_⟩
        simp only [leS,chk_iff,leO,leT,getO,nodupB,weakO,List.map_cons,List.map_nil]
        simp [weakL_refl]
        exact fun j _ => by simpa [List.getD_eq_getElem?_getD] using upd_row em i true hiem j
      · exact ops1
      · exact ops3
      · exact (step_cond he hok hd (b := decide (0 < (y.2.length:Int))) (by rw [lenB]; simp [newA])).1 hcond
      · have hs := (step_cond he hok hd (b := decide (0 < (y.2.length:Int))) (by rw [lenB]; simp [newA])).2 hcond
        have hn0:newA [] y.1 y.2 = y.2 := by simp [newA]
        rw [hn0] at hs
        refine ⟨((i + 1,max deep y.2.length,em.set i true),y.2,xs,cap),⟨nxt hs,hcap⟩,by simp only; omega,⟨wrap_i64' (by omega) (by omega),⟨rfl,rfl,rfl⟩,maxI _ _⟩,?_⟩
        refine StTo.trans (B := ⟨[(5,xs,.vec 1 y.2.length cap (brow y.2)),(2,x9,.vec 1 (c.funs.getD f default).code.length (c.funs.getD f default).code.length (erow (em.set i true))),(1,x6,.cells (FnD.row (c.funs.getD f default))),(0,x2,.cells (O4.row dd))],[]⟩) (leS_to ?_) (StTo.pos ⟨⟨rfl,?_,rfl,?_,rfl,?_,rfl,?_,trivial⟩,trivial⟩)
        · simp only [leS,chk_iff,leO,leT,getO,nodupB,weakO,List.map_cons,List.map_nil]
          simp [weakL_refl,O4.row,FnD.row,gsl,I4.row,brow,erow]
          exact fun j _ => by simpa [List.getD_eq_getElem?_getD] using upd_row em i true hiem j
        · simp [weakO,chk_iff,brow]
        · simp [weakO,chk_iff,erow]
        · simp only [weakO]; exact weakL_refl _
        · simp only [weakO]; exact weakL_refl _
  · rintro ⟨⟨i,deep,em⟩,st,xs,cap⟩ ⟨hh,hcap⟩
    simp only at hh hcap ⊢
    refine ⟨fun hlt => ?_,fun hge => ⟨(deep,true,em),hh.done (by omega),⟨rfl,rfl⟩,fun _ _ => rfl,fun _ _ => trivial⟩⟩
    have hlt:i < (c.funs.getD f default).code.length := by omega
    have hx := hco i hlt
    have hiem:i < em.length := by rw [hh.hl]; exact hlt
    have hsl := hh.hs
    have fl := fun h => hh.fail hlt h
    have nxt := fun {nx:List UInt8} (h:stepS c f i ((c.funs.getD f default).code.getD i default) st = some nx) => hh.next hn hlt h
    generalize (c.funs.getD f default).code.getD i default = x at *
    have fail:stepS c f i x st = none→∃ y:Nat × Bool × List Bool,MidInv c f y.1 y.2.1 y.2.2∧((deep:Int) = (y.1:Int)∧false = y.2.1)∧(∀ j,j < (c.funs.getD f default).code.length→updF (fun j => [D.bool (em.getD j false)]) i [D.bool st.isEmpty] j = [D.bool (y.2.2.getD j false)])∧∀ j,j < (c.funs.getD f default).code.length→True :=
      fun h => ⟨(deep,false,em.set i st.isEmpty),.inr ⟨rfl,fl h⟩,⟨rfl,rfl⟩,fun j _ => upd_row em i _ hiem j,fun _ _ => trivial⟩
    have hie:((st.length:Int) == 0) = st.isEmpty := by cases st with
      | nil => rfl
      | cons a l => simp; omega
    simp only [hie]
    refine ⟨by omega,fun x4 _ => ⟨by omega,hlt,⟨hD,hx⟩,fun y hy x5 _ => ?_⟩⟩
    generalize he:effC c f ⟨x.a,x.b,x.c,x.d⟩ = e at *
    have he:effC c f x = e := he
    cases e with
    | none =>
      have flw := fail (by simp [stepS,he])
      refine ⟨fun _ => flw,fun _ => ⟨fun _ => flw,fun _ => ⟨st,⟨rfl,hcap,fun h => (by cases h),fun _ _ => rfl⟩,fun h => (by simp [okA] at h),fun _ => ⟨ops1,flw⟩⟩⟩⟩
    | some e' =>
      have hye:y = e' := hy e' rfl
      subst hye
      have hlen := eff_len he
      refine ⟨fun h => (by simp at h),fun _ => ⟨fun hd => fail (by simp [stepS,he,hd]),fun hd => ⟨st,⟨rfl,hcap,fun _ => by omega,fun _ _ => rfl⟩,fun hok x' cap' hcap' => ⟨ops1,ops3,fun hcond => fail ?_,fun hcond => .inr ?_⟩,fun hok => ⟨ops1,fail (by simp only [Option.isSome] at hok; simp [stepS,he,hok])⟩⟩⟩⟩
      · exact (step_cond he hok hd (b := decide (0 < ((newA st y.1 y.2).length:Int))) lenB).1 hcond
      · have hs := (step_cond he hok hd (b := decide (0 < ((newA st y.1 y.2).length:Int))) lenB).2 hcond
        refine ⟨((i + 1,max deep (newA st y.1 y.2).length,em.set i st.isEmpty),newA st y.1 y.2,x',cap'),⟨nxt hs,hcap'⟩,by simp only; omega,⟨wrap_i64' (by omega) (by omega),⟨rfl,rfl,rfl⟩,maxI _ _⟩,leS_to ?_⟩
        simp only [leS,chk_iff,leO,leT,getO,nodupB,weakO,List.map_cons,List.map_nil]
        simp [weakL_refl]
        exact fun j _ => by simpa [List.getD_eq_getElem?_getD] using upd_row em i st.isEmpty hiem j
  · rintro ⟨dp,r,em⟩ hm
    simp only at hm ⊢
    have hN:0 < (c.funs.getD f default).code.length := by omega
    have hok:between (c.funs.getD f default).slots 0 1000 = true∧(c.funs.getD f default).code ≠ []∧((c.funs.getD f default).code.getD ((c.funs.getD f default).code.length - 1) default).a = 25 := by
      refine ⟨by simpa [between] using h1,(fun e => by rw [e] at hN; cases hN),?_⟩
      rw [hw1,show (((c.funs.getD f default).code.length:Int) - 1).toNat = (c.funs.getD f default).code.length - 1 by omega] at h3
      simpa using h3
    have none_of:runS c f 0 (c.funs.getD f default).code [] 0 = none→funS c f = none := fun h => by simp only [funS]; rw [if_pos hok,h]
    refine ⟨⟨(0,r),⟨Nat.zero_le _,fun h => ⟨rfl,h⟩,fun h => ⟨h,by simp [guardsB]⟩⟩,⟨rfl,rfl⟩,fun _ _ => trivial⟩,?_⟩
    rintro ⟨j,q⟩ ⟨hj,hjf,hjt⟩
    simp only at hj hjf hjt ⊢
    refine ⟨fun hlt => ⟨by omega,fun x4 _ => ?_⟩,fun hge => ?_⟩
    · have hlt:j < (c.funs.getD f default).code.length := by omega
      have hmem:(c.funs.getD f default).code.getD j default ∈ (c.funs.getD f default).code := getD_mem hlt
      have htk := take_step hlt
      generalize (c.funs.getD f default).code.getD j default = x at *
      cases q with
      | false =>
        obtain ⟨hj0,hr0⟩ := hjf rfl
        rcases hm with ⟨hr1,_⟩ | ⟨_,hrun⟩
        · rw [hr0] at hr1; cases hr1
        · refine ⟨⟨fun h => (by cases h),fun _ => rfl⟩,fun _ => no (none_of hrun),fun h => (by simp at h)⟩
      | true =>
        obtain ⟨hr1,hgs⟩ := hjt rfl
        rcases hm with ⟨_,hrun,rfl⟩ | ⟨hr2,_⟩
        · have hrng:x.a = 24→0 ≤ x.b∧x.b < ((c.funs.getD f default).code.length:Int) := fun ha => (let ⟨_,he⟩ := run_mem _ _ _ _ _ hrun x hmem; eff_guard he ha)
          refine ⟨⟨fun _ => ⟨fun ha => by simp [ha],fun ha => ?_⟩,fun h => (by cases h)⟩,fun hno => no ?_,fun hyes => ⟨(j + 1,true),⟨by omega,fun h => (by cases h),fun _ => ⟨hr1,?_⟩⟩,by omega,⟨wrap_i64' (by omega) (by omega),?_⟩,fun _ _ => trivial⟩⟩
          · have ha:x.a = 24 := by simpa using ha
            have := hrng ha
            exact ⟨this,by omega,by simp [ha]⟩
          · simp only [funS]
            rw [if_pos hok,hrun]
            simp only
            rw [if_neg]
            intro hg
            have := List.all_eq_true.1 hg x hmem
            simp at hno this
            rcases this with h | h
            · exact absurd hno.1 h
            · rw [hno.2] at h; cases h
          · rw [htk]
            simp only [guardsB,List.all_append,Bool.and_eq_true] at hgs ⊢
            refine ⟨hgs,?_⟩
            simp only [List.all_cons,List.all_nil,Bool.and_true]
            exact (guard_one hyes).1
          · exact (guard_one hyes).2
        · rw [hr1] at hr2; cases hr2
    · have hjN:j = (c.funs.getD f default).code.length := by omega
      cases q with
      | false => obtain ⟨hj0,_⟩ := hjf rfl; omega
      | true =>
        obtain ⟨hr1,hgs⟩ := hjt rfl
        rcases hm with ⟨_,hrun,rfl⟩ | ⟨hr2,_⟩
        · rw [hjN,List.take_length] at hgs
          have:funS c f = some dp := by simp only [funS]; rw [if_pos hok,hrun]; simp only; rw [if_pos hgs]
          exact ⟨(),by rw [this]; rfl,by rw [this]; rfl⟩
        · rw [hr1] at hr2; cases hr2
end Go.Proofs.Ytoglbmhkfkghbaa
namespace Go.Proofs.Ytoglbmhkfkghbaa
open Go Go.Ab
def aftD (st:List UInt8) (p q:List UInt8) (r:Bool):D := .tup [.str (if okA st p r then newA st p q else []),.bool (okA st p r)]
def annR (st p q:List UInt8) (r:Bool) (d:D):Option LoopAnn :=
  match d with
  | .ref _ xe _ => some { slots := [6],keep := [0,3],α := Nat,st := fun i => ([.int .i64 i],⟨[(0,xe,.cells [.str p,.str q,.bool r])],[]⟩),inv := fun i => i ≤ p.length∧∀ j,j < i→popB st p j = true,mu := fun i => p.length - i }
  | _ => none
noncomputable def Eaft (st p q:List UInt8) (r:Bool):Senv := { EC con0 55 2 [3,4,5,6,17,22,43] (fun id => match id with | 6 => ([0,1,2,3,4,5,6,7,8,9,10,11,12,13,14,15,16,17,18],[]) | 8 => ([0,1,2,3,4,5,6,7,8,9,10,11,12],[]) | _ => ([],[])) with
  ann := fun b env _ => match b with
    | 0 => annR st p q r (Ab.look env 3)
    | _ => none }
noncomputable section
def bc8q0 (p0:Bool) (p1 p2:List UInt8):Bool := bif !p0 then true else decide ((LI p1) < (LI p2))
def bc8q1 (p0 p1:List UInt8) (p2:Bool) (p3:List UInt8):Prop := True∧∃ (_y:Unit),True∧(eqOf (List UInt8) [] (if okA p0 p1 p2 = true then newA p0 p1 p3 else [])∧false = okA p0 p1 p2∧True)∧True∧True
def bc8q2 (p0:Nat) (p1 p2:List UInt8):Prop := p0 ≤ LN p1∧∀ (j:Nat),j < p0→popB p2 p1 j = true
def bc8q3 (p0:List UInt8) (p1:Nat):Int := IntKind.wrap IntKind.i64 (IntKind.wrap IntKind.i64 ((LI p0) - Z1) - (↑p1:Int))
def bc8q4 (p0:List UInt8) (p1:Nat) (p2:List UInt8):Bool := (BI p0 (Int.toNat (↑p1:Int))) != (BI p2 (Int.toNat (bc8q3 p2 p1)))
def bc8q5 (p0:List UInt8) (p1:Nat) (p2:List UInt8):Bool := bif (BI p0 (Int.toNat (↑p1:Int))) != (42:Int) then bc8q4 p0 p1 p2 else false
def bc8q6 (p0 p1:List UInt8):Int := IntKind.wrap IntKind.i64 ((LI p0) - (LI p1))
def bc8q7 (p0 p1:List UInt8):List UInt8 := List.drop N0 (List.take (Int.toNat (bc8q6 p0 p1)) p0)
end
theorem aft_ok (st p q : List UInt8) (r : Bool) (hq : r = true → st.length + q.length ≤ 1000000 ∧ p.length ≤ 1000000) (hs : st.length ≤ 1000000) :
    ACalls Try.prog 68 [.str st,.agg [.str p,.str q,.bool r]] ⟨[],[]⟩ (SpecR (sC [.str st,.agg [.str p,.str q,.bool r]] (aftD st p q r)) ()) := by
  refine con_of (A := sC _ _) (x := ()) (E := Eaft st p q r) (eOk con0_ok rfl) Try.func68 rfl (by kernel_rfl) rfl (by simp [sC,Eaft,EC,E0]) ?_
  refine vc_eq (T :=
    ∀ (x:Nat),True→(SM x∧ifB (!r) (true = bc8q0 r st p∧True) (SM x∧decide ((LI st) < (LI p)) = bc8q0 r st p∧True))∧ifB (bc8q0 r st p) (bc8q1 st p r q) ((∃ (x_1:Nat),bc8q2 x_1 p st∧(Z0 = (↑x_1:Int)∧True)∧(SM x∧(SM p∧SM q∧SM r∧True)∧True)∧True)∧∀ (x_1:Nat),bc8q2 x_1 p st→SM x∧ifB (decide ((↑x_1:Int) < (LI p))) ((SM x∧side (Z0 ≤ (↑x_1:Int)∧(↑x_1:Int) < (LI p)) (ifB ((BI p (Int.toNat (↑x_1:Int))) != (42:Int)) (SM x∧side (Z0 ≤ (↑x_1:Int)∧(↑x_1:Int) < (LI p)) (side (Z0 ≤ bc8q3 st x_1∧bc8q3 st x_1 < (LI st)) (bc8q4 p x_1 st = bc8q5 p x_1 st∧True))) (false = bc8q5 p x_1 st∧True)))∧ifB (bc8q5 p x_1 st) (bc8q1 st p r q) ((SM (D.str st)∧SM (D.ref N0 x N0)∧True)∧∃ (y:Nat),bc8q2 y p st∧LN p - y < LN p - x_1∧(IntKind.wrap IntKind.i64 ((↑x_1:Int) + Z1) = (↑y:Int)∧True)∧(SM x∧(SM p∧SM q∧SM r∧True)∧True)∧True)) (SM x∧side (Z0 ≤ Z0∧Z0 ≤ bc8q6 st p∧bc8q6 st p ≤ (LI st)) (SM x∧side (LN (bc8q7 st p) + LN q ≤ (9223372036854775807:Nat)) (True∧∃ (y:Unit),True∧((bc8q7 st p ++ q = if okA st p r = true then newA st p q else [])∧true = okA st p r∧True)∧True∧True))))) (by kernel_rfl) ?_
  delta BI LI LN N0 SM U0 Z0 Z1 bc8q0 bc8q1 bc8q2 bc8q3 bc8q4 bc8q5 bc8q6 bc8q7
  simp only [ifB_iff,side_iff,decide_eq_true_eq,decide_eq_false_iff_not,true_and,and_true,bne_iff_ne,Bool.cond_false_right,Bool.cond_true_left,Bool.and_eq_true,Bool.and_eq_false_iff,ne_eq]
  intro xe _
  have fail:okA st p r = false→∃ y:Unit,eqOf (List UInt8) [] (if okA st p r = true then newA st p q else [])∧false = okA st p r := fun h => ⟨(),by simp [h],h.symm⟩
  refine ⟨⟨by cases r <;> simp,by cases r <;> simp⟩,fun h => fail ?_,fun h => ⟨⟨0,⟨by omega,fun j hj => absurd hj (Nat.not_lt_zero j)⟩,rfl⟩,fun i hi => ⟨fun hlt => ?_,fun hge => ?_⟩⟩⟩
  · simp only [Bool.or_eq_true,Bool.not_eq_true',decide_eq_true_eq] at h
    rcases h with h | h
    · simp [okA,h]
    · have:¬ p.length ≤ st.length := by omega
      simp [okA,this]
  · simp only [Bool.or_eq_false_iff,Bool.not_eq_false',decide_eq_false_iff_not] at h
    obtain ⟨hq,hp⟩ := hq h.1
    have hlt':i < p.length := by omega
    have hw:IntKind.i64.wrap (IntKind.i64.wrap ((st.length:Int) - 1) - (i:Int)) = ((st.length - 1 - i:Nat):Int) := by
      rw [wrap_i64' (n := (st.length:Int) - 1) (by omega) (by omega),wrap_i64' (by omega) (by omega)]; omega
    simp only [hw,Int.toNat_natCast]
    refine ⟨⟨by omega,fun h42 => ⟨by omega,by omega,?_⟩,fun h42 => ?_⟩,fun hb => fail (okA_false hlt' (popB_not hb.1 hb.2)),fun hb => ⟨i + 1,⟨by omega,fun j hj => ?_⟩,by omega,wrap_i64' (by omega) (by omega)⟩⟩
    · exact bne_and h42
    · exact bne_and' h42
    · by_cases e:j = i
      · subst e
        refine popB_of (hb.imp (fun h => ?_) (fun h => ?_))
        · simpa using h
        · simpa using h
      · exact hi.2 j (by omega)
  · simp only [Bool.or_eq_false_iff,Bool.not_eq_false',decide_eq_false_iff_not] at h
    obtain ⟨hq,hp⟩ := hq h.1
    have hw:IntKind.i64.wrap ((st.length:Int) - (p.length:Int)) = ((st.length - p.length:Nat):Int) := by
      rw [wrap_i64' (by omega) (by omega)]; omega
    have hip:i = p.length := by omega
    subst hip
    have hok:okA st p r = true := okA_true h.1 (by omega) hi.2
    simp only [hw,Int.toNat_natCast,List.drop_zero]
    refine ⟨by omega,?_,(),by simp [hok,newA],hok.symm⟩
    simp; omega
def conG (c:CodD) (f:Nat):Con := fun k ds S => match k with
  | 69 => match ds with
    | [a0,a1,.agg [.int .i64 a,.int .i64 b,.int .i64 d,.int .i64 e]] => some (pQ [.agg c.row,.int .i64 f,.agg (I4.row ⟨a,b,d,e⟩)] (offD (effC c f ⟨a,b,d,e⟩)) (offQ (effC c f ⟨a,b,d,e⟩)) (weakL [a0,a1] [.agg c.row,.int .i64 f]∧I4.ok ⟨a,b,d,e⟩))
    | _ => none
  | 68 => match ds with
    | [.str st,.agg [.str p,.str q,.bool r]] => some (pC [.str st,.agg [.str p,.str q,.bool r]] (aftD st p q r) ((r = true→st.length + q.length ≤ 1000000∧p.length ≤ 1000000)∧st.length ≤ 1000000))
    | _ => none
  | k => conRE k ds S
theorem conG_ok {c:CodD} {f:Nat} (hf:f < c.funs.length) (hc:c.ok):ConOk Try.prog (conG c f) := by
  intro k ds S A h
  unfold conG at h
  split at h
  · split at h
    · injection h with h; subst h
      exact pQ_ok fun ⟨hw,hx⟩ => ⟨⟨hw.1,hw.2.1,weakD_refl _,trivial⟩,(rof_ok c f ⟨_,_,_,_⟩ hf hc hx).mono fun _ _ h => h⟩
    · cases h
  · split at h
    · injection h with h; subst h
      exact pC_ok fun ⟨h1,h2⟩ => ⟨weakL_refl _,aft_ok _ _ _ _ h1 h2⟩
    · cases h
  · exact conRE_ok _ _ _ _ h
theorem step_all {c : CodD} {f i : Nat} {x : I4} {st : List UInt8} {y : Eff} {e : Option Eff} (he : effC c f x = e) (hy : offQ e y) :
    ((!okA st y.1 e.isSome || decide (x.d < 0) || (x.a == 25 || x.a == 24) && decide (0 < (((if okA st y.1 e.isSome = true then newA st y.1 y.2 else []):List UInt8).length:Int)) || x.a == 24 && decide (x.b ≤ i)) = true→stepS c f i x st = none) ∧
    ((!okA st y.1 e.isSome || decide (x.d < 0) || (x.a == 25 || x.a == 24) && decide (0 < (((if okA st y.1 e.isSome = true then newA st y.1 y.2 else []):List UInt8).length:Int)) || x.a == 24 && decide (x.b ≤ i)) = false→okA st y.1 e.isSome = true∧stepS c f i x st = some (newA st y.1 y.2)) := by
  cases e with
  | none => exact ⟨fun _ => by simp [stepS,he],fun h => by simp [okA] at h⟩
  | some e' =>
    obtain rfl := hy e' rfl
    simp only [Option.isSome]
    by_cases hq:okA st y.1 true = true
    case neg => exact ⟨fun _ => by simp [stepS,he,hq],fun h => by simp [hq] at h⟩
    case pos =>
      by_cases hd:x.d < 0
      · exact ⟨fun _ => by simp [stepS,he,hd],fun h => by simp [hd] at h⟩
      · have hs := step_cond (i := i) he hq hd (b := decide (0 < ((newA st y.1 y.2).length:Int))) lenB
        simp only [hq,Bool.not_true,decide_eq_false hd,Bool.false_or,if_true]
        exact ⟨hs.1,fun h => ⟨trivial,hs.2 h⟩⟩
theorem app_bools {em:List Bool} {b:Bool} {j:Nat} (hj:j < em.length + 1):appF em.length (fun i => [D.bool (em.getD i false)]) (fun i => [[D.bool b]].getD i []) j = [D.bool ((em ++ [b]).getD j false)] := by
  simp only [appF]
  split
  · rename_i h
    simp [List.getD_eq_getElem?_getD,List.getElem?_append_left h]
  · have:j = em.length := by omega
    subst this
    simp [List.getD_eq_getElem?_getD]
structure RunHead (c:CodD) (f:Nat) (i:Nat) (st:List UInt8) (deep:Nat) (em:List Bool):Prop where
  hi:i ≤ (c.funs.getD f default).code.length
  hs:st.length ≤ i
  hd:deep ≤ 65536
  hr:runS c f i ((c.funs.getD f default).code.drop i) st deep = runS c f 0 (c.funs.getD f default).code [] 0
  hl:em.length = i
  he:em ++ empS c f i ((c.funs.getD f default).code.drop i) st = empS c f 0 (c.funs.getD f default).code []
def okHead (fd:FnD):Bool := between fd.slots 0 1000 && decide (fd.code ≠ []) && decide ((fd.code.getD (fd.code.length - 1) default).a = 25)
def cutG1 (c:CodD) (f:Nat) (d2:D):Option LoopAnn :=
  match d2 with
  | .ref _ x2 _ => some { slots := [6],keep := [],α := FnD,st := fun y => ([gsl 4 I4.row y.code],⟨[(0,x2,.cells c.row)],[]⟩),inv := fun y => y = c.funs.getD f default,mu := fun _ => 0 }
  | _ => none
def cutG2 (c:CodD) (f:Nat) (d2:D):Option LoopAnn :=
  match d2 with
  | .ref _ x2 _ => some { slots := [42],keep := [],α := Bool × O4,st := fun y => ([.bool y.1],⟨[(0,x2,.cells (O4.row y.2))],[]⟩),inv := fun y => y.1 = !(okHead (c.funs.getD f default))∧CB c y.2,mu := fun _ => 0 }
  | _ => none
def annG1 (c:CodD) (f n:Nat) (os:List (Nat × Nat × AObj)):Option LoopAnn :=
  match os with
  | [(_,x2,.cells cc)] => some { slots := [10,7,8,9],keep := [1,2,6],α := (Nat × Nat × List Bool) × List UInt8 × Nat,st := fun y => ([.int .i64 y.1.1,.str y.2.1,.int .i64 y.1.2.1,.sl 1 y.1.2.2.length (erow y.1.2.2) (.tok 0 y.2.2)],⟨[(0,x2,.cells cc)],[(0,y.2.2)]⟩),inv := fun y => RunHead c f y.1.1 y.2.1 y.1.2.1 y.1.2.2,mu := fun y => n - y.1.1 }
  | _ => none
def annG2 (c:CodD) (f n:Nat):LoopAnn := { slots := [13],keep := [6,8,9],α := Nat,st := fun y => ([.int .i64 y],⟨[],[]⟩),inv := fun y => y ≤ n∧guardsB (empS c f 0 (c.funs.getD f default).code []) ((c.funs.getD f default).code.take y) = true,mu := fun y => n - y }
noncomputable def E44 (c:CodD) (f:Nat):Senv := { EC (conG c f) 144 3 [4,5,6,7,8,9,10,11,12,13,42,46,114,123,142] (fun id => match id with | 10 => ([0,1,2,3,4,5,6,7,8,9,10,11,12,13],[7,8]) | _ => ([],[])) with
  cut := fun id env _ => match id with
    | 1 => cutG1 c f (Ab.look env 2)
    | 2 => cutG2 c f (Ab.look env 2)
    | _ => none
  gh := fun b => match b with
    | 0 => [.slot 9]
    | _ => []
  ann := fun b _ S => match b with
    | 0 => annG1 c f (c.funs.getD f default).code.length S.objs
    | 2 => some (annG2 c f (c.funs.getD f default).code.length)
    | _ => none }
noncomputable section
def bc8q8 (p0:CodD):Nat := LN (CodD.funs p0)
def bc8q9 (p0:CodD) (p1:Nat):FnD := GF p0 p1
def bc8q10 (p0:FnD) (p1:CodD) (p2:Nat):Prop := p0 = bc8q9 p1 p2
def bc8q11 (p0:CodD) (p1:Nat):FnD := GF p0 (Int.toNat (↑p1:Int))
def bc8q12 (p0:CodD) (p1:Nat):List I4 := FnD.code (bc8q11 p0 p1)
def bc8q13 (p0:CodD) (p1:Nat):Nat := LN (bc8q12 p0 p1)
def bc8q14 (p0:FnD):List I4 := FnD.code p0
def bc8q15 (p0:FnD):Nat := LN (bc8q14 p0)
def bc8q16:I4 := D4
def bc8q17 (p0:CodD) (p1 p2:Nat):I4 := List.getD (bc8q12 p0 p1) p2 bc8q16
def bc8q18 (p0:FnD) (p1:Nat):I4 := List.getD (bc8q14 p0) p1 bc8q16
def bc8q19 (p0:FnD) (p1:Nat):List D := (R4 (bc8q18 p0 p1))
def bc8q20 (p0:CodD):Nat := LN (CodD.consts p0)
def bc8q21 (p0:CodD) (p1:Nat):List D := Arr.row (GC p0 p1)
def bc8q22 (p0:CodD) (p1:Nat):List I4 := FnD.code (bc8q9 p0 p1)
def bc8q23 (p0:CodD) (p1:Nat):Nat := LN (bc8q22 p0 p1)
def bc8q24 (p0:CodD) (p1 p2:Nat):I4 := List.getD (bc8q22 p0 p1) p2 bc8q16
def bc8q25 (p0:CodD) (p1:Nat):List D := [ZI (FnD.slots (bc8q9 p0 p1)),D.sl N4 (bc8q23 p0 p1) (fun (i:Nat) => (R4 (bc8q24 p0 p1 i))) Mode.any]
def bc8q26 (p0:CodD):Nat := LN (CodD.kers p0)
def bc8q27 (p0:CodD) (p1:Nat):List D := KeD.row (GK p0 p1)
def bc8q28 (p0:CodD):Nat := LN (CodD.lanes p0)
def bc8q29 (p0:CodD) (p1:Nat):List D := LaD.row (GL p0 p1)
def bc8q30 (p0:CodD) (p1:Nat):Int := FnD.slots (bc8q11 p0 p1)
def bc8q31 (p0:CodD) (p1:Nat):Bool := decide (Z0 ≤ bc8q30 p0 p1)
def bc8q32 (p0:CodD) (p1:Nat):Bool := decide (bc8q30 p0 p1 ≤ (1000:Int))
def bc8q33 (p0:CodD) (p1:Nat):Bool := bif bc8q31 p0 p1 then bc8q32 p0 p1 else false
def bc8q34 (p0:Bool) (p1:CodD) (p2:Nat) (p3:O4):Prop := p0 = !okHead (bc8q9 p1 p2)∧CB p1 p3
def bc8q35 (p0:CodD):D := D.sl N4 (bc8q20 p0) (fun (i:Nat) => bc8q21 p0 i) Mode.any
def bc8q36 (p0:CodD):D := D.sl N2 (bc8q8 p0) (fun (i:Nat) => bc8q25 p0 i) Mode.any
def bc8q37 (p0:CodD):D := D.sl N4 (bc8q26 p0) (fun (i:Nat) => bc8q27 p0 i) Mode.any
def bc8q38 (p0:CodD):D := D.sl N2 (bc8q28 p0) (fun (i:Nat) => bc8q29 p0 i) Mode.any
def bc8q39 (p0:Nat) (p1:CodD) (p2 p3 p4 p5:D):Prop := (SM p0∧(weakD (bc8q35 p1) p2∧weakD (bc8q36 p1) p3∧weakD (bc8q37 p1) p4∧weakD (bc8q38 p1) p5∧True)∧True)∧True
def bc8q40 (p0:CodD) (p1 p2:Nat):Prop := ∃ (x:Bool × O4),bc8q34 x.1 p0 p1 x.2∧(true = x.1∧True)∧bc8q39 p2 p0 x.2.1 x.2.2.1 x.2.2.2.1 x.2.2.2.2
def bc8q41 (p0:FnD):Int := (NI (bc8q15 p0))
def bc8q42 (p0:FnD):Int := IntKind.wrap IntKind.i64 (bc8q41 p0 - Z1)
def bc8q43 (p0:CodD) (p1:Nat):Prop := True∧∃ (_y:Unit),True∧(Z0 = (NI (Option.getD (funS p0 p1) N0))∧false = Option.isSome (funS p0 p1)∧True)∧True∧True
def bc8q44 (p0:List Bool) (p1:Nat):List D := [D.bool (List.getD p0 p1 false)]
def bc8q45 (p0:FnD) (p1:Nat):I4 := List.getD (bc8q14 p0) (Int.toNat (↑p1:Int)) bc8q16
def bc8q46 (p0:FnD) (p1:Nat):Int := I4.a (bc8q45 p0 p1)
def bc8q47 (p0:FnD) (p1:Nat):Int := I4.b (bc8q45 p0 p1)
def bc8q48 (p0:FnD) (p1:Nat):Int := I4.d (bc8q45 p0 p1)
def bc8q49 (p0:FnD) (p1:Nat):I4 := I4.mk (bc8q46 p0 p1) (bc8q47 p0 p1) (I4.c (bc8q45 p0 p1)) (bc8q48 p0 p1)
def bc8q50 (p0:CodD) (p1:Nat) (p2:FnD) (p3:Nat):Option Eff := effC p0 p1 (bc8q49 p2 p3)
def bc8q51 (p0:CodD) (p1:Nat) (p2:FnD) (p3:Nat):Bool := Option.isSome (bc8q50 p0 p1 p2 p3)
def bc8q52 (p0 p1:List UInt8) (p2:CodD) (p3:Nat) (p4:FnD) (p5:Nat):Bool := okA p0 p1 (bc8q51 p2 p3 p4 p5)
def bc8q53 (p0 p1:List UInt8) (p2:CodD) (p3:Nat) (p4:FnD) (p5:Nat):Bool := !bc8q52 p0 p1 p2 p3 p4 p5
def bc8q54 (p0:FnD) (p1:Nat):Bool := decide (bc8q48 p0 p1 < Z0)
def bc8q55 (p0:FnD) (p1:Nat):Bool := bc8q46 p0 p1 == (25:Int)
def bc8q56 (p0:FnD) (p1:Nat):Bool := bc8q46 p0 p1 == (24:Int)
def bc8q57 (p0 p1:List UInt8) (p2:CodD) (p3:Nat) (p4:FnD) (p5:Nat) (p6:List UInt8):List UInt8 := if bc8q52 p0 p1 p2 p3 p4 p5 = true then newA p0 p1 p6 else []
def bc8q58 (p0 p1:List UInt8) (p2:CodD) (p3:Nat) (p4:FnD) (p5:Nat) (p6:List UInt8):Int := (LI (bc8q57 p0 p1 p2 p3 p4 p5 p6))
def bc8q59 (p0 p1:List UInt8) (p2:CodD) (p3:Nat) (p4:FnD) (p5:Nat) (p6:List UInt8):Bool := decide (Z0 < bc8q58 p0 p1 p2 p3 p4 p5 p6)
def bc8q60 (p0:FnD) (p1:Nat):Bool := decide (bc8q47 p0 p1 ≤ (↑p1:Int))
def bc8q61 (p0 p1:List UInt8) (p2:CodD) (p3:Nat) (p4:FnD) (p5:Nat) (p6:List UInt8):Bool := bif bif bif bc8q53 p0 p1 p2 p3 p4 p5 then true else bc8q54 p4 p5 then true else bif bif bc8q55 p4 p5 then true else bc8q56 p4 p5 then bc8q59 p0 p1 p2 p3 p4 p5 p6 else false then true else bif bc8q56 p4 p5 then bc8q60 p4 p5 else false
def bc8q62 (p0 p1:List UInt8) (p2:CodD) (p3:Nat) (p4:FnD) (p5:Nat) (p6:List UInt8):Prop := true = bc8q61 p0 p1 p2 p3 p4 p5 p6∧True
def bc8q63 (p0:Nat) (p1:FnD) (p2 p3:List UInt8) (p4:CodD) (p5:Nat) (p6:List UInt8):Prop := side (Z0 ≤ (↑p0:Int)∧(↑p0:Int) < bc8q41 p1) (ifB (bc8q56 p1 p0) (side (Z0 ≤ (↑p0:Int)∧(↑p0:Int) < bc8q41 p1) (bc8q60 p1 p0 = bc8q61 p2 p3 p4 p5 p1 p0 p6∧True)) (false = bc8q61 p2 p3 p4 p5 p1 p0 p6∧True))
def bc8q64 (p0 p1:List UInt8) (p2:CodD) (p3:Nat) (p4:FnD) (p5:Nat) (p6:List UInt8):Prop := ifB (bc8q59 p0 p1 p2 p3 p4 p5 p6) (bc8q62 p0 p1 p2 p3 p4 p5 p6) (bc8q63 p5 p4 p0 p1 p2 p3 p6)
def bc8q65 (p0:FnD):D := D.sl N4 (bc8q15 p0) (fun (i:Nat) => bc8q19 p0 i) Mode.any
def bc8q66 (p0:FnD):Prop := SM (bc8q65 p0)
def bc8q67 (p0:CodD) (p1 p2:Nat):Nat := bc8q23 p0 p1 - p2
def bc8q68 (p0:CodD) (p1 p2 p3:Nat):Prop := bc8q67 p0 p1 p2 < bc8q67 p0 p1 p3
def bc8q69 (p0:Nat) (p1:CodD) (p2:Nat):Prop := p0 ≤ bc8q23 p1 p2∧guardsB (empS p1 p2 N0 (bc8q22 p1 p2) []) (List.take p0 (bc8q22 p1 p2)) = true
def bc8q70 (p0:List Bool) (p1:FnD) (p2:Nat):Bool := !List.getD p0 (Int.toNat (bc8q47 p1 p2)) false
def bc8q71 (p0:FnD) (p1:Nat) (p2:List Bool):Bool := bif bc8q56 p0 p1 then bc8q70 p2 p0 p1 else false
def bc8q72 (p0:List Bool) (p1:Nat):D := D.sl N1 (LN p0) (fun (i:Nat) => bc8q44 p0 i) (Mode.tok N0 p1)
end
set_option maxHeartbeats 4000000 in
theorem rfun_ok (c:CodD) (f:Nat) (hf:f < c.funs.length) (hc:c.ok) (hn:(c.funs.getD f default).code.length ≤ 65536):ACalls Try.prog 44 [.agg c.row,.int .i64 f] ⟨[],[]⟩ (SpecR (sC [.agg c.row,.int .i64 f] (funD (funS c f))) ()) := by
  refine con_of (A := sC _ _) (x := ()) (E := E44 c f) (eOk (conG_ok hf hc) rfl) Try.func44 rfl (by kernel_rfl) rfl (by simp [sC,E44,EC,E0]) ?_
  refine vc_eq (T :=
    ∀ (x:Nat),True→(SM x∧side (Z0 ≤ (↑f:Int)∧(↑f:Int) < (NI (bc8q8 c))) (∃ (x_1:FnD),bc8q10 x_1 c f∧((bc8q13 c f = bc8q15 x_1∧(∀ (i:Nat),i < bc8q13 c f→(R4 (bc8q17 c f i)) = bc8q19 x_1 i)∧True)∧True)∧(SM x∧((SM (bc8q20 c)∧(∀ (i:Nat),i < bc8q20 c→SM (bc8q21 c i))∧True)∧(SM (bc8q8 c)∧(∀ (i:Nat),i < bc8q8 c→SM (bc8q25 c i))∧True)∧(SM (bc8q26 c)∧(∀ (i:Nat),i < bc8q26 c→SM (bc8q27 c i))∧True)∧(SM (bc8q28 c)∧(∀ (i:Nat),i < bc8q28 c→SM (bc8q29 c i))∧True)∧True)∧True)∧True))∧∀ (x_1:FnD),bc8q10 x_1 c f→(SM x∧side (Z0 ≤ (↑f:Int)∧(↑f:Int) < (NI (bc8q8 c))) (ifB (bc8q31 c f) (bc8q32 c f = bc8q33 c f∧True) (false = bc8q33 c f∧True)∧True∧ifB (!bc8q33 c f) (bc8q40 c f x) (ifB (bc8q41 x_1 == Z0) (bc8q40 c f x) (side (Z0 ≤ bc8q42 x_1∧bc8q42 x_1 < bc8q41 x_1) (∃ (x_2:Bool × O4),bc8q34 x_2.1 c f x_2.2∧((I4.a (List.getD (bc8q14 x_1) (Int.toNat (bc8q42 x_1)) bc8q16) != (25:Int)) = x_2.1∧True)∧bc8q39 x c x_2.2.1 x_2.2.2.1 x_2.2.2.2.1 x_2.2.2.2.2)))))∧∀ (x_2:Bool × O4),bc8q34 x_2.1 c f x_2.2→ifB x_2.1 (bc8q43 c f) (∀ (t:Nat),(∃ (x_3:(Nat × Nat × List Bool) × List UInt8 × Nat),RunHead c f x_3.1.1 x_3.2.1 x_3.1.2.1 x_3.1.2.2∧(Z0 = (NI x_3.1.1)∧eqOf (List UInt8) [] x_3.2.1∧Z0 = (NI x_3.1.2.1)∧(N0 = LN x_3.1.2.2∧(∀ (i:Nat),i < N0→eqOf (List D) [] (bc8q44 x_3.1.2.2 i))∧t = x_3.2.2)∧True)∧(SM x∧(weakD x_2.2.1 x_2.2.1∧weakD x_2.2.2.1 x_2.2.2.1∧weakD x_2.2.2.2.1 x_2.2.2.2.1∧weakD x_2.2.2.2.2 x_2.2.2.2.2∧True)∧True)∧t = x_3.2.2∧True)∧∀ (x_3:(Nat × Nat × List Bool) × List UInt8 × Nat),RunHead c f x_3.1.1 x_3.2.1 x_3.1.2.1 x_3.1.2.2→ifB (decide ((NI x_3.1.1) < bc8q41 x_1)) (SM x_3.2.2∧side ((LN x_3.1.2.2 + N1) * N1 ≤ (140737488355328:Nat)∧LN x_3.1.2.2 + N1 ≤ (9223372036854775807:Nat)) (∀ (t:Nat),SM x∧side (Z0 ≤ (NI x_3.1.1)∧(NI x_3.1.1) < bc8q41 x_1) ((((weakD x_2.2.1 (bc8q35 c)∧weakD x_2.2.2.1 (bc8q36 c)∧weakD x_2.2.2.2.1 (bc8q37 c)∧weakD x_2.2.2.2.2 (bc8q38 c)∧True)∧SM (↑f:Int)∧True)∧I4.ok (bc8q49 x_1 x_3.1.1))∧∀ (y:Eff),offQ (bc8q50 c f x_1 x_3.1.1) y→((bc8q51 c f x_1 x_3.1.1 = true→LN x_3.2.1 + LN y.2 ≤ (1000000:Nat)∧LN y.1 ≤ (1000000:Nat))∧LN x_3.2.1 ≤ (1000000:Nat))∧∀ (y_1:Unit),True→ifB (bc8q53 x_3.2.1 y.1 c f x_1 x_3.1.1) (bc8q62 x_3.2.1 y.1 c f x_1 x_3.1.1 y.2) (side (Z0 ≤ (NI x_3.1.1)∧(NI x_3.1.1) < bc8q41 x_1) (ifB (bc8q54 x_1 x_3.1.1) (bc8q62 x_3.2.1 y.1 c f x_1 x_3.1.1 y.2) (side (Z0 ≤ (NI x_3.1.1)∧(NI x_3.1.1) < bc8q41 x_1) (ifB (bc8q55 x_1 x_3.1.1) (bc8q64 x_3.2.1 y.1 c f x_1 x_3.1.1 y.2) (side (Z0 ≤ (NI x_3.1.1)∧(NI x_3.1.1) < bc8q41 x_1) (ifB (bc8q56 x_1 x_3.1.1) (bc8q64 x_3.2.1 y.1 c f x_1 x_3.1.1 y.2) (bc8q63 x_3.1.1 x_1 x_3.2.1 y.1 c f y.2)))))))∧ifB (bc8q61 x_3.2.1 y.1 c f x_1 x_3.1.1 y.2) (bc8q43 c f) ((SM (ZI (↑f:Int))∧SM (D.ref N0 x N0)∧bc8q66 x_1∧True)∧∃ (y_2:(Nat × Nat × List Bool) × List UInt8 × Nat),RunHead c f y_2.1.1 y_2.2.1 y_2.1.2.1 y_2.1.2.2∧bc8q68 c f y_2.1.1 x_3.1.1∧(IntKind.wrap IntKind.i64 ((NI x_3.1.1) + Z1) = (NI y_2.1.1)∧bc8q57 x_3.2.1 y.1 c f x_1 x_3.1.1 y.2 = y_2.2.1∧(if (NI x_3.1.2.1) < bc8q58 x_3.2.1 y.1 c f x_1 x_3.1.1 y.2 then bc8q58 x_3.2.1 y.1 c f x_1 x_3.1.1 y.2 else (NI x_3.1.2.1)) = (NI y_2.1.2.1)∧(LN x_3.1.2.2 + N1 = LN y_2.1.2.2∧(∀ (i:Nat),i < LN x_3.1.2.2 + N1→appF (LN x_3.1.2.2) (fun (i:Nat) => bc8q44 x_3.1.2.2 i) (fun (i:Nat) => List.getD [[D.bool ((LI x_3.2.1) == Z0)]] i []) i = bc8q44 y_2.1.2.2 i)∧t = y_2.2.2)∧True)∧(SM x∧(weakD x_2.2.1 x_2.2.1∧weakD x_2.2.2.1 x_2.2.2.1∧weakD x_2.2.2.2.1 x_2.2.2.2.1∧weakD x_2.2.2.2.2 x_2.2.2.2.2∧True)∧True)∧t = y_2.2.2∧True)))) ((∃ (x:Nat),bc8q69 x c f∧(Z0 = (↑x:Int)∧True)∧True∧True)∧∀ (x:Nat),bc8q69 x c f→ifB (decide ((↑x:Int) < bc8q41 x_1)) (side (Z0 ≤ (↑x:Int)∧(↑x:Int) < bc8q41 x_1) (ifB (bc8q56 x_1 x) (side (Z0 ≤ (↑x:Int)∧(↑x:Int) < bc8q41 x_1) (side (Z0 ≤ bc8q47 x_1 x∧bc8q47 x_1 x < (LI x_3.1.2.2)) (bc8q70 x_3.1.2.2 x_1 x = bc8q71 x_1 x x_3.1.2.2∧True))) (false = bc8q71 x_1 x x_3.1.2.2∧True))∧ifB (bc8q71 x_1 x x_3.1.2.2) (bc8q43 c f) ((bc8q66 x_1∧SM (ZI (NI x_3.1.2.1))∧SM (bc8q72 x_3.1.2.2 x_3.2.2)∧True)∧∃ (y:Nat),bc8q69 y c f∧bc8q68 c f y x∧(IntKind.wrap IntKind.i64 ((↑x:Int) + Z1) = (↑y:Int)∧True)∧True∧True)) (True∧∃ (y:Unit),True∧((NI x_3.1.2.1) = (NI (Option.getD (funS c f) N0))∧true = Option.isSome (funS c f)∧True)∧True∧True)))) (by kernel_rfl) ?_
  delta D4 DA DF DK DL GC GF GK GL LI LN N0 N1 N2 N4 NI R4 SM Z0 Z1 ZI bc8q10 bc8q11 bc8q12 bc8q13 bc8q14 bc8q15 bc8q16 bc8q17 bc8q18 bc8q19 bc8q20 bc8q21 bc8q22 bc8q23 bc8q24 bc8q25 bc8q26 bc8q27 bc8q28 bc8q29 bc8q30 bc8q31 bc8q32 bc8q33 bc8q34 bc8q35 bc8q36 bc8q37 bc8q38 bc8q39 bc8q40 bc8q41 bc8q42 bc8q43 bc8q44 bc8q45 bc8q46 bc8q47 bc8q48 bc8q49 bc8q50 bc8q51 bc8q52 bc8q53 bc8q54 bc8q55 bc8q56 bc8q57 bc8q58 bc8q59 bc8q60 bc8q61 bc8q62 bc8q63 bc8q64 bc8q65 bc8q66 bc8q67 bc8q68 bc8q69 bc8q70 bc8q71 bc8q72 bc8q8 bc8q9
  have de:(default:FnD) = ⟨0,[]⟩ := rfl
  have d4:(default:I4) = ⟨0,0,0,0⟩ := rfl
  simp only [← de,← d4,Int.toNat_natCast]
  simp only [ifB_iff,side_iff,decide_eq_true_eq,decide_eq_false_iff_not,true_and,and_true,beq_iff_eq,Bool.cond_false_right,Bool.cond_true_left,Bool.and_eq_true,Bool.and_eq_false_iff,beq_eq_false_iff_ne,ne_eq]
  intro x2 _
  refine ⟨⟨by omega,c.funs.getD f default,rfl,⟨rfl,fun _ _ => rfl⟩,fun _ _ => trivial,fun _ _ => trivial,fun _ _ => trivial,fun _ _ => trivial⟩,?_⟩
  rintro _ rfl
  have hco:∀ i:Nat,i < (c.funs.getD f default).code.length→((c.funs.getD f default).code.getD i default).ok := fun i hi => getD_ok (getD_ok hc.2.1 hf).2.1 hi
  have hw1:IntKind.i64.wrap (((c.funs.getD f default).code.length:Int) - 1) = ((c.funs.getD f default).code.length:Int) - 1 := wrap_i64' (by omega) (by omega)
  have hw2:(((c.funs.getD f default).code.length:Int) - 1).toNat = (c.funs.getD f default).code.length - 1 := by omega
  have no:funS c f = none→∃ y:Unit,(0:Int) = ((funS c f).getD 0:Nat)∧false = (funS c f).isSome := fun h => ⟨(),by simp [h],by simp [h]⟩
  have okp:okHead (c.funs.getD f default) = true↔(between (c.funs.getD f default).slots 0 1000 = true∧(c.funs.getD f default).code ≠ []∧((c.funs.getD f default).code.getD ((c.funs.getD f default).code.length - 1) default).a = 25) := by
    simp only [okHead,Bool.and_eq_true,decide_eq_true_eq,and_assoc]
  have fcut:∀ b,b = !okHead (c.funs.getD f default)→∃ y:Bool × O4,(y.1 = (!okHead (c.funs.getD f default))∧CB c y.2)∧b = y.1∧weakD (gsl 4 Arr.row c.consts) y.2.1∧weakD (gsl 2 FnD.row c.funs) y.2.2.1∧weakD (gsl 4 KeD.row c.kers) y.2.2.2.1∧weakD (gsl 2 LaD.row c.lanes) y.2.2.2.2 :=
    fun b h => ⟨(b,(gsl 4 Arr.row c.consts,gsl 2 FnD.row c.funs,gsl 4 KeD.row c.kers,gsl 2 LaD.row c.lanes)),⟨h,rfl⟩,rfl,weakD_refl _,weakD_refl _,weakD_refl _,weakD_refl _⟩
  refine ⟨⟨by omega,⟨fun h => by rw [decide_eq_true h,Bool.true_and],fun h => by rw [decide_eq_false h,Bool.false_and]⟩,fun h => fcut _ ?_,fun h1 => ⟨fun h => fcut _ ?_,fun h2 => ⟨by rw [hw1]; omega,fcut _ ?_⟩⟩⟩,?_⟩
  · symm
    rw [Bool.not_eq_true',← Bool.not_eq_true]
    intro ho
    have := (okp.1 ho).1
    simp only [between] at this
    rw [this] at h
    cases h
  · symm
    rw [Bool.not_eq_true',← Bool.not_eq_true]
    exact fun ho => (okp.1 ho).2.1 (List.eq_nil_of_length_eq_zero (by omega))
  · rw [hw1,hw2]
    have hb:between (c.funs.getD f default).slots 0 1000 = true := by simpa [between] using h1
    have hn:(c.funs.getD f default).code ≠ [] := by
      intro e; rw [e] at h2; exact h2 rfl
    simp only [okHead,hb,hn,Bool.true_and,decide_true,ne_eq,not_false_eq_true]
    rfl
  rintro ⟨b,dd⟩ ⟨hb,hdd⟩
  simp only at hb hdd ⊢
  have hD:weakD dd.1 (gsl 4 Arr.row c.consts)∧weakD dd.2.1 (gsl 2 FnD.row c.funs)∧weakD dd.2.2.1 (gsl 4 KeD.row c.kers)∧weakD dd.2.2.2 (gsl 2 LaD.row c.lanes) := by
    have h := hdd
    simp only [CB,O4.row,CodD.row,List.cons.injEq,and_true] at h
    obtain ⟨h1,h2,h3,h4⟩ := h
    rw [h1,h2,h3,h4]
    exact ⟨weakD_refl _,weakD_refl _,weakD_refl _,weakD_refl _⟩
  refine ⟨fun h => no ?_,fun h t => ?_⟩
  · rw [h] at hb
    simp only [funS]
    rw [if_neg]
    intro hh
    rw [okp.2 hh] at hb
    cases hb
  have hok := okp.1 (by rw [h] at hb; simpa using hb.symm)
  refine ⟨⟨((0,0,[]),[],t),⟨Nat.zero_le _,Nat.le_refl _,Nat.zero_le _,by simp,rfl,by simp⟩,⟨rfl,rfl,rfl,rfl,fun _ h => absurd h (Nat.not_lt_zero _),rfl⟩,⟨weakD_refl _,weakD_refl _,weakD_refl _,weakD_refl _⟩,rfl⟩,?_⟩
  rintro ⟨⟨i,deep,em⟩,st,t1⟩ hh
  simp only at hh ⊢
  refine ⟨fun hlt => ?_,fun hge => ?_⟩
  · have hlt:i < (c.funs.getD f default).code.length := by omega
    have hx := hco i hlt
    have hr := hh.hr
    have he0 := hh.he
    have hhi := hh.hi
    have hhs := hh.hs
    have hhd := hh.hd
    have hhl := hh.hl
    rw [drop_step hlt] at hr he0
    generalize (c.funs.getD f default).code.getD i default = x at *
    refine ⟨by omega,fun t2 => ⟨by omega,⟨hD,hx⟩,fun y hy => ?_⟩⟩
    generalize he:effC c f ⟨x.a,x.b,x.c,x.d⟩ = e at *
    have he:effC c f x = e := he
    have hlen:e.isSome = true→st.length + y.2.length ≤ 1000000∧y.1.length ≤ 1000000 := by
      intro h
      cases e with
      | none => cases h
      | some e' =>
        obtain rfl := hy e' rfl
        have := eff_len he
        omega
    have hst := step_all (i := i) (st := st) he hy
    have hie:((st.length:Int) == 0) = st.isEmpty := by
      cases st with
      | nil => rfl
      | cons a l => simp; omega
    refine ⟨⟨hlen,by omega⟩,fun _ _ => ⟨?_,fun h => no ?_,fun h => ?_⟩⟩
    · clear hst hlen hr he0 hh hco no okp fcut hD hdd hok hy he hx hhl hhd hc hw1 hw2 hb hf hn
      generalize okA st y.1 e.isSome = q
      generalize (if q = true then newA st y.1 y.2 else []) = nx
      cases q with
      | false => exact ⟨fun _ => rfl,fun h => by cases h⟩
      | true =>
        refine ⟨fun h => (by cases h),fun _ => ?_⟩
        (repeat' (first | refine And.intro ?_ ?_ | intro _))
        all_goals first
          | omega
          | (simp_all; done)
          | (simp_all; omega)
    · have hn0 := hst.1 h
      rw [runS,hn0] at hr
      simp only [funS]
      rw [if_pos hok,← hr]
    · obtain ⟨hq,hs⟩ := hst.2 h
      simp only [hq,if_true]
      have hnl := step_len hs
      rw [runS,hs] at hr
      rw [empS,hs] at he0
      refine ⟨((i + 1,max deep (newA st y.1 y.2).length,em ++ [st.isEmpty]),newA st y.1 y.2,t2),⟨by simp only; omega,by simp only; omega,by simp only; omega,hr,by simp [hhl],by simpa using he0⟩,by simp only; omega,⟨wrap_i64' (by omega) (by omega),rfl,maxI _ _,by simp,fun j hj => ?_,rfl⟩,⟨weakD_refl _,weakD_refl _,weakD_refl _,weakD_refl _⟩,rfl⟩
      rw [hie]
      exact app_bools hj
  · have hiN:i = (c.funs.getD f default).code.length := by have := hh.hi; omega
    have hr := hh.hr
    have he0 := hh.he
    have hl := hh.hl
    rw [hiN,List.drop_length] at hr he0
    rw [runS] at hr
    rw [empS,List.append_nil] at he0
    refine ⟨⟨0,⟨Nat.zero_le _,by simp [guardsB]⟩,rfl⟩,fun j hj => ⟨fun hlt => ?_,fun hge => ⟨(),?_⟩⟩⟩
    · have hlt:j < (c.funs.getD f default).code.length := by omega
      have hmem:(c.funs.getD f default).code.getD j default ∈ (c.funs.getD f default).code := getD_mem hlt
      have htk := take_step hlt
      have hj2 := hj.2
      rw [← he0] at hj2 ⊢
      generalize (c.funs.getD f default).code.getD j default = x at *
      have hrng:x.a = 24→0 ≤ x.b∧x.b < ((c.funs.getD f default).code.length:Int) := fun ha => (let ⟨_,he⟩ := run_mem _ _ _ _ _ hr.symm x hmem; eff_guard he ha)
      refine ⟨⟨by omega,fun ha => ⟨by omega,by rw [hl,hiN]; exact hrng ha,by simp [ha]⟩,fun ha => by simp [ha]⟩,fun hb => no ?_,fun hb => ⟨j + 1,⟨by omega,?_⟩,by omega,wrap_i64' (by omega) (by omega)⟩⟩
      · simp only [funS]
        rw [if_pos hok,← hr]
        simp only
        rw [if_neg]
        intro hg
        have := List.all_eq_true.1 hg x hmem
        rw [← he0] at this
        have h2:em.getD x.b.toNat false = false := by simpa using hb.2
        rw [h2] at this
        simp [hb.1] at this
      · rw [htk]
        simp only [guardsB,List.all_append,Bool.and_eq_true] at hj2 ⊢
        refine ⟨hj2,?_⟩
        simp only [List.all_cons,List.all_nil,Bool.and_true,Bool.or_eq_true,decide_eq_true_eq]
        rcases hb with hb | hb
        · exact .inl hb
        · exact .inr (by simpa using hb)
    · have hjN:j = (c.funs.getD f default).code.length := by omega
      have hg := hj.2
      rw [hjN,List.take_length] at hg
      have:funS c f = some deep := by simp only [funS]; rw [if_pos hok,← hr]; simp only; rw [if_pos hg]
      rw [this]
      exact ⟨rfl,rfl⟩
end Go.Proofs.Ytoglbmhkfkghbaa
namespace Go.Proofs.Ytoglbmhkfkghbaa
open Go Go.Ab
theorem eOk0 {E:Senv} (h:E = { E0 con0 E.n E.V E.cross E.ord with ann := E.ann,inl := inlD (E0 con0 0 0 [] (fun _ => ([],[]))) (frmGet frames) 5 }):EnvOk E := by
  rw [h]
  exact ⟨tab_ok,con0_ok,mix,fun k ds S R h => inlD_ok (E := E0 con0 0 0 [] (fun _ => ([],[]))) tab_ok con0_ok mix frames_ok eqs_ok 5 k ds S R h,eqs_ok⟩
def opB (inp:Int) (i:Nat) (o:I4):Bool := primB o.a && between o.c 0 (inp + i - 1) && between o.b (-1) (inp + i - 1) && decide (0 ≤ o.d)
def kerB (k:KeD):Bool := between k.inputs 1 16 && between k.ops.length 1 64 && decide (0 ≤ k.at_) && (decide (k.reduce = 0) || primB k.reduce) && (List.range k.ops.length).all fun i => opB k.inputs i (k.ops.getD i default)
def sKer:FnSpec where
  β := KeD
  α := Unit
  args := fun k => [.agg k.row]
  st := fun _ => ⟨[],[]⟩
  pre := fun _ => True
  post := fun _ _ => True
  res := fun k _ => .ret (.bool (kerB k))
  out := fun _ _ => ⟨[],[]⟩
theorem kerB_no {k:KeD} {i:Nat} (h:i < k.ops.length) (ho:opB k.inputs i (k.ops.getD i default) = false):false = kerB k := by
  have:((List.range k.ops.length).all fun i => opB k.inputs i (k.ops.getD i default)) = false := by
    rw [List.all_eq_false]
    exact ⟨i,List.mem_range.2 h,by simp only [ho]; simp⟩
  simp only [kerB,this,Bool.and_false]
theorem kerB_yes {k:KeD} (h1:1 ≤ k.inputs) (h2:k.inputs ≤ 16) (h3:1 ≤ (k.ops.length:Int)) (h4:(k.ops.length:Int) ≤ 64) (h5:¬ k.at_ < 0) (h6:k.reduce = 0∨(1 ≤ k.reduce∧k.reduce ≤ 55)) (ho:∀ j,j < k.ops.length→opB k.inputs j (k.ops.getD j default) = true):true = kerB k := by
  have:((List.range k.ops.length).all fun i => opB k.inputs i (k.ops.getD i default)) = true := by
    rw [List.all_eq_true]
    exact fun i hi => ho i (List.mem_range.1 hi)
  symm
  simp only [kerB,this,between,primB,Bool.and_true,Bool.and_eq_true,Bool.or_eq_true,decide_eq_true_eq]
  refine ⟨⟨⟨⟨h1,h2⟩,h3,h4⟩,by omega⟩,h6⟩
def kerAnn (k:KeD) (d:D):Option LoopAnn :=
  match d with
  | .ref t x _ => some { slots := [36],keep := [1,34,35],α := Nat,st := fun i => ([.int .i64 i],⟨[(t,x,.cells k.row)],[]⟩),inv := fun i => i ≤ k.ops.length∧∀ j,j < i→opB k.inputs j (k.ops.getD j default) = true,mu := fun i => k.ops.length - i }
  | _ => none
noncomputable def Eker (k:KeD):Senv := { E0 con0 70 6 [32,34,35,36,37,68] (fun _ => ([],[])) with
  inl := inlD (E0 con0 0 0 [] (fun _ => ([],[]))) (frmGet frames) 5
  ann := fun b env _ => match b with
    | 0 => kerAnn k (Ab.look env 1)
    | _ => none }
noncomputable section
def ke1q0 (p0:KeD):Int := KeD.inputs p0
def ke1q1 (p0:KeD):Prop := True∧∃ (_y:Unit),True∧false = kerB p0∧True∧True
def ke1q2 (p0:KeD):Nat := LN (KeD.ops p0)
def ke1q3 (p0:KeD):Int := (NI (ke1q2 p0))
def ke1q4 (p0:KeD):Int := KeD.reduce p0
def ke1q5 (p0:KeD) (p1:Nat):I4 := G4 (KeD.ops p0) p1
def ke1q6 (p0:Nat) (p1:KeD):Prop := p0 ≤ ke1q2 p1∧∀ (j:Nat),j < p0→opB (ke1q0 p1) j (ke1q5 p1 j) = true
def ke1q7 (p0:KeD) (p1:Nat):List D := (R4 (ke1q5 p0 p1))
def ke1q8 (p0:Nat) (p1:KeD):Prop := (SM p0∧(SM (ke1q0 p1)∧(SM (ke1q2 p1)∧(∀ (i:Nat),i < ke1q2 p1→SM (ke1q7 p1 i))∧True)∧SM (ke1q4 p1)∧SM (KeD.at_ p1)∧True)∧True)∧True
def ke1q9 (p0:KeD) (p1:Nat):I4 := G4 (KeD.ops p0) (Int.toNat (↑p1:Int))
def ke1q10 (p0:KeD) (p1:Nat):Int := I4.a (ke1q9 p0 p1)
def ke1q11 (p0:KeD) (p1:Nat):Int := I4.c (ke1q9 p0 p1)
def ke1q12 (p0:KeD) (p1:Nat):Int := IntKind.wrap IntKind.i64 (IntKind.wrap IntKind.i64 (ke1q0 p0 + (↑p1:Int)) - Z1)
def ke1q13 (p0:KeD) (p1:Nat):Int := I4.b (ke1q9 p0 p1)
def ke1q14 (p0:KeD):D := D.sl N4 (ke1q2 p0) (fun (i:Nat) => ke1q7 p0 i) Mode.any
def ke1q15 (p0:KeD):Prop := True∧ke1q1 p0
def ke1q16 (p0:KeD):Prop := True∧ke1q15 p0
def ke1q17 (p0:Nat) (p1:KeD):Prop := SM p0∧(∃ (x:Nat),ke1q6 x p1∧(Z0 = (↑x:Int)∧True)∧ke1q8 p0 p1)∧∀ (x:Nat),ke1q6 x p1→ifB (decide ((↑x:Int) < ke1q3 p1)) (side (Z0 ≤ (↑x:Int)∧(↑x:Int) < ke1q3 p1) (∀ (x_1:Nat),p0 ≠ x_1∧True→SM x_1∧SM p0∧SM x_1∧ifB (decide (Z1 ≤ ke1q10 p1 x)) (True∧True∧ifB (!decide (ke1q10 p1 x ≤ (55:Int))) (ke1q1 p1) (SM x_1∧ifB (decide (Z0 ≤ ke1q11 p1 x)) (True∧ifB (!decide (ke1q11 p1 x ≤ ke1q12 p1 x)) (ke1q1 p1) (SM x_1∧ifB (decide ((-1:Int) ≤ ke1q13 p1 x)) (True∧ifB (!decide (ke1q13 p1 x ≤ ke1q12 p1 x)) (ke1q1 p1) (SM x_1∧ifB (decide (I4.d (ke1q9 p1 x) < Z0)) (ke1q1 p1) ((SM (D.ref N0 p0 N0)∧SM (ke1q14 p1)∧SM (ZI (ke1q3 p1))∧True)∧∃ (y:Nat),ke1q6 y p1∧ke1q2 p1 - y < ke1q2 p1 - x∧(IntKind.wrap IntKind.i64 ((↑x:Int) + Z1) = (↑y:Int)∧True)∧ke1q8 p0 p1))) (ke1q15 p1))) (ke1q15 p1))) (ke1q16 p1))) (True∧∃ (_y:Unit),True∧true = kerB p1∧True∧True)
end
theorem ker_ok (k:KeD) (_h:k.ok):ACalls Try.prog 38 (sKer.args k) (sKer.st k) (SpecR sKer k) := by
  refine con_of (A := sKer) (x := k) (E := Eker k) (eOk0 rfl) Try.func38 rfl (by kernel_rfl) rfl (by simp [sKer,Eker,E0]) ?_
  refine vc_eq (T :=
    ∀ (x:Nat),True→SM x∧ifB (decide (Z1 ≤ ke1q0 k)) (True∧ifB (!decide (ke1q0 k ≤ (16:Int))) (ke1q1 k) (SM x∧ifB (decide (Z1 ≤ ke1q3 k)) (True∧ifB (!decide (ke1q3 k ≤ (64:Int))) (ke1q1 k) (SM x∧ifB (decide (KeD.at_ k < Z0)) (ke1q1 k) (SM x∧ifB (ke1q4 k != Z0) (SM x∧ifB (decide (Z1 ≤ ke1q4 k)) (True∧True∧ifB (!decide (ke1q4 k ≤ (55:Int))) (ke1q1 k) (ke1q17 x k)) (ke1q16 k)) (ke1q17 x k)))) (ke1q15 k))) (ke1q15 k)) (by kernel_rfl) ?_
  delta D4 G4 LN N0 N4 NI R4 SM Z0 Z1 ZI ke1q0 ke1q1 ke1q10 ke1q11 ke1q12 ke1q13 ke1q14 ke1q15 ke1q16 ke1q17 ke1q2 ke1q3 ke1q4 ke1q5 ke1q6 ke1q7 ke1q8 ke1q9
  intro x _
  simp only [ifB_iff,side_iff,decide_eq_true_eq,decide_eq_false_iff_not,true_and,and_true,Bool.not_eq_true',Bool.not_eq_false',Int.toNat_natCast,exists_const,bne_iff_ne,ne_eq,bne_eq_false_iff_eq]
  refine ⟨fun h1 => ⟨fun n => by simp [kerB,between,n],fun h2 => ⟨fun h3 => ⟨fun n => by simp [kerB,between]; omega,fun h4 => ⟨fun n => by simp [kerB]; omega,fun h5 => ⟨fun r0 => ⟨fun r1 => ⟨fun n => by simp [kerB,primB,between]; omega,fun r2 => ?_⟩,fun n => by simp [kerB,primB,between]; omega⟩,fun r0 => ?_⟩⟩⟩,fun n => by simp [kerB,between]; omega⟩⟩,fun n => by simp [kerB,between,n]⟩
  · have H6:k.reduce = 0∨(1 ≤ k.reduce∧k.reduce ≤ 55) := .inr ⟨r1,r2⟩
    refine ⟨⟨0,⟨Nat.zero_le _,fun j hj => absurd hj (Nat.not_lt_zero j)⟩,rfl,fun _ _ => trivial⟩,fun i hi => ⟨fun hlt => ⟨⟨by omega,hlt⟩,fun y _ => ?_⟩,fun hge => ?_⟩⟩
    · have hl:i < k.ops.length := by omega
      have hw:IntKind.i64.wrap (IntKind.i64.wrap (k.inputs + (i:Int)) - 1) = k.inputs + i - 1 := by
        rw [wrap_i64' (n := k.inputs + i) (by omega) (by omega),wrap_i64' (by omega) (by omega)]
      rw [hw]
      have no:∀ {b:Bool},opB k.inputs i (k.ops.getD i default) = b→b = false→false = kerB k := fun h1 h2 => kerB_no hl (h1.trans h2)
      have de:(default:I4) = ⟨0,0,0,0⟩ := rfl
      rw [← de] at *
      generalize hk:k.ops.getD i default = o at *
      refine ⟨fun a1 => ⟨fun a2 => no rfl (by simp [opB,primB,between]; omega),fun a2 => ⟨fun c1 => ⟨fun c2 => no rfl (by simp [opB,primB,between]; omega),fun c2 => ⟨fun b1 => ⟨fun b2 => no rfl (by simp [opB,primB,between]; omega),fun b2 => ⟨fun d1 => no rfl (by simp [opB,primB,between]; omega),fun d1 => ⟨i + 1,⟨by omega,fun j hj => ?_⟩,by omega,wrap_i64' (by omega) (by omega),fun _ _ => trivial⟩⟩⟩,fun b1 => no rfl (by simp [opB,primB,between]; omega)⟩⟩,fun c1 => no rfl (by simp [opB,primB,between]; omega)⟩⟩,fun a1 => no rfl (by simp [opB,primB,between]; omega)⟩
      by_cases e:j = i
      · subst e; rw [hk]; simp only [opB,primB,between,Bool.and_eq_true,decide_eq_true_eq]; omega
      · exact hi.2 j (by omega)
    · exact kerB_yes h1 h2 h3 h4 h5 H6 fun j hj => hi.2 j (by omega)
  · have H6:k.reduce = 0∨(1 ≤ k.reduce∧k.reduce ≤ 55) := .inl r0
    refine ⟨⟨0,⟨Nat.zero_le _,fun j hj => absurd hj (Nat.not_lt_zero j)⟩,rfl,fun _ _ => trivial⟩,fun i hi => ⟨fun hlt => ⟨⟨by omega,hlt⟩,fun y _ => ?_⟩,fun hge => ?_⟩⟩
    · have hl:i < k.ops.length := by omega
      have hw:IntKind.i64.wrap (IntKind.i64.wrap (k.inputs + (i:Int)) - 1) = k.inputs + i - 1 := by
        rw [wrap_i64' (n := k.inputs + i) (by omega) (by omega),wrap_i64' (by omega) (by omega)]
      rw [hw]
      have no:∀ {b:Bool},opB k.inputs i (k.ops.getD i default) = b→b = false→false = kerB k := fun h1 h2 => kerB_no hl (h1.trans h2)
      have de:(default:I4) = ⟨0,0,0,0⟩ := rfl
      rw [← de] at *
      generalize hk:k.ops.getD i default = o at *
      refine ⟨fun a1 => ⟨fun a2 => no rfl (by simp [opB,primB,between]; omega),fun a2 => ⟨fun c1 => ⟨fun c2 => no rfl (by simp [opB,primB,between]; omega),fun c2 => ⟨fun b1 => ⟨fun b2 => no rfl (by simp [opB,primB,between]; omega),fun b2 => ⟨fun d1 => no rfl (by simp [opB,primB,between]; omega),fun d1 => ⟨i + 1,⟨by omega,fun j hj => ?_⟩,by omega,wrap_i64' (by omega) (by omega),fun _ _ => trivial⟩⟩⟩,fun b1 => no rfl (by simp [opB,primB,between]; omega)⟩⟩,fun c1 => no rfl (by simp [opB,primB,between]; omega)⟩⟩,fun a1 => no rfl (by simp [opB,primB,between]; omega)⟩
      by_cases e:j = i
      · subst e; rw [hk]; simp only [opB,primB,between,Bool.and_eq_true,decide_eq_true_eq]; omega
      · exact hi.2 j (by omega)
    · exact kerB_yes h1 h2 h3 h4 h5 H6 fun j hj => hi.2 j (by omega)
end Go.Proofs.Ytoglbmhkfkghbaa
namespace Go.Proofs.Ytoglbmhkfkghbaa
open Go Go.Ab
def sKq (q:KeD→Prop) (r:KeD→Bool):FnSpec where
  β := KeD
  α := Unit
  args := fun k => [.agg k.row]
  st := fun _ => ⟨[],[]⟩
  pre := q
  post := fun _ _ => True
  res := fun k _ => .ret (.bool (r k))
  out := fun _ _ => ⟨[],[]⟩
def conKe (k:KeD):Con := fun f _ _ => match f with
  | 38 => some (sKq (fun x => x = k) kerB)
  | _ => none
theorem conKe_ok {k:KeD} (hk:k.ok):ConOk Try.prog (conKe k) := by
  intro f ds S A h
  unfold conKe at h
  split at h
  · injection h with h; subst h
    refine ConOk.plain (fun b hb => ?_) rfl rfl
    have hb:b = k := hb
    rw [hb]
    exact (ker_ok k hk).mono fun _ _ ⟨y,h1,h2,h3⟩ => ⟨y,h1,h2,h3⟩
  · cases h
noncomputable def Ebk (k:KeD):Senv := EC (conKe k) 6 3 [] (fun _ => ([],[]))
noncomputable section
def ke3q0 (p0:KeD):Nat := LN (KeD.ops p0)
def ke3q1 (p0:KeD) (p1:Nat):I4 := G4 (KeD.ops p0) p1
def ke3q2 (p0:KeD) (p1:Nat):List D := (R4 (ke3q1 p0 p1))
end
theorem badk_ok (k:KeD) (hk:k.ok):ACalls Try.prog 37 ((sKq (fun _ => True) (fun k => !kerB k)).args k) ⟨[],[]⟩ (SpecR (sKq (fun _ => True) (fun k => !kerB k)) k) := by
  refine con_of (A := sKq (fun _ => True) (fun k => !kerB k)) (x := k) (E := Ebk k) (eOk (conKe_ok hk) rfl) Try.func37 rfl (by kernel_rfl) rfl (by simp [sKq,Ebk,EC,E0]) ?_
  simp only [sKq]
  refine vc_eq (T :=
    ∀ (x:Nat),True→SM x∧∃ (x:KeD),((KeD.inputs k = KeD.inputs x∧(ke3q0 k = ke3q0 x∧(∀ (i:Nat),i < ke3q0 k→ke3q2 k i = ke3q2 x i)∧True)∧KeD.reduce k = KeD.reduce x∧KeD.at_ k = KeD.at_ x∧True)∧True)∧(True∧True)∧x = k∧∀ (y:Unit),True→True∧∃ (y:Unit),True∧(!kerB x) = !kerB k∧True∧True) (by kernel_rfl) ?_
  delta D4 G4 LN R4 SM Z0 ZI ke3q0 ke3q1 ke3q2
  simp only [and_true,exists_const]
  intro x _
  exact ⟨trivial,k,⟨rfl,⟨rfl,fun _ _ => rfl⟩,rfl,rfl⟩,trivial,rfl,fun _ _ => ⟨trivial,trivial,rfl⟩⟩
def conBk (l:List KeD):Con := fun k _ _ => match k with
  | 37 => some (sKq (fun b => b ∈ l) (fun b => !kerB b))
  | _ => none
theorem conBk_ok {l:List KeD} (h:∀ a ∈ l,a.ok):ConOk Try.prog (conBk l) := by
  intro k ds S A hh
  unfold conBk at hh
  split at hh
  · injection hh with hh; subst hh
    exact ConOk.plain (fun b hb => (badk_ok b (h b hb)).mono fun _ _ ⟨y,h1,h2,h3⟩ => ⟨y,h1,h2,h3⟩) rfl rfl
  · cases hh
noncomputable def Eixk (l:List KeD):Senv := { EC (conBk l) 19 2 [4,5,7,8,9,16] (fun _ => ([],[])) with
  ann := fun b _ _ => match b with
    | 0 => some { slots := [8],keep := [0,1,6,7],α := Nat,st := fun i => ([.int .i64 i],⟨[],[]⟩),inv := fun i => IdxG (fun a => !kerB a) l i,mu := fun i => l.length - i }
    | _ => none }
noncomputable section
def ke3q3 (p0:KeD):Bool := !kerB p0
def ke3q4 (p0:List KeD) (p1:Nat):Prop := IdxG (fun (a:KeD) => ke3q3 a) p0 p1
def ke3q5:KeD := DK
def ke3q6 (p0:List KeD) (p1:Nat):KeD := List.getD p0 (Int.toNat (↑p1:Int)) ke3q5
def ke3q7 (p0:List KeD) (p1:Nat):List I4 := KeD.ops (ke3q6 p0 p1)
def ke3q8 (p0:List KeD) (p1:Nat):Nat := LN (ke3q7 p0 p1)
def ke3q9 (p0:List KeD) (p1 p2:Nat):I4 := G4 (ke3q7 p0 p1) p2
def ke3q10 (p0:KeD) (p1:Nat):I4 := G4 (KeD.ops p0) p1
def ke3q11 (p0:List KeD):Int := idxG (fun (a:KeD) => ke3q3 a) p0 Z0
def ke3q12 (p0:List KeD):D := D.sl N4 (LN p0) (fun (i:Nat) => KeD.row (List.getD p0 i ke3q5)) Mode.any
end
theorem ixk_ok (l:List KeD) (h:∀ a ∈ l,a.ok) (hl:l.length ≤ maxLen):ACalls Try.prog 60 [gsl 4 KeD.row l,.fn (.func 37) [] []] ⟨[],[]⟩ (SpecR (sC [gsl 4 KeD.row l,.fn (.func 37) [] []] (.int .i64 (idxG (fun a => !kerB a) l 0))) ()) := by
  refine con_of (A := sC _ _) (x := ()) (E := Eixk l) (eOk (conBk_ok h) rfl) Try.func60 rfl (by kernel_rfl) rfl (by simp [sC,Eixk,EC,E0]) ?_
  refine vc_eq (T :=
    (∃ (x:Nat),ke3q4 l x∧(Z0 = (↑x:Int)∧True)∧True∧True)∧∀ (x:Nat),ke3q4 l x→ifB (decide ((↑x:Int) < (LI l))) (side (Z0 ≤ (↑x:Int)∧(↑x:Int) < (LI l)) (∃ (x_1:KeD),((KeD.inputs (ke3q6 l x) = KeD.inputs x_1∧(ke3q8 l x = LN (KeD.ops x_1)∧(∀ (i:Nat),i < ke3q8 l x→(R4 (ke3q9 l x i)) = (R4 (ke3q10 x_1 i)))∧True)∧KeD.reduce (ke3q6 l x) = KeD.reduce x_1∧KeD.at_ (ke3q6 l x) = KeD.at_ x_1∧True)∧True)∧(True∧True)∧x_1 ∈ l∧∀ (y:Unit),True→ifB (ke3q3 x_1) (True∧∃ (y:Unit),True∧(↑x:Int) = ke3q11 l∧True∧True) ((SM (ke3q12 l)∧SM (D.fn (Fn.func (37:Nat)) [] [])∧SM D.unk∧SM (ZI (LI l))∧True)∧∃ (y:Nat),ke3q4 l y∧LN l - y < LN l - x∧(IntKind.wrap IntKind.i64 ((↑x:Int) + Z1) = (↑y:Int)∧True)∧True∧True))) (True∧∃ (y:Unit),True∧(-1:Int) = ke3q11 l∧True∧True)) (by kernel_rfl) ?_
  delta D4 DK G4 LI LN N4 R4 SM Z0 Z1 ZI ke3q10 ke3q11 ke3q12 ke3q3 ke3q4 ke3q5 ke3q6 ke3q7 ke3q8 ke3q9
  simp only [Int.toNat_natCast,ifB_iff,side_iff,decide_eq_true_eq,decide_eq_false_iff_not,true_and,and_true,exists_const]
  simp only [maxLen] at hl
  refine ⟨⟨0,⟨Nat.zero_le _,by simp⟩,rfl⟩,fun i hh => ⟨fun hlt => ?_,fun hge => (hh.done hge).symm⟩⟩
  have hlt':i < l.length := by omega
  obtain ⟨s1,s2⟩ := hh.step hlt'
  exact ⟨⟨by omega,hlt⟩,l.getD i default,⟨rfl,⟨rfl,fun _ _ => rfl⟩,rfl,rfl⟩,mem_getD hlt',fun _ _ => ⟨fun e => (s1 e).symm,fun e => ⟨i + 1,s2 e,by omega,wrap_i64' (by omega) (by omega)⟩⟩⟩
noncomputable def Ecfk (l:List KeD):Senv := EC (fun k ds _ => match k with
  | 60 => some (pC ds (.int .i64 (idxG (fun a => !kerB a) l 0)) (ds = [gsl 4 KeD.row l,.fn (.func 37) [] []]))
  | _ => none) 9 2 [4] (fun _ => ([],[]))
noncomputable section
def ke3q13 (p0:List KeD):List D := [D.sl N4 (LN p0) (fun (i:Nat) => KeD.row (List.getD p0 i DK)) Mode.any,D.fn (Fn.func (37:Nat)) [] []]
end
theorem cfk_ok (l:List KeD) (h:∀ a ∈ l,a.ok) (hl:l.length ≤ maxLen):ACalls Try.prog 36 [gsl 4 KeD.row l,.fn (.func 37) [] []] ⟨[],[]⟩ (SpecR (sC [gsl 4 KeD.row l,.fn (.func 37) [] []] (.bool (l.any fun a => !kerB a))) ()) := by
  refine con_of (A := sC _ _) (x := ()) (E := Ecfk l) (eOk ?_ rfl) Try.func36 rfl (by kernel_rfl) rfl (by simp [sC,Ecfk,EC,E0]) ?_
  · intro k ds S A hh
    dsimp only at hh
    split at hh
    · injection hh with hh; subst hh
      refine pC_ok fun e => ⟨weakL_refl _,?_⟩
      rw [e]
      exact ixk_ok l h hl
    · cases hh
  refine vc_eq (T :=
    SM (ke3q13 l)∧∀ (y:Unit),True→True∧∃ (y:Unit),True∧(decide (Z0 ≤ idxG (fun (a:KeD) => !kerB a) l Z0) = List.any l fun (a:KeD) => !kerB a)∧True∧True) (by kernel_rfl) ?_
  delta DK LN N4 SM Z0 ke3q13
  simp only [true_and,and_true,exists_const]
  exact fun _ _ => idxG_any _ l 0 (Int.le_refl _)
end Go.Proofs.Ytoglbmhkfkghbaa
namespace Go.Proofs.Ytoglbmhkfkghbaa
open Go Go.Ab
def totI:List FnD→Int→Int
  | [],t => t
  | x :: r,t => totI r (IntKind.i64.wrap (t + x.code.length))
def conRt (c:CodD):Con := fun k ds _ => match k with
  | 33 => some (pC ds (.bool (c.consts.any fun a => (chkA a).1 != 0)) (weakL ds [gsl 4 Arr.row c.consts,.fn (.func 34) [] []]))
  | 36 => some (pC ds (.bool (c.kers.any fun a => !kerB a)) (weakL ds [gsl 4 KeD.row c.kers,.fn (.func 37) [] []]))
  | 39 => match ds with
    | [_,.int .i64 z] => some (pC ds (funD (funS c z.toNat)) (weakL ds [.agg c.row,.int .i64 z.toNat]∧z.toNat < c.funs.length))
    | _ => none
  | _ => none
theorem conRt_ok {c:CodD} (hc:c.ok) (hs:∀ f,f < c.funs.length→(c.funs.getD f default).code.length ≤ 65536):ConOk Try.prog (conRt c) := by
  intro k ds S A h
  unfold conRt at h
  split at h
  · injection h with h; subst h
    exact pC_ok fun e => ⟨weakL_refl _,sC_weak e (cf_ok _ hc.1 hc.2.2.2.2.1)⟩
  · injection h with h; subst h
    exact pC_ok fun e => ⟨weakL_refl _,sC_weak e (cfk_ok _ hc.2.2.1 hc.2.2.2.2.2.2.1)⟩
  · split at h
    · injection h with h; subst h
      exact pC_ok fun ⟨e,hf⟩ => ⟨weakL_refl _,sC_weak e (fun_ok c _ hf hc (hs _ hf))⟩
    · cases h
  · cases h
noncomputable def Ert (c:CodD):Senv := { EC (conRt c) 82 4 [5,6,7,8,10,11,12,13,41,44,63,66,69,70,71,80] (fun _ => ([],[])) with
  ann := fun b _ S => match b with
    | 0 => some { slots := [12,3],keep := [0,1,2,10,11],α := Nat × Int,st := fun y => ([.int .i64 y.1,.int .i64 y.2],S),inv := fun y => y.1 ≤ c.funs.length∧totI (c.funs.drop y.1) y.2 = totI c.funs 0,mu := fun y => c.funs.length - y.1 }
    | 2 => some { slots := [70],keep := [0,1,2,68,69],α := Nat,st := fun i => ([.int .i64 i],S),inv := fun i => i ≤ c.funs.length∧∀ j,j < i→(funS c j).isSome = true,mu := fun i => c.funs.length - i }
    | _ => none }
def rightC (c:CodD):Int :=
  if 1024 < c.funs.length∨65536 < totI c.funs 0∨65536 < c.consts.length∨4096 < c.kers.length then 21
  else if (c.consts.any fun a => (chkA a).1 != 0) = true then 1
  else if c.funs.length = 0∨(c.lanes.length ≠ 0∧c.lanes.length ≠ c.kers.length) then 26
  else if (c.kers.any fun a => !kerB a) = true then 26
  else if ((List.range c.funs.length).all fun f => (funS c f).isSome) = true then 0 else 26
noncomputable section
def ri1q0 (p0:CodD):List FnD := CodD.funs p0
def ri1q1 (p0:CodD):Nat := LN (ri1q0 p0)
def ri1q2 (p0:Nat) (p1:CodD) (p2:Int):Prop := p0 ≤ ri1q1 p1∧totI (List.drop p0 (ri1q0 p1)) p2 = totI (ri1q0 p1) Z0
def ri1q3 (p0:CodD):Nat := LN (CodD.consts p0)
def ri1q4 (p0:CodD) (p1:Nat):List D := Arr.row (GC p0 p1)
def ri1q5 (p0:CodD):Prop := SM (ri1q3 p0)∧(∀ (i:Nat),i < ri1q3 p0→SM (ri1q4 p0 i))∧True
def ri1q6 (p0:CodD) (p1:Nat):FnD := List.getD (ri1q0 p0) p1 DF
def ri1q7 (p0:CodD) (p1:Nat):List I4 := FnD.code (ri1q6 p0 p1)
def ri1q8 (p0:CodD) (p1 p2:Nat):I4 := G4 (ri1q7 p0 p1) p2
def ri1q9 (p0:CodD) (p1:Nat):List D := [ZI (FnD.slots (ri1q6 p0 p1)),D.sl N4 (LN (ri1q7 p0 p1)) (fun (i:Nat) => (R4 (ri1q8 p0 p1 i))) Mode.any]
def ri1q10 (p0:CodD):Nat := LN (CodD.kers p0)
def ri1q11 (p0:CodD) (p1:Nat):List D := KeD.row (GK p0 p1)
def ri1q12 (p0:CodD):Prop := SM (ri1q10 p0)∧(∀ (i:Nat),i < ri1q10 p0→SM (ri1q11 p0 i))∧True
def ri1q13 (p0:CodD):Nat := LN (CodD.lanes p0)
def ri1q14 (p0:CodD) (p1:Nat):List D := LaD.row (GL p0 p1)
def ri1q15 (p0:CodD):Prop := ri1q5 p0∧(SM (ri1q1 p0)∧(∀ (i:Nat),i < ri1q1 p0→SM (ri1q9 p0 i))∧True)∧ri1q12 p0∧(SM (ri1q13 p0)∧(∀ (i:Nat),i < ri1q13 p0→SM (ri1q14 p0 i))∧True)∧True
def ri1q16 (p0:Nat) (p1:CodD):Prop := (SM p0∧ri1q15 p1∧True)∧True
def ri1q17 (p0:CodD):Int := (NI (ri1q1 p0))
def ri1q18 (p0:CodD):D := D.sl N2 (ri1q1 p0) (fun (i:Nat) => ri1q9 p0 i) Mode.any
def ri1q19 (p0:CodD):D := D.agg [D.sl N4 (ri1q3 p0) (fun (i:Nat) => ri1q4 p0 i) Mode.any,ri1q18 p0,D.sl N4 (ri1q10 p0) (fun (i:Nat) => ri1q11 p0 i) Mode.any,D.sl N2 (ri1q13 p0) (fun (i:Nat) => ri1q14 p0 i) Mode.any]
def ri1q20 (p0:CodD):Prop := SM (ri1q19 p0)
def ri1q21 (p0:CodD):Prop := SM (ZI (ri1q17 p0))∧True
def ri1q22 (p0:CodD) (p1 p2:Nat):Prop := ri1q1 p0 - p1 < ri1q1 p0 - p2
def ri1q23 (p0:CodD):Bool := decide ((1024:Int) < ri1q17 p0)
def ri1q24 (p0:CodD):Bool := decide ((65536:Int) < (NI (ri1q3 p0)))
def ri1q25 (p0:CodD):Bool := decide ((4096:Int) < (NI (ri1q10 p0)))
def ri1q26 (p0:CodD) (p1:Int):Bool := bif bif bif ri1q23 p0 then true else decide ((65536:Int) < p1) then true else ri1q24 p0 then true else ri1q25 p0
def ri1q27 (p0:CodD) (p1:Int):Prop := true = ri1q26 p0 p1∧True
def ri1q28 (p0:CodD):Int := rightC p0
def ri1q29 (p0:CodD):Bool := (NI (ri1q13 p0)) != (NI (ri1q10 p0))
def ri1q30 (p0:CodD):Bool := bif ri1q17 p0 == Z0 then true else bif (NI (ri1q13 p0)) != Z0 then ri1q29 p0 else false
def ri1q31 (p0:CodD):Prop := True∧∃ (_y:Unit),True∧(26:Int) = ri1q28 p0∧True∧True
def ri1q32 (p0:Nat) (p1:CodD):Prop := p0 ≤ ri1q1 p1∧∀ (j:Nat),j < p0→Option.isSome (funS p1 j) = true
end
theorem rt_ok (c:CodD) (hc:c.ok) (hs:∀ f,f < c.funs.length→(c.funs.getD f default).code.length ≤ 65536):ACalls Try.prog 20 [.agg c.row] ⟨[],[]⟩ (SpecR (sC [.agg c.row] (.int .i64 (rightC c))) ()) := by
  refine con_of (A := sC _ _) (x := ()) (E := Ert c) (eOk (conRt_ok hc hs) rfl) Try.func20 rfl (by kernel_rfl) rfl (by simp [sC,Ert,EC,E0]) ?_
  refine vc_eq (T :=
    ∀ (x:Nat),True→SM x∧(∃ (x_1:Nat × Int),ri1q2 x_1.1 c x_1.2∧(Z0 = (NI x_1.1)∧Z0 = x_1.2∧True)∧ri1q16 x c)∧∀ (x_1:Nat × Int),ri1q2 x_1.1 c x_1.2→ifB (decide ((NI x_1.1) < ri1q17 c)) (side (Z0 ≤ (NI x_1.1)∧(NI x_1.1) < ri1q17 c) (∀ (x_2:Nat),x ≠ x_2∧True→SM x_2∧SM x_2∧(ri1q20 c∧SM (D.ref N0 x N0)∧SM (ZI Z0)∧SM (ri1q18 c)∧ri1q21 c)∧∃ (y:Nat × Int),ri1q2 y.1 c y.2∧ri1q22 c y.1 x_1.1∧(IntKind.wrap IntKind.i64 ((NI x_1.1) + Z1) = (NI y.1)∧IntKind.wrap IntKind.i64 (x_1.2 + (LI (FnD.code (List.getD (ri1q0 c) (TN x_1.1) DF)))) = y.2∧True)∧ri1q16 x c)) ((SM x∧ifB (ri1q23 c) (ri1q27 c x_1.2) (ifB (decide ((65536:Int) < x_1.2)) (ri1q27 c x_1.2) (SM x∧ifB (ri1q24 c) (ri1q27 c x_1.2) (SM x∧ri1q25 c = ri1q26 c x_1.2∧True))))∧ifB (ri1q26 c x_1.2) (True∧∃ (y:Unit),True∧(21:Int) = ri1q28 c∧True∧True) (SM x∧(ri1q5 c∧SM (D.fn (Fn.func (34:Nat)) [] [])∧True)∧∀ (y:Unit),True→ifB (List.any (CodD.consts c) fun (a:Arr) => Prod.fst (chkA a) != Z0) (True∧∃ (y:Unit),True∧Z1 = ri1q28 c∧True∧True) ((SM x∧ifB (ri1q17 c == Z0) (true = ri1q30 c∧True) (SM x∧ifB ((NI (ri1q13 c)) != Z0) (SM x∧SM x∧ri1q29 c = ri1q30 c∧True) (false = ri1q30 c∧True)))∧ifB (ri1q30 c) (ri1q31 c) (SM x∧(ri1q12 c∧SM (D.fn (Fn.func (37:Nat)) [] [])∧True)∧∀ (y:Unit),True→ifB (List.any (CodD.kers c) fun (a:KeD) => !kerB a) (ri1q31 c) (SM x∧(∃ (x_2:Nat),ri1q32 x_2 c∧(Z0 = (↑x_2:Int)∧True)∧ri1q16 x c)∧∀ (x_2:Nat),ri1q32 x_2 c→ifB (decide ((↑x_2:Int) < ri1q17 c)) (SM x∧((ri1q15 c∧(↑x_2:Int) = (NI (Int.toNat (↑x_2:Int)))∧True)∧Int.toNat (↑x_2:Int) < ri1q1 c)∧∀ (y:Unit),True→ifB (!Option.isSome (funS c (Int.toNat (↑x_2:Int)))) (ri1q31 c) ((ri1q20 c∧SM (D.ref N0 x N0)∧SM (ZI Z0)∧SM D.unk∧ri1q21 c)∧∃ (y:Nat),ri1q32 y c∧ri1q22 c y x_2∧(IntKind.wrap IntKind.i64 ((↑x_2:Int) + Z1) = (↑y:Int)∧True)∧ri1q16 x c)) (True∧∃ (y:Unit),True∧Z0 = ri1q28 c∧True∧True))))))) (by kernel_rfl) ?_
  delta D4 DA DF DK DL G4 GC GK GL LI LN N0 N2 N4 NI R4 SM TN Z0 Z1 ZI ri1q0 ri1q1 ri1q10 ri1q11 ri1q12 ri1q13 ri1q14 ri1q15 ri1q16 ri1q17 ri1q18 ri1q19 ri1q2 ri1q20 ri1q21 ri1q22 ri1q23 ri1q24 ri1q25 ri1q26 ri1q27 ri1q28 ri1q29 ri1q3 ri1q30 ri1q31 ri1q32 ri1q4 ri1q5 ri1q6 ri1q7 ri1q8 ri1q9
  intro x _
  simp only [eq_self,ne_eq,implies_true,Int.toNat_natCast,ifB_iff,side_iff,decide_eq_true_eq,decide_eq_false_iff_not,true_and,and_true,beq_iff_eq,Bool.cond_false_right,Bool.cond_true_left,Bool.and_eq_true,Bool.and_eq_false_iff,Bool.or_eq_true,Bool.or_eq_false_iff,beq_eq_false_iff_ne,exists_const,forall_const]
  have hfl:c.funs.length ≤ maxLen := hc.2.2.2.2.2.1
  simp only [maxLen] at hfl
  refine ⟨⟨(0,0),⟨Nat.zero_le _,rfl⟩,rfl,rfl⟩,?_⟩
  rintro ⟨i,t⟩ ⟨hi,ht⟩
  simp only at hi ht ⊢
  refine ⟨fun hlt => ⟨⟨by omega,hlt⟩,fun y _ => ?_⟩,fun hge => ?_⟩
  · have hlt':i < c.funs.length := by omega
    rw [drop_step hlt',totI] at ht
    exact ⟨(i + 1,_),⟨by simp only; omega,ht⟩,by simp only; omega,wrap_i64' (by omega) (by omega),rfl⟩
  have hi':i = c.funs.length := by omega
  rw [hi',List.drop_length,totI] at ht
  rw [ht]
  refine ⟨⟨fun h => by simp [h],fun h => ⟨fun h2 => by simp [h2],fun h2 => ⟨fun h3 => by simp [h3],fun h3 => by simp [h,h2,h3]⟩⟩⟩,fun h => ?_,fun h => ⟨fun h1 => ?_,fun h1 => ⟨⟨fun h2 => by simp [h2],fun h2 => ⟨fun h3 => by rw [h3,beq_eq_false_iff_ne.2 h2]; rfl,fun h3 => by rw [h3,beq_eq_false_iff_ne.2 h2]; rfl⟩⟩,fun h2 => ?_,fun h2 => ⟨fun h3 => ?_,fun h3 => ⟨⟨0,⟨Nat.zero_le _,fun j hj => absurd hj (Nat.not_lt_zero j)⟩,rfl⟩,fun j hj => ⟨fun hl => ⟨by omega,fun e => ?_,fun e => ⟨j + 1,⟨by omega,fun k hk => ?_⟩,by omega,wrap_i64' (by omega) (by omega)⟩⟩,fun hg => ?_⟩⟩⟩⟩⟩⟩
  · unfold rightC; rw [if_pos (by omega)]
  · unfold rightC; rw [if_neg (by omega),if_pos h1]
  · simp only [bne_iff_ne,ne_eq] at h2
    unfold rightC; rw [if_neg (by omega),if_neg (by rw [h1]; exact Bool.false_ne_true),if_pos (by omega)]
  · simp only [bne_eq_false_iff_eq] at h2
    unfold rightC; rw [if_neg (by omega),if_neg (by rw [h1]; exact Bool.false_ne_true),if_neg (by omega),if_pos h3]
  · simp only [bne_eq_false_iff_eq] at h2
    have hj':j < c.funs.length := by omega
    have e':(funS c j).isSome = false := by simpa using e
    have hall:¬ ((List.range c.funs.length).all fun f => (funS c f).isSome) = true := by
      rw [List.all_eq_true]
      intro hh
      have := hh j (List.mem_range.2 hj')
      rw [e'] at this; cases this
    unfold rightC; rw [if_neg (by omega),if_neg (by rw [h1]; exact Bool.false_ne_true),if_neg (by omega),if_neg (by rw [h3]; exact Bool.false_ne_true),if_neg hall]
  · have e':(funS c j).isSome = true := by simpa using e
    by_cases hk':k = j
    · rw [hk']; exact e'
    · exact hj.2 k (by omega)
  · simp only [bne_eq_false_iff_eq] at h2
    have hall:((List.range c.funs.length).all fun f => (funS c f).isSome) = true := by
      rw [List.all_eq_true]
      intro f hf
      exact hj.2 f (by have := List.mem_range.1 hf; omega)
    unfold rightC; rw [if_neg (by omega),if_neg (by rw [h1]; exact Bool.false_ne_true),if_neg (by omega),if_neg (by rw [h3]; exact Bool.false_ne_true),if_pos hall]
end Go.Proofs.Ytoglbmhkfkghbaa
namespace Go.Proofs.Ytoglbmhkfkghbaa
open Go Go.Ab
set_option maxRecDepth 100000
def sumB (s:Nat):List UInt8 := [UInt8.ofNat (s / 16777216),UInt8.ofNat (s / 65536),UInt8.ofNat (s / 256),UInt8.ofNat s]
def sealB (b:List UInt8):List UInt8 := [65,76,67,49] ++ b ++ sumB (sumN ([65,76,67,49] ++ b))
def putE (c:CodD):Int := if rightC c ≠ 0 then rightC c else if 1048576 < (sealB (codeB c)).length then 21 else 0
def putL (c:CodD):List UInt8 := if putE c ≠ 0 then [] else sealB (codeB c)
def szOk (c:CodD):Prop := (codeB c).length ≤ 1099511627776∧∀ a ∈ c.consts,10 * szA a ≤ 1099511627776
theorem app_row' {n : Nat} {l : List UInt8} {F : Nat → List D} {z : Int} {b : UInt8} (hn : n = l.length) (hF : ∀ i, i < n → F i = [D.int .u8 ((l.getD i 0).toNat : Int)]) (h : z = (b.toNat : Int)) :
    ∀ i,i < n + 1→appF n F (fun i => [[D.int .u8 z]].getD i []) i = [D.int .u8 (((l ++ [b]).getD i 0).toNat:Int)] := by
  intro i hi
  subst hn
  simp only [appF]
  split
  · rename_i hlt
    rw [hF i hlt]
    simp [List.getD_eq_getElem?_getD,List.getElem?_append_left hlt]
  · have:i = l.length := by omega
    subst this
    simp [List.getD_eq_getElem?_getD,h]
theorem wrapD (s k:Nat):IntKind.u8.wrap (Int.fdiv (s:Int) (k:Int)) = ((UInt8.ofNat (s / k)).toNat:Int) := by
  rw [fdiv_nat,IntKind.wrap_u8,UInt8.toNat_ofNat']; omega
def sWcK (k kt:Nat) (c:CodD) (row:List D):FnSpec where
  β := Nat × List UInt8
  α := Nat × List UInt8
  args := fun b => [.ref k b.1 0,.agg row]
  st := fun b => ⟨[(k,b.1,.cells [bsl b.2 .full])],[]⟩
  pre := fun b => b.2.length + (codeB c).length ≤ 35184372088832∧∀ a ∈ c.consts,10 * szA a ≤ 35184372088832
  post := fun b y => y.2 = b.2 ++ codeB c
  res := fun _ _ => .ret (.tup [])
  out := fun b y => ⟨[(k,b.1,.cells [bsl y.2 (.tok kt y.1)])],[(kt,y.1)]⟩
theorem wcK_ok (k kt:Nat) (c:CodD) (hc:c.ok) (b:Nat × List UInt8) (h:(sWcK k kt c c.row).pre b):ACalls Try.prog 21 ((sWcK k kt c c.row).args b) ((sWcK k kt c c.row).st b) (SpecR (sWcK k kt c c.row) b) := by
  obtain ⟨x,l⟩ := b
  have h1:ACalls Try.prog 21 ((sWcK k kt c c.row1).args (x,l)) ((sWcK k kt c c.row1).st (x,l)) (SpecR (sWcK k kt c c.row1) (x,l)) := by
    refine (wc_ok x l c hc h.1 h.2).respec (A' := sWcK k kt c c.row1) (x' := (x,l)) ?_ ?_ fun y hy => ⟨y,hy,?_,?_⟩
    · simp [sWcK,sWc,weakL,weakD,chk,CodD.row1,gsl,weakM]
    · simp [sWcK,sWc,posS,posO,posT,weakO,weakL,weakD,chk,bsl,weakM]
    · simp [sWcK,sWc,weakEnd,weakD,weakL]
    · simp [sWcK,sWc,posS,posO,posT,weakO,weakL,weakD,chk,bsl,weakM]
  refine (h1.wkArgs ?_).mono fun _ _ ⟨y,h1,h2,h3⟩ => ⟨y,h1,h2,h3⟩
  simp only [sWcK,wkL,wkD]
  exact ⟨by simp [weakD,chk_iff],code_wk c,trivial⟩
def conPu (c:CodD):Con := fun k ds S => match k with
  | 20 => some (pC ds (.int .i64 (rightC c)) (weakL ds [.agg c.row]))
  | 21 => match ds with
    | [.ref k _ _,_] => some (sWcK k (nextTok S.toks) c c.row)
    | _ => none
  | k => conS k ds S
theorem conPu_ok {c:CodD} (hc:c.ok) (hs:∀ f,f < c.funs.length→(c.funs.getD f default).code.length ≤ 65536):ConOk Try.prog (conPu c) := by
  intro k ds S A h
  unfold conPu at h
  split at h
  · injection h with h; subst h
    exact pC_ok fun e => ⟨weakL_refl _,sC_weak e (rt_ok c hc hs)⟩
  · split at h
    · injection h with h; subst h
      exact ConOk.plain (fun b hb => wcK_ok _ _ c hc b hb) rfl rfl
    · cases h
  · exact conS_ok _ _ _ _ h
noncomputable def Epu (c:CodD):Senv := { EC (conPu c) 52 8 [11,26,47] (fun id => match id with | 10 => ([0,1,2,3,4,5,6,7,8,9,10,11,12,13],[8,9,10,13]) | _ => ([],[])) with unr := fun b => match b with | 0 => 6 | _ => 0 }
noncomputable section
def pu1q0 (p0:CodD):Nat := LN (CodD.consts p0)
def pu1q1 (p0:CodD) (p1:Nat):List D := Arr.row (GC p0 p1)
def pu1q2 (p0:CodD):Nat := LN (CodD.funs p0)
def pu1q3 (p0:CodD) (p1:Nat):FnD := GF p0 p1
def pu1q4 (p0:CodD) (p1:Nat):List I4 := FnD.code (pu1q3 p0 p1)
def pu1q5 (p0:CodD) (p1 p2:Nat):I4 := G4 (pu1q4 p0 p1) p2
def pu1q6 (p0:CodD) (p1:Nat):List D := [ZI (FnD.slots (pu1q3 p0 p1)),D.sl N4 (LN (pu1q4 p0 p1)) (fun (i:Nat) => (R4 (pu1q5 p0 p1 i))) Mode.any]
def pu1q7 (p0:CodD):Nat := LN (CodD.kers p0)
def pu1q8 (p0:CodD) (p1:Nat):KeD := GK p0 p1
def pu1q9 (p0:CodD) (p1:Nat):List I4 := KeD.ops (pu1q8 p0 p1)
def pu1q10 (p0:CodD) (p1 p2:Nat):I4 := G4 (pu1q9 p0 p1) p2
def pu1q11 (p0:CodD) (p1:Nat):List D := [ZI (KeD.inputs (pu1q8 p0 p1)),D.sl N4 (LN (pu1q9 p0 p1)) (fun (i:Nat) => (R4 (pu1q10 p0 p1 i))) Mode.any,ZI (KeD.reduce (pu1q8 p0 p1)),ZI (KeD.at_ (pu1q8 p0 p1))]
def pu1q12 (p0:CodD):Nat := LN (CodD.lanes p0)
def pu1q13 (p0:CodD) (p1:Nat):LaD := GL p0 p1
def pu1q14 (p0:CodD) (p1:Nat):List I6 := LaD.code (pu1q13 p0 p1)
def pu1q15 (p0:CodD) (p1 p2:Nat):I6 := G6 (pu1q14 p0 p1) p2
def pu1q16 (p0:CodD) (p1:Nat):List D := [ZI (LaD.regs (pu1q13 p0 p1)),D.sl N6 (LN (pu1q14 p0 p1)) (fun (i:Nat) => (R6 (pu1q15 p0 p1 i))) Mode.any]
def pu1q17 (p0:CodD):Prop := ((SM (pu1q0 p0)∧(∀ (i:Nat),i < pu1q0 p0→SM (pu1q1 p0 i))∧True)∧(SM (pu1q2 p0)∧(∀ (i:Nat),i < pu1q2 p0→SM (pu1q6 p0 i))∧True)∧(SM (pu1q7 p0)∧(∀ (i:Nat),i < pu1q7 p0→SM (pu1q11 p0 i))∧True)∧(SM (pu1q12 p0)∧(∀ (i:Nat),i < pu1q12 p0→SM (pu1q16 p0 i))∧True)∧True)∧True
def pu1q18 (p0:CodD) (p1:Nat):List D := [ZB (BI (putL p0) p1)]
def pu1q19 (p0:CodD):Prop := N0 = LN (putL p0)∧(∀ (i:Nat),i < N0→eqOf (List D) [] (pu1q18 p0 i))∧True
def pu1q20 (p0:List UInt8) (p1:Nat):List D := [ZB (BI p0 p1)]
def pu1q21 (p0:List UInt8):List UInt8 := bytesOf (LN p0) fun (i:Nat) => pu1q20 p0 i
def pu1q22 (p0:List UInt8) (p1:Nat):D := D.sl N1 (LN p0) (fun (i:Nat) => pu1q20 p0 i) (Mode.tok N0 p1)
def pu1q23 (p0 p1:Nat) (p2:List UInt8) (p3:Nat):Prop := p0 = p1∧SM (pu1q22 p2 p3)
def pu1q24 (p0:List UInt8):Int := (NI (sumN (pu1q21 p0)))
def pu1q25 (p0:List UInt8) (p1:Nat):D := D.sl N1 (LN p0 + N1) (appF (LN p0) (fun (i:Nat) => pu1q20 p0 i) fun (i:Nat) => List.getD [[ZB (IntKind.wrap IntKind.u8 (Int.fdiv (pu1q24 p0) (16777216:Int)))]] i []) (Mode.tok N0 p1)
def pu1q26 (p0 p1:Nat) (p2:List UInt8) (p3:Nat):Prop := p0 = p1∧SM (pu1q25 p2 p3)
def pu1q27 (p0:List UInt8) (p1:Nat):D := D.sl N1 (LN p0 + N1 + N1) (appF (LN p0 + N1) (appF (LN p0) (fun (i:Nat) => pu1q20 p0 i) fun (i:Nat) => List.getD [[ZB (IntKind.wrap IntKind.u8 (Int.fdiv (pu1q24 p0) (16777216:Int)))]] i []) fun (i:Nat) => List.getD [[ZB (IntKind.wrap IntKind.u8 (Int.fdiv (pu1q24 p0) (65536:Int)))]] i []) (Mode.tok N0 p1)
def pu1q28 (p0 p1:Nat) (p2:List UInt8) (p3:Nat):Prop := p0 = p1∧SM (pu1q27 p2 p3)
def pu1q29 (p0:List UInt8):Nat := LN p0 + N1 + N1 + N1
def pu1q30 (p0:List UInt8) (p1:Nat):D := D.sl N1 (pu1q29 p0) (appF (LN p0 + N1 + N1) (appF (LN p0 + N1) (appF (LN p0) (fun (i:Nat) => pu1q20 p0 i) fun (i:Nat) => List.getD [[ZB (IntKind.wrap IntKind.u8 (Int.fdiv (pu1q24 p0) (16777216:Int)))]] i []) fun (i:Nat) => List.getD [[ZB (IntKind.wrap IntKind.u8 (Int.fdiv (pu1q24 p0) (65536:Int)))]] i []) fun (i:Nat) => List.getD [[ZB (IntKind.wrap IntKind.u8 (Int.fdiv (pu1q24 p0) (256:Int)))]] i []) (Mode.tok N0 p1)
def pu1q31 (p0 p1:Nat) (p2:List UInt8) (p3:Nat):Prop := p0 = p1∧SM (pu1q30 p2 p3)
def pu1q32 (p0:List UInt8):Nat := pu1q29 p0 + N1
end
theorem pu_ok (c : CodD) (hc : c.ok) (hs : ∀ f, f < c.funs.length → (c.funs.getD f default).code.length ≤ 65536) (hz : rightC c = 0 → szOk c) :
    ACalls Try.prog 13 [.agg c.row] ⟨[],[]⟩ (SpecR (sC [.agg c.row] (.tup [bsl (putL c) .any,.int .i64 (putE c)])) ()) := by
  refine con_of (A := sC _ _) (x := ()) (E := Epu c) (eOk (conPu_ok hc hs) rfl) Try.func13 rfl (by kernel_rfl) rfl (by simp [sC,Epu,EC,E0]) ?_
  refine vc_eq (T :=
    ∀ (x:Nat),True→SM x∧pu1q17 c∧∀ (y:Unit),True→ifB (rightC c != Z0) (True∧∃ (y:Unit),True∧(pu1q19 c∧rightC c = putE c∧True)∧True∧True) (True∧∀ (x_1:Nat),x ≠ x_1∧True→SM x∧∃ (x:Nat × List UInt8),(x_1 = x.1∧pu1q17 c)∧((x_1 = x.1∧((N4 = LN x.2∧(∀ (i:Nat),i < N4→List.getD [[ZB (65:Int)],[ZB (76:Int)],[ZB (67:Int)],[ZB (49:Int)]] i [] = pu1q20 x.2 i)∧True)∧True)∧True)∧True)∧(LN x.2 + LN (codeB c) ≤ (35184372088832:Nat)∧∀ (a:Arr),a ∈ CodD.consts c→(10:Nat) * szA a ≤ (35184372088832:Nat))∧∀ (y:Nat × List UInt8),y.2 = x.2 ++ codeB c→x.1 = x_1∧((rowsB (LN y.2) fun (i:Nat) => pu1q20 y.2 i) = true∧LN (pu1q21 y.2) ≤ (9223372036854775807:Nat))∧∀ (y_1:Unit),True→x.1 = x_1∧pu1q23 x.1 x_1 y.2 y.1∧pu1q23 x.1 x_1 y.2 y.1∧SM y.1∧side ((LN y.2 + N1) * N1 ≤ (140737488355328:Nat)∧LN y.2 + N1 ≤ (9223372036854775807:Nat)) (∀ (t:Nat),x.1 = x_1∧x.1 = x_1∧pu1q26 x.1 x_1 y.2 t∧pu1q26 x.1 x_1 y.2 t∧SM t∧side ((LN y.2 + N1 + N1) * N1 ≤ (140737488355328:Nat)∧LN y.2 + N1 + N1 ≤ (9223372036854775807:Nat)) (∀ (t:Nat),x.1 = x_1∧x.1 = x_1∧pu1q28 x.1 x_1 y.2 t∧pu1q28 x.1 x_1 y.2 t∧SM t∧side (pu1q29 y.2 * N1 ≤ (140737488355328:Nat)∧pu1q29 y.2 ≤ (9223372036854775807:Nat)) (∀ (t:Nat),x.1 = x_1∧x.1 = x_1∧pu1q31 x.1 x_1 y.2 t∧pu1q31 x.1 x_1 y.2 t∧SM t∧side (pu1q32 y.2 * N1 ≤ (140737488355328:Nat)∧pu1q32 y.2 ≤ (9223372036854775807:Nat)) (∀ (t:Nat),x.1 = x_1∧x.1 = x_1∧ifB (decide ((1048576:Int) < (NI (pu1q32 y.2)))) (True∧∃ (y:Unit),True∧(pu1q19 c∧(21:Int) = putE c∧True)∧True∧True) (x.1 = x_1∧True∧∃ (y_2:Unit),True∧((pu1q32 y.2 = LN (putL c)∧(∀ (i:Nat),i < pu1q32 y.2→appF (pu1q29 y.2) (appF (LN y.2 + N1 + N1) (appF (LN y.2 + N1) (appF (LN y.2) (fun (i:Nat) => pu1q20 y.2 i) fun (i:Nat) => List.getD [[ZB (IntKind.wrap IntKind.u8 (Int.fdiv (pu1q24 y.2) (16777216:Int)))]] i []) fun (i:Nat) => List.getD [[ZB (IntKind.wrap IntKind.u8 (Int.fdiv (pu1q24 y.2) (65536:Int)))]] i []) fun (i:Nat) => List.getD [[ZB (IntKind.wrap IntKind.u8 (Int.fdiv (pu1q24 y.2) (256:Int)))]] i []) (fun (i:Nat) => List.getD [[ZB (IntKind.wrap IntKind.u8 (Int.fdiv (pu1q24 y.2) Z1))]] i []) i = pu1q18 c i)∧True)∧Z0 = putE c∧True)∧True∧True))))))) (by kernel_rfl) ?_
  delta BI D4 D6 DA DF DK DL G4 G6 GC GF GK GL LN N0 N1 N4 N6 NI R4 R6 SM U0 Z0 Z1 ZB ZI pu1q0 pu1q1 pu1q10 pu1q11 pu1q12 pu1q13 pu1q14 pu1q15 pu1q16 pu1q17 pu1q18 pu1q19 pu1q2 pu1q20 pu1q21 pu1q22 pu1q23 pu1q24 pu1q25 pu1q26 pu1q27 pu1q28 pu1q29 pu1q3 pu1q30 pu1q31 pu1q32 pu1q4 pu1q5 pu1q6 pu1q7 pu1q8 pu1q9
  simp only [eq_self,ne_eq,implies_true,ifB_iff,side_iff,decide_eq_true_eq,decide_eq_false_iff_not,true_and,and_true,exists_const,forall_const,Prod.forall,forall_eq,bytesOf_bsl,rowsB_bsl]
  refine fun x => ⟨fun hr => ?_,fun hr x1 _ => ?_⟩
  · have hr':rightC c ≠ 0 := by simpa using hr
    have e:putE c = rightC c := by unfold putE; rw [if_pos hr']
    have e2:putL c = [] := by unfold putL; rw [if_pos (by rw [e]; exact hr')]
    exact ⟨⟨by rw [e2]; rfl,fun i hi => absurd hi (Nat.not_lt_zero i)⟩,e.symm⟩
  have hr':rightC c = 0 := by simpa using hr
  obtain ⟨z1,z2⟩ := hz hr'
  have hlen:([65,76,67,49] ++ codeB c:List UInt8).length = (codeB c).length + 4 := by simp
  have hsl:(sealB (codeB c)).length = (codeB c).length + 8 := by simp [sealB,sumB]
  refine ⟨(x1,[65,76,67,49]),rfl,⟨rfl,rfl,rows_eq (by kernel_rfl)⟩,⟨by simp only [List.length_cons,List.length_nil]; omega,fun a ha => by have := z2 a ha; omega⟩,rfl,?_⟩
  simp only [hlen,true_and]
  refine ⟨by omega,by omega,by omega,by omega,by omega,fun hg => ?_,fun hg => ?_⟩
  · have e:putE c = 21 := by unfold putE; rw [if_neg (by rw [hr']; simp),if_pos (by omega)]
    have e2:putL c = [] := by unfold putL; rw [if_pos (by rw [e]; simp)]
    exact ⟨⟨by rw [e2]; rfl,fun i hi => absurd hi (Nat.not_lt_zero i)⟩,e.symm⟩
  · have e:putE c = 0 := by unfold putE; rw [if_neg (by rw [hr']; simp),if_neg (by omega)]
    have e2:putL c = sealB (codeB c) := by unfold putL; rw [if_neg (by rw [e]; simp)]
    rw [e,e2,hsl]
    refine ⟨⟨by omega,fun i hi => ?_⟩,rfl⟩
    have es:sealB (codeB c) = ((([65,76,67,49] ++ codeB c ++ [UInt8.ofNat (sumN ([65,76,67,49] ++ codeB c) / 16777216)]) ++ [UInt8.ofNat (sumN ([65,76,67,49] ++ codeB c) / 65536)]) ++ [UInt8.ofNat (sumN ([65,76,67,49] ++ codeB c) / 256)]) ++ [UInt8.ofNat (sumN ([65,76,67,49] ++ codeB c))] := by
      simp [sealB,sumB]
    rw [es]
    refine app_row' (by simp) (app_row' (by simp) (app_row' (by simp) (app_row' (by simp) (fun _ _ => rfl) (wrapD _ 16777216)) (wrapD _ 65536)) (wrapD _ 256)) ?_ i (by omega)
    have := wrapD (sumN ([65,76,67,49] ++ codeB c)) 1
    rw [Nat.div_one] at this
    exact this
end Go.Proofs.Ytoglbmhkfkghbaa
namespace Go.Proofs.Ytoglbmhkfkghbaa
open Go Go.Ab
def rkerAnn (k:KeD) (d:D):Option LoopAnn :=
  match d with
  | .ref t x _ => some { slots := [3],keep := [1],α := Nat,st := fun i => ([.int .i64 i],⟨[(t,x,.cells k.row)],[]⟩),inv := fun i => i ≤ k.ops.length∧∀ j,j < i→opB k.inputs j (k.ops.getD j default) = true,mu := fun i => k.ops.length - i }
  | _ => none
noncomputable def Erker (k:KeD):Senv := { E0 con0 75 5 [31,36,74] (fun _ => ([],[])) with
  inl := inlD (E0 con0 0 0 [] (fun _ => ([],[]))) (frmGet frames) 5
  ann := fun b env _ => match b with
    | 0 => rkerAnn k (Ab.look env 1)
    | _ => none }
noncomputable section
def ke2q0 (p0:KeD):Int := KeD.inputs p0
def ke2q1 (p0:KeD):Prop := True∧∃ (_y:Unit),True∧false = kerB p0∧True∧True
def ke2q2 (p0:KeD):Nat := LN (KeD.ops p0)
def ke2q3 (p0:KeD):Int := (NI (ke2q2 p0))
def ke2q4 (p0:KeD):Int := KeD.reduce p0
def ke2q5 (p0:KeD) (p1:Nat):I4 := G4 (KeD.ops p0) p1
def ke2q6 (p0:Nat) (p1:KeD):Prop := p0 ≤ ke2q2 p1∧∀ (j:Nat),j < p0→opB (ke2q0 p1) j (ke2q5 p1 j) = true
def ke2q7 (p0:KeD) (p1:Nat):List D := (R4 (ke2q5 p0 p1))
def ke2q8 (p0:Nat) (p1:KeD):Prop := (SM p0∧(SM (ke2q0 p1)∧(SM (ke2q2 p1)∧(∀ (i:Nat),i < ke2q2 p1→SM (ke2q7 p1 i))∧True)∧SM (ke2q4 p1)∧SM (KeD.at_ p1)∧True)∧True)∧True
def ke2q9 (p0:KeD) (p1:Nat):I4 := G4 (KeD.ops p0) (Int.toNat (↑p1:Int))
def ke2q10 (p0:KeD) (p1:Nat):Int := I4.a (ke2q9 p0 p1)
def ke2q11 (p0:KeD) (p1:Nat):Int := I4.c (ke2q9 p0 p1)
def ke2q12 (p0:KeD) (p1:Nat):Int := IntKind.wrap IntKind.i64 (IntKind.wrap IntKind.i64 (ke2q0 p0 + (↑p1:Int)) - Z1)
def ke2q13 (p0:KeD) (p1:Nat):Int := I4.b (ke2q9 p0 p1)
def ke2q14 (p0:KeD):Prop := True∧ke2q1 p0
def ke2q15 (p0:KeD):Prop := True∧ke2q14 p0
def ke2q16 (p0:KeD) (p1:Nat):Prop := (∃ (x:Nat),ke2q6 x p0∧(Z0 = (↑x:Int)∧True)∧ke2q8 p1 p0)∧∀ (x:Nat),ke2q6 x p0→SM p1∧ifB (decide ((↑x:Int) < ke2q3 p0)) (SM p1∧side (Z0 ≤ (↑x:Int)∧(↑x:Int) < ke2q3 p0) (∀ (x_1:Nat),p1 ≠ x_1∧True→SM x_1∧SM x_1∧ifB (decide (Z1 ≤ ke2q10 p0 x)) (True∧True∧ifB (!decide (ke2q10 p0 x ≤ (55:Int))) (ke2q1 p0) (SM x_1∧SM p1∧ifB (decide (Z0 ≤ ke2q11 p0 x)) (True∧ifB (!decide (ke2q11 p0 x ≤ ke2q12 p0 x)) (ke2q1 p0) (SM x_1∧SM p1∧ifB (decide ((-1:Int) ≤ ke2q13 p0 x)) (True∧ifB (!decide (ke2q13 p0 x ≤ ke2q12 p0 x)) (ke2q1 p0) (SM x_1∧ifB (decide (I4.d (ke2q9 p0 x) < Z0)) (ke2q1 p0) ((SM (D.ref N0 p1 N0)∧True)∧∃ (y:Nat),ke2q6 y p0∧ke2q2 p0 - y < ke2q2 p0 - x∧(IntKind.wrap IntKind.i64 ((↑x:Int) + Z1) = (↑y:Int)∧True)∧ke2q8 p1 p0))) (ke2q14 p0))) (ke2q14 p0))) (ke2q15 p0))) (True∧∃ (_y:Unit),True∧true = kerB p0∧True∧True)
end
theorem rker_ok (k:KeD) (_h:k.ok):ACalls Try.prog 43 (sKer.args k) (sKer.st k) (SpecR sKer k) := by
  refine con_of (A := sKer) (x := k) (E := Erker k) (eOk0 rfl) Try.func43 rfl (by kernel_rfl) rfl (by simp [sKer,Erker,E0]) ?_
  refine vc_eq (T :=
    ∀ (x:Nat),True→SM x∧ifB (decide (Z1 ≤ ke2q0 k)) (True∧ifB (!decide (ke2q0 k ≤ (16:Int))) (ke2q1 k) (SM x∧ifB (decide (Z1 ≤ ke2q3 k)) (True∧ifB (!decide (ke2q3 k ≤ (64:Int))) (ke2q1 k) (SM x∧ifB (decide (KeD.at_ k < Z0)) (ke2q1 k) (SM x∧ifB (ke2q4 k != Z0) (SM x∧ifB (decide (Z1 ≤ ke2q4 k)) (True∧True∧ifB (!decide (ke2q4 k ≤ (55:Int))) (ke2q1 k) (ke2q16 k x)) (ke2q15 k)) (ke2q16 k x)))) (ke2q14 k))) (ke2q14 k)) (by kernel_rfl) ?_
  delta D4 G4 LN N0 NI R4 SM Z0 Z1 ZI ke2q0 ke2q1 ke2q10 ke2q11 ke2q12 ke2q13 ke2q14 ke2q15 ke2q16 ke2q2 ke2q3 ke2q4 ke2q5 ke2q6 ke2q7 ke2q8 ke2q9
  intro x _
  simp only [ifB_iff,side_iff,decide_eq_true_eq,decide_eq_false_iff_not,true_and,and_true,Bool.not_eq_true',Bool.not_eq_false',Int.toNat_natCast,exists_const,bne_iff_ne,ne_eq,bne_eq_false_iff_eq]
  refine ⟨fun h1 => ⟨fun n => by simp [kerB,between,n],fun h2 => ⟨fun h3 => ⟨fun n => by simp [kerB,between]; omega,fun h4 => ⟨fun n => by simp [kerB]; omega,fun h5 => ⟨fun r0 => ⟨fun r1 => ⟨fun n => by simp [kerB,primB,between]; omega,fun r2 => ?_⟩,fun n => by simp [kerB,primB,between]; omega⟩,fun r0 => ?_⟩⟩⟩,fun n => by simp [kerB,between]; omega⟩⟩,fun n => by simp [kerB,between,n]⟩
  · have H6:k.reduce = 0∨(1 ≤ k.reduce∧k.reduce ≤ 55) := .inr ⟨r1,r2⟩
    refine ⟨⟨0,⟨Nat.zero_le _,fun j hj => absurd hj (Nat.not_lt_zero j)⟩,rfl,fun _ _ => trivial⟩,fun i hi => ⟨fun hlt => ⟨⟨by omega,hlt⟩,fun y _ => ?_⟩,fun hge => ?_⟩⟩
    · have hl:i < k.ops.length := by omega
      have hw:IntKind.i64.wrap (IntKind.i64.wrap (k.inputs + (i:Int)) - 1) = k.inputs + i - 1 := by
        rw [wrap_i64' (n := k.inputs + i) (by omega) (by omega),wrap_i64' (by omega) (by omega)]
      rw [hw]
      have no:∀ {b:Bool},opB k.inputs i (k.ops.getD i default) = b→b = false→false = kerB k := fun h1 h2 => kerB_no hl (h1.trans h2)
      have de:(default:I4) = ⟨0,0,0,0⟩ := rfl
      rw [← de] at *
      generalize hk:k.ops.getD i default = o at *
      refine ⟨fun a1 => ⟨fun a2 => no rfl (by simp [opB,primB,between]; omega),fun a2 => ⟨fun c1 => ⟨fun c2 => no rfl (by simp [opB,primB,between]; omega),fun c2 => ⟨fun b1 => ⟨fun b2 => no rfl (by simp [opB,primB,between]; omega),fun b2 => ⟨fun d1 => no rfl (by simp [opB,primB,between]; omega),fun d1 => ⟨i + 1,⟨by omega,fun j hj => ?_⟩,by omega,wrap_i64' (by omega) (by omega),fun _ _ => trivial⟩⟩⟩,fun b1 => no rfl (by simp [opB,primB,between]; omega)⟩⟩,fun c1 => no rfl (by simp [opB,primB,between]; omega)⟩⟩,fun a1 => no rfl (by simp [opB,primB,between]; omega)⟩
      by_cases e:j = i
      · subst e; rw [hk]; simp only [opB,primB,between,Bool.and_eq_true,decide_eq_true_eq]; omega
      · exact hi.2 j (by omega)
    · exact kerB_yes h1 h2 h3 h4 h5 H6 fun j hj => hi.2 j (by omega)
  · have H6:k.reduce = 0∨(1 ≤ k.reduce∧k.reduce ≤ 55) := .inl r0
    refine ⟨⟨0,⟨Nat.zero_le _,fun j hj => absurd hj (Nat.not_lt_zero j)⟩,rfl,fun _ _ => trivial⟩,fun i hi => ⟨fun hlt => ⟨⟨by omega,hlt⟩,fun y _ => ?_⟩,fun hge => ?_⟩⟩
    · have hl:i < k.ops.length := by omega
      have hw:IntKind.i64.wrap (IntKind.i64.wrap (k.inputs + (i:Int)) - 1) = k.inputs + i - 1 := by
        rw [wrap_i64' (n := k.inputs + i) (by omega) (by omega),wrap_i64' (by omega) (by omega)]
      rw [hw]
      have no:∀ {b:Bool},opB k.inputs i (k.ops.getD i default) = b→b = false→false = kerB k := fun h1 h2 => kerB_no hl (h1.trans h2)
      have de:(default:I4) = ⟨0,0,0,0⟩ := rfl
      rw [← de] at *
      generalize hk:k.ops.getD i default = o at *
      refine ⟨fun a1 => ⟨fun a2 => no rfl (by simp [opB,primB,between]; omega),fun a2 => ⟨fun c1 => ⟨fun c2 => no rfl (by simp [opB,primB,between]; omega),fun c2 => ⟨fun b1 => ⟨fun b2 => no rfl (by simp [opB,primB,between]; omega),fun b2 => ⟨fun d1 => no rfl (by simp [opB,primB,between]; omega),fun d1 => ⟨i + 1,⟨by omega,fun j hj => ?_⟩,by omega,wrap_i64' (by omega) (by omega),fun _ _ => trivial⟩⟩⟩,fun b1 => no rfl (by simp [opB,primB,between]; omega)⟩⟩,fun c1 => no rfl (by simp [opB,primB,between]; omega)⟩⟩,fun a1 => no rfl (by simp [opB,primB,between]; omega)⟩
      by_cases e:j = i
      · subst e; rw [hk]; simp only [opB,primB,between,Bool.and_eq_true,decide_eq_true_eq]; omega
      · exact hi.2 j (by omega)
    · exact kerB_yes h1 h2 h3 h4 h5 H6 fun j hj => hi.2 j (by omega)
end Go.Proofs.Ytoglbmhkfkghbaa
namespace Go.Proofs.Ytoglbmhkfkghbaa
open Go Go.Ab
def conRu (c:CodD):Con := fun k ds _ => match k with
  | 42 => some (sRc Arr.row (fun b => b ∈ c.consts) (fun b => .int .i64 (chkA b).1))
  | 43 => some (sKq (fun b => b ∈ c.kers) kerB)
  | 44 => match ds with
    | [_,.int .i64 z] => some (pC ds (funD (funS c z.toNat)) (weakL ds [.agg c.row,.int .i64 z.toNat]∧z.toNat < c.funs.length))
    | _ => none
  | _ => none
theorem conRu_ok {c:CodD} (hc:c.ok) (hs:∀ f,f < c.funs.length→(c.funs.getD f default).code.length ≤ 65536):ConOk Try.prog (conRu c) := by
  intro k ds S A h
  unfold conRu at h
  split at h
  · injection h with h; subst h
    exact ConOk.plain (fun b hb => sRc_row0 (q := fun _ => True) (r := errA) (sRc_row (rri_ok b (hc.1 b hb)))) rfl rfl
  · injection h with h; subst h
    exact ConOk.plain (fun b hb => (rker_ok b (hc.2.2.1 b hb)).mono fun _ _ ⟨y,h1,h2,h3⟩ => ⟨y,h1,h2,h3⟩) rfl rfl
  · split at h
    · injection h with h; subst h
      exact pC_ok fun ⟨e,hf⟩ => ⟨weakL_refl _,sC_weak e (rfun_ok c _ hf hc (hs _ hf))⟩
    · cases h
  · cases h
noncomputable def Eru (c:CodD):Senv := { EC (conRu c) 108 10 [14,45,50,59,78,83,92,97,107] (fun _ => ([],[])) with
  ann := fun b _ S => match b with
    | 0 => some { slots := [4,3],keep := [0,1,2],α := Nat × Int,st := fun y => ([.int .i64 y.1,.int .i64 y.2],S),inv := fun y => y.1 ≤ c.funs.length∧totI (c.funs.drop y.1) y.2 = totI c.funs 0,mu := fun y => c.funs.length - y.1 }
    | 2 => some { slots := [5],keep := [0,1,2],α := Nat,st := fun i => ([.int .i64 i],S),inv := fun i => IdxG (fun a => (chkA a).1 != 0) c.consts i,mu := fun i => c.consts.length - i }
    | 4 => some { slots := [6],keep := [0,1,2],α := Nat,st := fun i => ([.int .i64 i],S),inv := fun i => IdxG (fun a => !kerB a) c.kers i,mu := fun i => c.kers.length - i }
    | 6 => some { slots := [7],keep := [0,1,2],α := Nat,st := fun i => ([.int .i64 i],S),inv := fun i => i ≤ c.funs.length∧∀ j,j < i→(funS c j).isSome = true,mu := fun i => c.funs.length - i }
    | _ => none }
noncomputable section
def ri2q0 (p0:CodD):List FnD := CodD.funs p0
def ri2q1 (p0:CodD):Nat := LN (ri2q0 p0)
def ri2q2 (p0:Nat) (p1:CodD) (p2:Int):Prop := p0 ≤ ri2q1 p1∧totI (List.drop p0 (ri2q0 p1)) p2 = totI (ri2q0 p1) Z0
def ri2q3 (p0:CodD):List Arr := CodD.consts p0
def ri2q4 (p0:CodD):Nat := LN (ri2q3 p0)
def ri2q5:Arr := DA
def ri2q6 (p0:CodD) (p1:Nat):List D := Arr.row (List.getD (ri2q3 p0) p1 ri2q5)
def ri2q7 (p0:CodD) (p1:Nat):FnD := List.getD (ri2q0 p0) p1 DF
def ri2q8 (p0:CodD) (p1:Nat):List I4 := FnD.code (ri2q7 p0 p1)
def ri2q9:I4 := D4
def ri2q10 (p0:CodD) (p1 p2:Nat):I4 := List.getD (ri2q8 p0 p1) p2 ri2q9
def ri2q11 (p0:CodD) (p1:Nat):List D := [ZI (FnD.slots (ri2q7 p0 p1)),D.sl N4 (LN (ri2q8 p0 p1)) (fun (i:Nat) => (R4 (ri2q10 p0 p1 i))) Mode.any]
def ri2q12 (p0:CodD):List KeD := CodD.kers p0
def ri2q13 (p0:CodD):Nat := LN (ri2q12 p0)
def ri2q14:KeD := DK
def ri2q15 (p0:CodD) (p1:Nat):List D := KeD.row (List.getD (ri2q12 p0) p1 ri2q14)
def ri2q16 (p0:CodD):Nat := LN (CodD.lanes p0)
def ri2q17 (p0:CodD) (p1:Nat):List D := LaD.row (GL p0 p1)
def ri2q18 (p0:CodD):Prop := (SM (ri2q4 p0)∧(∀ (i:Nat),i < ri2q4 p0→SM (ri2q6 p0 i))∧True)∧(SM (ri2q1 p0)∧(∀ (i:Nat),i < ri2q1 p0→SM (ri2q11 p0 i))∧True)∧(SM (ri2q13 p0)∧(∀ (i:Nat),i < ri2q13 p0→SM (ri2q15 p0 i))∧True)∧(SM (ri2q16 p0)∧(∀ (i:Nat),i < ri2q16 p0→SM (ri2q17 p0 i))∧True)∧True
def ri2q19 (p0:Nat) (p1:CodD):Prop := (SM p0∧ri2q18 p1∧True)∧True
def ri2q20 (p0:CodD):Int := (NI (ri2q1 p0))
def ri2q21 (p0:CodD):D := D.agg [D.sl N4 (ri2q4 p0) (fun (i:Nat) => ri2q6 p0 i) Mode.any,D.sl N2 (ri2q1 p0) (fun (i:Nat) => ri2q11 p0 i) Mode.any,D.sl N4 (ri2q13 p0) (fun (i:Nat) => ri2q15 p0 i) Mode.any,D.sl N2 (ri2q16 p0) (fun (i:Nat) => ri2q17 p0 i) Mode.any]
def ri2q22 (p0:CodD) (p1:Nat):Prop := SM (ri2q21 p0)∧SM (D.ref N0 p1 N0)∧SM (ZI Z0)∧True
def ri2q23 (p0:CodD) (p1 p2:Nat):Prop := ri2q1 p0 - p1 < ri2q1 p0 - p2
def ri2q24 (p0:CodD):Bool := decide ((1024:Int) < ri2q20 p0)
def ri2q25 (p0:CodD):Int := (NI (ri2q4 p0))
def ri2q26 (p0:CodD):Bool := decide ((65536:Int) < ri2q25 p0)
def ri2q27 (p0:CodD):Int := (NI (ri2q13 p0))
def ri2q28 (p0:CodD):Bool := decide ((4096:Int) < ri2q27 p0)
def ri2q29 (p0:CodD) (p1:Int):Bool := bif bif bif ri2q24 p0 then true else decide ((65536:Int) < p1) then true else ri2q26 p0 then true else ri2q28 p0
def ri2q30 (p0:CodD) (p1:Int):Prop := true = ri2q29 p0 p1∧True
def ri2q31 (p0:CodD):Int := rightC p0
def ri2q32 (p0:CodD) (p1:Nat):Prop := IdxG (fun (a:Arr) => Prod.fst (chkA a) != Z0) (ri2q3 p0) p1
def ri2q33 (p0 p1:Nat) (p2:CodD):Prop := (Z0 = (↑p0:Int)∧True)∧ri2q19 p1 p2
def ri2q34 (p0:CodD) (p1:Nat):List D := Arr.row (List.getD (ri2q3 p0) (Int.toNat (↑p1:Int)) ri2q5)
def ri2q35 (p0 p1 p2:Nat) (p3:CodD):Prop := (IntKind.wrap IntKind.i64 ((↑p0:Int) + Z1) = (↑p1:Int)∧True)∧ri2q19 p2 p3
def ri2q36 (p0:CodD):Bool := (NI (ri2q16 p0)) != ri2q27 p0
def ri2q37 (p0:CodD):Bool := bif ri2q20 p0 == Z0 then true else bif (NI (ri2q16 p0)) != Z0 then ri2q36 p0 else false
def ri2q38 (p0:CodD):Prop := True∧∃ (_y:Unit),True∧(26:Int) = ri2q31 p0∧True∧True
def ri2q39 (p0:CodD) (p1:Nat):Prop := IdxG (fun (a:KeD) => !kerB a) (ri2q12 p0) p1
def ri2q40 (p0:CodD) (p1:Nat):KeD := List.getD (ri2q12 p0) (Int.toNat (↑p1:Int)) ri2q14
def ri2q41 (p0:CodD) (p1:Nat):List I4 := KeD.ops (ri2q40 p0 p1)
def ri2q42 (p0:CodD) (p1:Nat):Nat := LN (ri2q41 p0 p1)
def ri2q43 (p0:CodD) (p1 p2:Nat):I4 := List.getD (ri2q41 p0 p1) p2 ri2q9
def ri2q44 (p0:KeD) (p1:Nat):I4 := List.getD (KeD.ops p0) p1 ri2q9
def ri2q45 (p0:Nat) (p1:CodD):Prop := p0 ≤ ri2q1 p1∧∀ (j:Nat),j < p0→Option.isSome (funS p1 j) = true
end
theorem rrt_ok (c:CodD) (hc:c.ok) (hs:∀ f,f < c.funs.length→(c.funs.getD f default).code.length ≤ 65536):ACalls Try.prog 22 [.agg c.row] ⟨[],[]⟩ (SpecR (sC [.agg c.row] (.int .i64 (rightC c))) ()) := by
  refine con_of (A := sC _ _) (x := ()) (E := Eru c) (eOk (conRu_ok hc hs) rfl) Try.func22 rfl (by kernel_rfl) rfl (by simp [sC,Eru,EC,E0]) ?_
  refine vc_eq (T :=
    ∀ (x:Nat),True→(∃ (x_1:Nat × Int),ri2q2 x_1.1 c x_1.2∧(Z0 = (NI x_1.1)∧Z0 = x_1.2∧True)∧ri2q19 x c)∧∀ (x_1:Nat × Int),ri2q2 x_1.1 c x_1.2→SM x∧ifB (decide ((NI x_1.1) < ri2q20 c)) (SM x∧side (Z0 ≤ (NI x_1.1)∧(NI x_1.1) < ri2q20 c) (ri2q22 c x∧∃ (y:Nat × Int),ri2q2 y.1 c y.2∧ri2q23 c y.1 x_1.1∧(IntKind.wrap IntKind.i64 ((NI x_1.1) + Z1) = (NI y.1)∧IntKind.wrap IntKind.i64 (x_1.2 + (LI (FnD.code (List.getD (ri2q0 c) (TN x_1.1) DF)))) = y.2∧True)∧ri2q19 x c)) ((SM x∧ifB (ri2q24 c) (ri2q30 c x_1.2) (ifB (decide ((65536:Int) < x_1.2)) (ri2q30 c x_1.2) (SM x∧ifB (ri2q26 c) (ri2q30 c x_1.2) (SM x∧ri2q28 c = ri2q29 c x_1.2∧True))))∧ifB (ri2q29 c x_1.2) (True∧∃ (y:Unit),True∧(21:Int) = ri2q31 c∧True∧True) ((∃ (x_2:Nat),ri2q32 c x_2∧ri2q33 x_2 x c)∧∀ (x_2:Nat),ri2q32 c x_2→SM x∧ifB (decide ((↑x_2:Int) < ri2q25 c)) (SM x∧side (Z0 ≤ (↑x_2:Int)∧(↑x_2:Int) < ri2q25 c) (side (N4 ≤ LN (ri2q34 c x_2)) (∃ (x_3:Arr),(weakL (List.take N4 (List.drop N0 (ri2q34 c x_2))) (Arr.row x_3)∧True)∧(True∧True)∧x_3 ∈ ri2q3 c∧∀ (y:Unit),True→ifB (Prod.fst (chkA x_3) != Z0) (True∧∃ (y:Unit),True∧Z1 = ri2q31 c∧True∧True) (ri2q22 c x∧∃ (y:Nat),ri2q32 c y∧ri2q4 c - y < ri2q4 c - x_2∧ri2q35 x_2 y x c)))) ((SM x∧ifB (ri2q20 c == Z0) (true = ri2q37 c∧True) (SM x∧ifB ((NI (ri2q16 c)) != Z0) (SM x∧SM x∧ri2q36 c = ri2q37 c∧True) (false = ri2q37 c∧True)))∧ifB (ri2q37 c) (ri2q38 c) ((∃ (x_3:Nat),ri2q39 c x_3∧ri2q33 x_3 x c)∧∀ (x_3:Nat),ri2q39 c x_3→SM x∧ifB (decide ((↑x_3:Int) < ri2q27 c)) (SM x∧side (Z0 ≤ (↑x_3:Int)∧(↑x_3:Int) < ri2q27 c) (∃ (x_4:KeD),((KeD.inputs (ri2q40 c x_3) = KeD.inputs x_4∧(ri2q42 c x_3 = LN (KeD.ops x_4)∧(∀ (i:Nat),i < ri2q42 c x_3→(R4 (ri2q43 c x_3 i)) = (R4 (ri2q44 x_4 i)))∧True)∧KeD.reduce (ri2q40 c x_3) = KeD.reduce x_4∧KeD.at_ (ri2q40 c x_3) = KeD.at_ x_4∧True)∧True)∧(True∧True)∧x_4 ∈ ri2q12 c∧∀ (y:Unit),True→ifB (!kerB x_4) (ri2q38 c) (ri2q22 c x∧∃ (y:Nat),ri2q39 c y∧ri2q13 c - y < ri2q13 c - x_3∧ri2q35 x_3 y x c))) ((∃ (x_4:Nat),ri2q45 x_4 c∧ri2q33 x_4 x c)∧∀ (x_4:Nat),ri2q45 x_4 c→SM x∧ifB (decide ((↑x_4:Int) < ri2q20 c)) (SM x∧((ri2q18 c∧(↑x_4:Int) = (NI (Int.toNat (↑x_4:Int)))∧True)∧Int.toNat (↑x_4:Int) < ri2q1 c)∧∀ (y:Unit),True→ifB (!Option.isSome (funS c (Int.toNat (↑x_4:Int)))) (ri2q38 c) (ri2q22 c x∧∃ (y:Nat),ri2q45 y c∧ri2q23 c y x_4∧ri2q35 x_4 y x c)) (True∧∃ (y:Unit),True∧Z0 = ri2q31 c∧True∧True))))))) (by kernel_rfl) ?_
  delta D4 DA DF DK DL GL LI LN N0 N2 N4 NI R4 SM TN Z0 Z1 ZI ri2q0 ri2q1 ri2q10 ri2q11 ri2q12 ri2q13 ri2q14 ri2q15 ri2q16 ri2q17 ri2q18 ri2q19 ri2q2 ri2q20 ri2q21 ri2q22 ri2q23 ri2q24 ri2q25 ri2q26 ri2q27 ri2q28 ri2q29 ri2q3 ri2q30 ri2q31 ri2q32 ri2q33 ri2q34 ri2q35 ri2q36 ri2q37 ri2q38 ri2q39 ri2q4 ri2q40 ri2q41 ri2q42 ri2q43 ri2q44 ri2q45 ri2q5 ri2q6 ri2q7 ri2q8 ri2q9
  intro x _
  simp only [eq_self,ne_eq,implies_true,Int.toNat_natCast,ifB_iff,side_iff,decide_eq_true_eq,decide_eq_false_iff_not,true_and,and_true,beq_iff_eq,Bool.cond_false_right,Bool.cond_true_left,Bool.and_eq_true,Bool.and_eq_false_iff,Bool.or_eq_true,Bool.or_eq_false_iff,beq_eq_false_iff_ne,exists_const,forall_const]
  have hfl:c.funs.length ≤ maxLen := hc.2.2.2.2.2.1
  have hcl:c.consts.length ≤ maxLen := hc.2.2.2.2.1
  have hkl:c.kers.length ≤ maxLen := hc.2.2.2.2.2.2.1
  simp only [maxLen] at hfl hcl hkl
  have da:(default:Arr) = Arr.mk 0 [] [] [] := rfl
  rw [← da]
  refine ⟨⟨(0,0),⟨Nat.zero_le _,rfl⟩,rfl,rfl⟩,?_⟩
  rintro ⟨i,t⟩ ⟨hi,ht⟩
  simp only at hi ht ⊢
  refine ⟨fun hlt => ⟨⟨by omega,hlt⟩,?_⟩,fun hge => ?_⟩
  · have hlt':i < c.funs.length := by omega
    rw [drop_step hlt',totI] at ht
    exact ⟨(i + 1,_),⟨by simp only; omega,ht⟩,by simp only; omega,wrap_i64' (by omega) (by omega),rfl⟩
  have hi':i = c.funs.length := by omega
  rw [hi',List.drop_length,totI] at ht
  rw [ht]
  refine ⟨⟨fun h => by simp [h],fun h => ⟨fun h2 => by simp [h2],fun h2 => ⟨fun h3 => by simp [h3],fun h3 => by simp [h,h2,h3]⟩⟩⟩,fun h => ?_,fun h => ⟨⟨0,⟨Nat.zero_le _,by simp⟩,rfl⟩,fun a ha => ⟨fun al => ⟨⟨by omega,al⟩,?_⟩,fun ag => ?_⟩⟩⟩
  · unfold rightC; rw [if_pos (by omega)]
  · have al':a < c.consts.length := by omega
    have r4 := row_four (c.consts.getD a default)
    obtain ⟨s1,s2⟩ := ha.step al'
    refine ⟨Nat.le_of_eq r4.symm,c.consts.getD a default,?_,mem_getD al',fun e => ?_,fun e => ⟨a + 1,s2 e,by omega,wrap_i64' (by omega) (by omega)⟩⟩
    · rw [List.drop_zero,List.take_of_length_le (Nat.le_of_eq r4)]
      exact weakL_refl _
    · have h1:(c.consts.any fun a => (chkA a).1 != 0) = true := List.any_eq_true.2 ⟨_,mem_getD al',e⟩
      unfold rightC; rw [if_neg (by omega),if_pos h1]
  have h1:(c.consts.any fun a => (chkA a).1 != 0) = false := by
    rw [← idxG_any _ _ 0 (Int.le_refl _),ha.done ag]; rfl
  refine ⟨⟨fun h2 => by simp [h2],fun h2 => ⟨fun h3 => by rw [h3,beq_eq_false_iff_ne.2 h2]; rfl,fun h3 => by rw [h3,beq_eq_false_iff_ne.2 h2]; rfl⟩⟩,fun h2 => ?_,fun h2 => ⟨⟨0,⟨Nat.zero_le _,by simp⟩,rfl⟩,fun b hb => ⟨fun bl => ⟨⟨by omega,bl⟩,?_⟩,fun bg => ?_⟩⟩⟩
  · simp only [bne_iff_ne,ne_eq] at h2
    unfold rightC; rw [if_neg (by omega),if_neg (by rw [h1]; exact Bool.false_ne_true),if_pos (by omega)]
  · have bl':b < c.kers.length := by omega
    obtain ⟨s1,s2⟩ := hb.step bl'
    refine ⟨c.kers.getD b default,⟨rfl,⟨rfl,fun _ _ => rfl⟩,rfl,rfl⟩,mem_getD bl',fun e => ?_,fun e => ⟨b + 1,s2 e,by omega,wrap_i64' (by omega) (by omega)⟩⟩
    have h3:(c.kers.any fun a => !kerB a) = true := List.any_eq_true.2 ⟨_,mem_getD bl',e⟩
    simp only [bne_eq_false_iff_eq] at h2
    unfold rightC; rw [if_neg (by omega),if_neg (by rw [h1]; exact Bool.false_ne_true),if_neg (by omega),if_pos h3]
  have h3:(c.kers.any fun a => !kerB a) = false := by
    rw [← idxG_any _ _ 0 (Int.le_refl _),hb.done bg]; rfl
  simp only [bne_eq_false_iff_eq] at h2
  refine ⟨⟨0,⟨Nat.zero_le _,fun j hj => absurd hj (Nat.not_lt_zero j)⟩,rfl⟩,fun j hj => ⟨fun hl => ⟨by omega,fun e => ?_,fun e => ⟨j + 1,⟨by omega,fun k hk => ?_⟩,by omega,wrap_i64' (by omega) (by omega)⟩⟩,fun hg => ?_⟩⟩
  · have hj':j < c.funs.length := by omega
    have e':(funS c j).isSome = false := by simpa using e
    have hall:¬ ((List.range c.funs.length).all fun f => (funS c f).isSome) = true := by
      rw [List.all_eq_true]
      intro hh
      have := hh j (List.mem_range.2 hj')
      rw [e'] at this; cases this
    unfold rightC; rw [if_neg (by omega),if_neg (by rw [h1]; exact Bool.false_ne_true),if_neg (by omega),if_neg (by rw [h3]; exact Bool.false_ne_true),if_neg hall]
  · have e':(funS c j).isSome = true := by simpa using e
    by_cases hk':k = j
    · rw [hk']; exact e'
    · exact hj.2 k (by omega)
  · have hall:((List.range c.funs.length).all fun f => (funS c f).isSome) = true := by
      rw [List.all_eq_true]
      intro f hf
      exact hj.2 f (by have := List.mem_range.1 hf; omega)
    unfold rightC; rw [if_neg (by omega),if_neg (by rw [h1]; exact Bool.false_ne_true),if_neg (by omega),if_neg (by rw [h3]; exact Bool.false_ne_true),if_pos hall]
end Go.Proofs.Ytoglbmhkfkghbaa
namespace Go.Proofs.Ytoglbmhkfkghbaa
open Go Go.Ab
set_option maxRecDepth 100000
theorem app_gen {n : Nat} {l r : List UInt8} {F G : Nat → List D} (hn : n = l.length) (hF : ∀ i, i < n → F i = [D.int .u8 ((l.getD i 0).toNat : Int)]) (hG : ∀ i, i < r.length → G i = [D.int .u8 ((r.getD i 0).toNat : Int)]) :
    ∀ i,i < n + r.length→appF n F G i = [D.int .u8 (((l ++ r).getD i 0).toNat:Int)] := by
  intro i hi
  subst hn
  rw [← app_bsl l r hi]
  simp only [appF]
  split
  · exact hF i (by assumption)
  · exact hG _ (by omega)
theorem bytesOf_eq {n:Nat} {l:List UInt8} {F:Nat→List D} (hn:n = l.length) (hF:∀ i,i < n→F i = [D.int .u8 ((l.getD i 0).toNat:Int)]):bytesOf n F = l := by
  subst hn
  conv => rhs; rw [← bytesOf_bsl l]
  unfold bytesOf
  exact List.map_congr_left fun i hi => by rw [hF i (List.mem_range.1 hi)]
theorem rowsB_eq {n:Nat} {l:List UInt8} {F:Nat→List D} (hn:n = l.length) (hF:∀ i,i < n→F i = [D.int .u8 ((l.getD i 0).toNat:Int)]):rowsB n F = true := by
  subst hn
  have h := rowsB_bsl l
  simp only [rowsB,List.all_eq_true,List.mem_range] at h ⊢
  intro i hi
  rw [hF i hi]; exact h i hi
noncomputable def Esl:Senv := EC conS 25 1 [2,3,4] (fun _ => ([],[]))
noncomputable section
def nb3q0 (p0:List UInt8):List UInt8 := bytesOf (N4 + LN p0) (appF N4 (fun (i:Nat) => List.getD [[ZB (65:Int)],[ZB (76:Int)],[ZB (67:Int)],[ZB (49:Int)]] i []) fun (i:Nat) => [ZB (BI p0 i)])
def nb3q1 (p0:List UInt8):Int := (NI (sumN (nb3q0 p0)))
end
theorem sl_ok (l:List UInt8) (m:Ab.Mode) (hl:l.length ≤ 70368744177664):ACalls Try.prog 18 [bsl l m] ⟨[],[]⟩ (SpecR (sC [bsl l m] (bsl (sealB l) .any)) ()) := by
  refine con_of (A := sC _ _) (x := ()) (E := Esl) (eOk conS_ok rfl) Try.func18 rfl (by kernel_rfl) rfl (by simp [sC,Esl,EC,E0]) ?_
  refine vc_eq (T :=
    True∧side ((N4 + LN l) * N1 ≤ (140737488355328:Nat)∧N4 + LN l ≤ (9223372036854775807:Nat)) (∀ (t:Nat),(rowsB (N4 + LN l) (appF N4 (fun (i:Nat) => List.getD [[ZB (65:Int)],[ZB (76:Int)],[ZB (67:Int)],[ZB (49:Int)]] i []) fun (i:Nat) => [ZB (BI l i)]) = true∧LN (nb3q0 l) ≤ (9223372036854775807:Nat))∧∀ (y:Unit),True→SM t∧side ((N4 + LN l + N4) * N1 ≤ (140737488355328:Nat)∧N4 + LN l + N4 ≤ (9223372036854775807:Nat)) (∀ (t:Nat),True∧∃ (y:Unit),True∧(N4 + LN l + N4 = LN (sealB l)∧(∀ (i:Nat),i < N4 + LN l + N4→appF (N4 + LN l) (appF N4 (fun (i:Nat) => List.getD [[ZB (65:Int)],[ZB (76:Int)],[ZB (67:Int)],[ZB (49:Int)]] i []) fun (i:Nat) => [ZB (BI l i)]) (fun (i:Nat) => List.getD [[ZB (IntKind.wrap IntKind.u8 (Int.fdiv (nb3q1 l) (16777216:Int)))],[ZB (IntKind.wrap IntKind.u8 (Int.fdiv (nb3q1 l) (65536:Int)))],[ZB (IntKind.wrap IntKind.u8 (Int.fdiv (nb3q1 l) (256:Int)))],[ZB (IntKind.wrap IntKind.u8 (nb3q1 l))]] i []) i = [ZB (BI (sealB l) i)])∧True)∧True∧True))) (by kernel_rfl) ?_
  delta BI LN N1 N4 NI SM U0 ZB nb3q0 nb3q1
  simp only [eq_self,side_iff,true_and,and_true,exists_const,forall_const]
  have h4:∀ i,i < 4→([[D.int .u8 65],[D.int .u8 76],[D.int .u8 67],[D.int .u8 49]]:List (List D)).getD i [] = [D.int .u8 (((([65,76,67,49]:List UInt8).getD i 0).toNat:Nat):Int)] := rows_eq (by kernel_rfl)
  have hF := app_gen (n := 4) (l := [65,76,67,49]) (r := l) rfl h4 (fun i _ => rfl)
  have hb := bytesOf_eq (n := 4 + l.length) (l := [65,76,67,49] ++ l) (by simp; omega) hF
  have hr := rowsB_eq (n := 4 + l.length) (l := [65,76,67,49] ++ l) (by simp; omega) hF
  have hL:([65,76,67,49] ++ l:List UInt8).length = 4 + l.length := by simp; omega
  have hsl:(sealB l).length = 4 + l.length + 4 := by simp [sealB,sumB]; omega
  rw [hb,hr,hL,hsl]
  refine ⟨by omega,⟨rfl,by omega⟩,by omega,rfl,?_⟩
  refine app_gen (n := 4 + l.length) (r := sumB (sumN ([65,76,67,49] ++ l))) hL.symm hF ?_
  intro i hi
  have hi:i < 4 := hi
  match i,hi with
  | 0,_ => simp only [List.getD_cons_zero,sumB]; exact congrArg (fun z => [D.int .u8 z]) (wrapD _ 16777216)
  | 1,_ => simp only [List.getD_cons_zero,List.getD_cons_succ,sumB]; exact congrArg (fun z => [D.int .u8 z]) (wrapD _ 65536)
  | 2,_ => simp only [List.getD_cons_zero,List.getD_cons_succ,sumB]; exact congrArg (fun z => [D.int .u8 z]) (wrapD _ 256)
  | 3,_ =>
    simp only [List.getD_cons_zero,List.getD_cons_succ,sumB]
    rw [IntKind.wrap_u8,UInt8.toNat_ofNat']
    congr 2
    try omega
end Go.Proofs.Ytoglbmhkfkghbaa
namespace Go.Proofs.Ytoglbmhkfkghbaa
open Go Go.Ab
theorem form_len {k:Int} {s:List Int} {nn ni:Nat} (h:formS k s nn ni = 0):s.length ≤ 8 := by
  unfold formS at h
  by_cases hk:k = 1∨k = 2∨k = 3
  · rw [if_pos hk] at h
    by_cases hd:dimsS s ≠ 0
    · rw [if_pos hd] at h; exact (hd h).elim
    · have hd:dimsS s = 0 := by simpa using hd
      unfold dimsS at hd
      by_cases h8:8 < s.length
      · rw [if_pos h8] at hd; omega
      · omega
  · rw [if_neg hk] at h; omega
theorem szL_chk:∀ (l:List Arr) (d w d' w':Int),chkL l d w = some (d',w')→w' ≤ 262144→(∀ x ∈ l,(chkA x).1 = 0→(szA x:Int) ≤ 20 * (1 + (chkA x).2.2))→(szL l:Int) ≤ 20 * (l.length:Int) + 20 * (w' - w)
  | [],d,w,d',w',h,_,_ => by
    rw [chkL] at h; injection h with h; injection h with e1 e2
    simp only [szL,List.length_nil]; omega
  | x :: r,d,w,d',w',h,hw,h3 => by
    rw [chkL] at h
    split at h
    · cases h
    · rename_i hx
      have hx:(chkA x).1 = 0 := by simpa using hx
      have h5 := h3 x (by simp) hx
      by_cases hs:262145 < w + (chkA x).2.2
      · rw [if_pos hs] at h
        have := chkL_sat r _ _ _ h
        omega
      · rw [if_neg hs] at h
        have ih := szL_chk r _ _ d' w' h hw fun y hy => h3 y (by simp [hy])
        simp only [szL,List.length_cons]
        omega
theorem szA_chk:∀ (a:Arr),(chkA a).1 = 0→(szA a:Int) ≤ 20 * (1 + (chkA a).2.2)
  | .mk k s n is,h => by
    have ih:∀ x ∈ is,(chkA x).1 = 0→(szA x:Int) ≤ 20 * (1 + (chkA x).2.2) := fun x hx => szA_chk x
    rw [chkA] at h ⊢
    by_cases h0:formS k s n.length is.length ≠ 0
    · rw [if_pos h0] at h; exact (h0 h).elim
    · rw [if_neg h0] at h ⊢
      have h0:formS k s n.length is.length = 0 := by simpa using h0
      have hl := form_len h0
      by_cases hb:n.any (badK k) = true
      · rw [if_pos hb] at h; simp at h
      · rw [if_neg hb] at h ⊢
        cases hr:chkL is 0 ((n.length:Int) + is.length) with
        | none => rw [hr] at h; simp at h
        | some r =>
          rw [hr] at h
          simp only at h ⊢
          by_cases hg:16 < r.1∨262144 < r.2
          · rw [if_pos hg] at h; simp at h
          · rw [if_neg hg]
            have := szL_chk is 0 _ r.1 r.2 hr (by omega) ih
            simp only [szA]
            omega
termination_by a => SizeOf.sizeOf a
decreasing_by
  have := List.sizeOf_lt_of_mem hx
  simp; omega
theorem right_consts {c:CodD} (h:rightC c = 0):∀ a ∈ c.consts,(chkA a).1 = 0 := by
  unfold rightC at h
  by_cases h1:1024 < c.funs.length∨65536 < totI c.funs 0∨65536 < c.consts.length∨4096 < c.kers.length
  · rw [if_pos h1] at h; omega
  · rw [if_neg h1] at h
    by_cases h2:(c.consts.any fun a => (chkA a).1 != 0) = true
    · rw [if_pos h2] at h; omega
    · intro a ha
      simp only [List.any_eq_true,not_exists,not_and] at h2
      have := h2 a ha
      simpa using this
end Go.Proofs.Ytoglbmhkfkghbaa
namespace Go.Proofs.Ytoglbmhkfkghbaa
open Go Go.Ab
set_option maxRecDepth 100000
def _root_.Go.Ab.refKey:D→Nat
  | .ref k _ _ => k
  | _ => 0
def _root_.Go.Ab.vkey (os:List (Nat × Nat × AObj)) (k:Nat):Nat := match cellsO os k with
  | [_,_,_,.vs kv _ _ _ _] => kv
  | _ => 0
def zrow:List D := [.int .i64 0,.sl 1 0 (fun _ => []) .nil,.sl 1 0 (fun _ => []) .nil,.sl 1 0 (fun _ => []) .nil]
def clR (its:List Arr) (i j:Nat):List D := match Nat.blt j i with
  | true => (its.getD j default).row1
  | false => zrow
def sCl (row row':Arr→List D) (q:Arr→Prop):FnSpec where
  β := Arr
  α := Unit
  args := fun a => [.agg (row a)]
  st := fun _ => ⟨[],[]⟩
  pre := q
  post := fun _ _ => True
  res := fun a _ => .ret (.agg (row' a))
  out := fun _ _ => ⟨[],[]⟩
def conCl (its:List Arr):Con := fun k _ _ => match k with
  | 26 => some (sCl Arr.row1 Arr.row1 (fun b => b ∈ its))
  | _ => none
theorem clR_lt {its:List Arr} {i j:Nat} (h:j < i):clR its i j = (its.getD j default).row1 := by
  unfold clR
  have:Nat.blt j i = true := by simpa using h
  rw [this]
theorem clR_ge {its:List Arr} {i j:Nat} (h:¬ j < i):clR its i j = zrow := by
  unfold clR
  cases hb:Nat.blt j i with
  | false => rfl
  | true => exact (h (by simpa using hb)).elim
noncomputable def Ecl (a:Arr):Senv := { EC (conCl a.it) 47 6 [32,33,34,35] (fun id => match id with | 1 => ([0,1,2,3,4,6,7,8,10,11,12,5,9,13,14,15,16],[5,9,13,15,16]) | 7 => ([0,1,2,3,4,5,6],[4,6]) | _ => ([],[])) with
  gz := fun r => match r with
    | 9 => [.cell 17 1,.cell 17 2,.cell 17 3]
    | _ => []
  cut := fun id _ S => match id with
    | 1 => some { slots := [3],keep := [],α := (Nat × Nat) × Nat × Nat,st := fun y => ([.ref 17 y.2.2 0],⟨[(17,y.2.2,.cells [.int .i64 a.k,.vs 7 y.1.1 a.sh.length a.sh.length 1,.vs 11 y.1.2 a.nu.length a.nu.length 1,.vs 15 y.2.1 a.it.length a.it.length 4]),(15,y.2.1,.vec 4 a.it.length a.it.length (clR a.it 0)),(11,y.1.2,.vec 1 a.nu.length a.nu.length (fun _ => [.int .i64 0])),(7,y.1.1,.vec 1 a.sh.length a.sh.length (fun _ => [.int .i64 0]))] ++ S.objs,[]⟩),inv := fun _ => True,mu := fun _ => 0 }
    | _ => none
  ann := fun b env S => match b with
    | 0 => some { slots := [34],keep := [1,2,3,32,33],α := Nat,st := fun i => ([.int .i64 i],⟨setO S.objs (vkey S.objs (refKey (Ab.look env 3))) (.vec 4 a.it.length a.it.length (clR a.it i)),S.toks⟩),inv := fun i => i ≤ a.it.length,mu := fun i => a.it.length - i }
    | _ => none }
noncomputable section
def rd8q0 (p0:Arr):Nat := LN (Arr.sh p0)
def rd8q1 (p0:Arr):Int := (NI (rd8q0 p0))
def rd8q2 (p0:Arr):Int := (8:Int) * rd8q1 p0
def rd8q3 (p0:Arr):List Arr := Arr.it p0
def rd8q4 (p0:Arr):Nat := LN (rd8q3 p0)
def rd8q5:Arr := DA
def rd8q6 (p0:Arr) (p1:Nat):Arr := List.getD (rd8q3 p0) p1 rd8q5
def rd8q7 (p0:Arr) (p1:Nat):List Int := Arr.sh (rd8q6 p0 p1)
def rd8q8 (p0:Arr) (p1:Nat):List Int := Arr.nu (rd8q6 p0 p1)
def rd8q9 (p0:Arr) (p1:Nat):List Arr := Arr.it (rd8q6 p0 p1)
def rd8q10 (p0:Arr) (p1:Nat):List D := [ZI (Arr.k (rd8q6 p0 p1)),SI (rd8q7 p0 p1),SI (rd8q8 p0 p1),D.sl N4 (LN (rd8q9 p0 p1)) (fun (i:Nat) => Arr.row (List.getD (rd8q9 p0 p1) i rd8q5)) Mode.any]
def rd8q11 (p0:Arr):D := D.sl N4 (rd8q4 p0) (fun (i:Nat) => rd8q10 p0 i) Mode.any
def rd8q12 (p0:Arr):Prop := SM (rd8q11 p0)
def rd8q13 (p0:Nat) (p1:Arr):Prop := SM p0∧rd8q12 p1
def rd8q14 (p0:Arr):Nat := LN (Arr.nu p0)
def rd8q15 (p0:Arr) (p1:Nat):List D := [ZI (GI (Arr.nu p0) p1)]
def rd8q16 (p0:Arr):D := D.sl N1 (rd8q14 p0) (fun (i:Nat) => rd8q15 p0 i) Mode.any
def rd8q17 (p0:Nat) (p1:Arr):Prop := SM p0∧SM (rd8q16 p1)
def rd8q18 (p0:Arr):Int := Arr.k p0
def rd8q19 (p0:Arr):D := ZI (rd8q18 p0)
def rd8q20 (p0:Nat) (p1:Arr):Prop := SM p0∧SM (rd8q19 p1)
def rd8q21 (p0:Arr):Int := (NI (rd8q14 p0))
def rd8q22 (p0:Arr):Int := (8:Int) * rd8q21 p0
def rd8q23 (p0 p1 p2 p3:Nat):Prop := p0 ≠ p1∧p2 ≠ p1∧p3 ≠ p1∧True
def rd8q24 (p0:Arr):Int := (NI (rd8q4 p0))
def rd8q25 (p0:Arr):Int := (80:Int) * rd8q24 p0
def rd8q26 (p0 p1 p2 p3 p4:Nat):Prop := p0 ≠ p1∧rd8q23 p2 p1 p3 p4
def rd8q27 (p0 p1 p2 p3 p4 p5:Nat):Prop := p0 ≠ p1∧rd8q26 p2 p1 p3 p4 p5
def rd8q28 (p0:Arr):Prop := SM (rd8q18 p0)
def rd8q29 (p0:Arr):Prop := Int.toNat (rd8q1 p0) = rd8q0 p0
def rd8q30 (p0:Arr):Prop := Int.toNat (rd8q21 p0) = rd8q14 p0
def rd8q31 (p0:Arr):Prop := Int.toNat (rd8q24 p0) = rd8q4 p0
def rd8q32:D := D.sl N1 N0 (fun (_x:Nat) => []) Mode.nil
def rd8q33:Prop := SM [ZI Z0]
def rd8q34:Prop := SM N0∧(∀ (i:Nat),i < N0→eqOf (List D) [] [])∧True
def rd8q35 (p0:Arr):Prop := SM (rd8q0 p0)
def rd8q36 (p0:Arr) (p1:Nat):List D := [ZI (GI (Arr.sh p0) p1)]
def rd8q37 (p0:Arr):Prop := ∀ (i:Nat),i < rd8q0 p0→SM (rd8q36 p0 i)
def rd8q38 (p0:Arr):Prop := rd8q35 p0∧rd8q37 p0∧True
def rd8q39 (p0:Arr):Prop := SM (rd8q14 p0)
def rd8q40 (p0:Arr):Prop := ∀ (i:Nat),i < rd8q14 p0→SM (rd8q15 p0 i)
def rd8q41 (p0:Arr):Prop := rd8q39 p0∧rd8q40 p0∧True
def rd8q42 (p0:Arr):Prop := SM (rd8q4 p0)
def rd8q43 (p0:Nat) (p1:Arr):Prop := p0 < rd8q4 p1
def rd8q44 (p0 p1:Nat) (p2:Arr):Prop := SM p0∧(SM Z0∧rd8q34∧rd8q34∧rd8q34∧True)∧SM p1∧(rd8q28 p2∧rd8q38 p2∧rd8q41 p2∧(rd8q42 p2∧(∀ (i:Nat),rd8q43 i p2→SM (rd8q10 p2 i))∧True)∧True)∧True
def rd8q45 (p0:Nat) (p1:Arr) (p2 p3 p4 p5 p6:Nat):Prop := rd8q20 p0 p1∧SM p2∧∃ (x:(Nat × Nat) × Nat × Nat),True∧(p2 = x.2.2∧True)∧(p2 = x.2.2∧(rd8q28 p1∧(p3 = x.1.1∧rd8q29 p1∧rd8q29 p1)∧(p4 = x.1.2∧rd8q30 p1∧rd8q30 p1)∧(p5 = x.2.1∧rd8q31 p1∧rd8q31 p1)∧True)∧p5 = x.2.1∧(rd8q31 p1∧rd8q31 p1∧∀ (i:Nat),i < Int.toNat (rd8q24 p1)→[ZI Z0,rd8q32,rd8q32,rd8q32] = clR (rd8q3 p1) N0 i)∧p4 = x.1.2∧(rd8q30 p1∧rd8q30 p1∧∀ (i:Nat),i < Int.toNat (rd8q21 p1)→rd8q33)∧p3 = x.1.1∧(rd8q29 p1∧rd8q29 p1∧∀ (i:Nat),i < Int.toNat (rd8q1 p1)→rd8q33)∧rd8q44 p6 p0 p1)∧True
def rd8q46 (p0:Arr):D := D.sl N1 (rd8q0 p0) (fun (i:Nat) => rd8q36 p0 i) Mode.any
def rd8q47 (p0:Nat) (p1:Arr):Prop := SM p0∧SM (rd8q46 p1)
def rd8q48 (p0:Arr) (p1 p2 p3:Nat):Prop := rd8q28 p0∧(SM p1∧rd8q35 p0∧rd8q35 p0)∧(SM p2∧rd8q39 p0∧rd8q39 p0)∧(SM p3∧rd8q42 p0∧rd8q42 p0)∧True
def rd8q49 (p0:Arr) (p1 p2:Nat):List D := clR (rd8q3 p0) p1 p2
def rd8q50 (p0:Nat) (p1:Arr) (p2 p3 p4:Nat):Prop := SM p0∧(rd8q39 p1∧rd8q39 p1∧rd8q40 p1)∧SM p2∧(rd8q35 p1∧rd8q35 p1∧rd8q37 p1)∧rd8q44 p3 p4 p1
def rd8q51 (p0:Arr) (p1:Nat):Arr := List.getD (rd8q3 p0) (Int.toNat (↑p1:Int)) rd8q5
def rd8q52 (p0:Arr) (p1:Nat):List Int := Arr.sh (rd8q51 p0 p1)
def rd8q53 (p0:Arr) (p1:Nat):Nat := LN (rd8q52 p0 p1)
def rd8q54 (p0:Arr) (p1:Nat):List Int := Arr.nu (rd8q51 p0 p1)
def rd8q55 (p0:Arr) (p1:Nat):Nat := LN (rd8q54 p0 p1)
def rd8q56 (p0:Arr) (p1:Nat):List Arr := Arr.it (rd8q51 p0 p1)
def rd8q57 (p0:Arr) (p1:Nat):Nat := LN (rd8q56 p0 p1)
def rd8q58 (p0:Arr) (p1:Nat):List D := Arr.row (rd8q6 p0 p1)
def rd8q59 (p0:Nat) (p1:Arr):D := D.vs (15:Nat) p0 (rd8q4 p1) (rd8q4 p1) N4
def rd8q60 (p0:D):Bool := match p0 with | D.unk => false | D.agg _cs => false | D.tup _ds => false | _x => true
end
theorem cl_step (a : Arr) (ha : a.nu.length ≤ 1000000 ∧ a.it.length ≤ 1000000 ∧ a.sh.length ≤ 1000000) (hc : ConOk Try.prog (conCl a.it)) :
    ACalls Try.prog 26 ((sCl Arr.row2 Arr.row2 (fun _ => True)).args a) ⟨[],[]⟩ (SpecR (sCl Arr.row2 Arr.row2 (fun _ => True)) a) := by
  refine con_of (A := sCl Arr.row2 Arr.row2 (fun _ => True)) (x := a) (E := Ecl a) (eOk hc rfl) Try.func26 rfl (by kernel_rfl) rfl (by simp [sCl,Ecl,EC,E0]) ?_
  refine vc_eq (T :=
    ∀ (x:Nat),True→∀ (x_1:Nat),x ≠ x_1∧True→(SM x∧SM x∧SM x∧SM x∧side (Z0 ≤ rd8q1 a∧rd8q1 a ≤ rd8q1 a∧rd8q2 a ≤ (281474976710656:Int)∧rd8q1 a ≤ (9223372036854775807:Int)) (∀ (x_2:Nat),x_1 ≠ x_2∧x ≠ x_2∧True→rd8q13 x a∧rd8q17 x a∧rd8q20 x a∧side (Z0 ≤ rd8q21 a∧rd8q21 a ≤ rd8q21 a∧rd8q22 a ≤ (281474976710656:Int)∧rd8q21 a ≤ (9223372036854775807:Int)) (∀ (x_3:Nat),rd8q23 x_2 x_3 x_1 x→rd8q13 x a∧rd8q20 x a∧side (Z0 ≤ rd8q24 a∧rd8q24 a ≤ rd8q24 a∧rd8q25 a ≤ (281474976710656:Int)∧rd8q24 a ≤ (9223372036854775807:Int)) (∀ (x_4:Nat),rd8q26 x_3 x_4 x_2 x_1 x→rd8q20 x a∧∀ (x_5:Nat),rd8q27 x_4 x_5 x_3 x_2 x_1 x→rd8q45 x a x_5 x_2 x_3 x_4 x_1)∧∀ (x_4:Nat),rd8q26 x_3 x_4 x_2 x_1 x→rd8q13 x a∧rd8q20 x a∧side (Z0 ≤ rd8q24 a∧rd8q24 a ≤ rd8q24 a∧rd8q25 a ≤ (281474976710656:Int)∧rd8q24 a ≤ (9223372036854775807:Int)) (∀ (x_5:Nat),rd8q27 x_4 x_5 x_3 x_2 x_1 x→rd8q45 x a x_4 x_2 x_3 x_5 x_1))∧side (Z0 ≤ rd8q24 a∧rd8q24 a ≤ rd8q24 a∧rd8q25 a ≤ (281474976710656:Int)∧rd8q24 a ≤ (9223372036854775807:Int)) (∀ (x_3:Nat),rd8q23 x_2 x_3 x_1 x→rd8q17 x a∧rd8q20 x a∧side (Z0 ≤ rd8q21 a∧rd8q21 a ≤ rd8q21 a∧rd8q22 a ≤ (281474976710656:Int)∧rd8q21 a ≤ (9223372036854775807:Int)) (∀ (x_4:Nat),rd8q26 x_3 x_4 x_2 x_1 x→rd8q20 x a∧∀ (x_5:Nat),rd8q27 x_4 x_5 x_3 x_2 x_1 x→rd8q45 x a x_5 x_2 x_4 x_3 x_1)∧∀ (x_4:Nat),rd8q26 x_3 x_4 x_2 x_1 x→rd8q17 x a∧rd8q20 x a∧side (Z0 ≤ rd8q21 a∧rd8q21 a ≤ rd8q21 a∧rd8q22 a ≤ (281474976710656:Int)∧rd8q21 a ≤ (9223372036854775807:Int)) (∀ (x_5:Nat),rd8q27 x_4 x_5 x_3 x_2 x_1 x→rd8q45 x a x_4 x_2 x_5 x_3 x_1))∧∀ (x_3:Nat),rd8q23 x_2 x_3 x_1 x→rd8q13 x a∧rd8q17 x a∧rd8q20 x a∧side (Z0 ≤ rd8q21 a∧rd8q21 a ≤ rd8q21 a∧rd8q22 a ≤ (281474976710656:Int)∧rd8q21 a ≤ (9223372036854775807:Int)) (∀ (x_4:Nat),rd8q26 x_3 x_4 x_2 x_1 x→rd8q13 x a∧rd8q20 x a∧side (Z0 ≤ rd8q24 a∧rd8q24 a ≤ rd8q24 a∧rd8q25 a ≤ (281474976710656:Int)∧rd8q24 a ≤ (9223372036854775807:Int)) (∀ (x_5:Nat),rd8q27 x_4 x_5 x_3 x_2 x_1 x→rd8q45 x a x_3 x_2 x_4 x_5 x_1))∧side (Z0 ≤ rd8q24 a∧rd8q24 a ≤ rd8q24 a∧rd8q25 a ≤ (281474976710656:Int)∧rd8q24 a ≤ (9223372036854775807:Int)) (∀ (x_4:Nat),rd8q26 x_3 x_4 x_2 x_1 x→rd8q17 x a∧rd8q20 x a∧side (Z0 ≤ rd8q21 a∧rd8q21 a ≤ rd8q21 a∧rd8q22 a ≤ (281474976710656:Int)∧rd8q21 a ≤ (9223372036854775807:Int)) (∀ (x_5:Nat),rd8q27 x_4 x_5 x_3 x_2 x_1 x→rd8q45 x a x_3 x_2 x_5 x_4 x_1)))∧side (Z0 ≤ rd8q21 a∧rd8q21 a ≤ rd8q21 a∧rd8q22 a ≤ (281474976710656:Int)∧rd8q21 a ≤ (9223372036854775807:Int)) (∀ (x_2:Nat),x_1 ≠ x_2∧x ≠ x_2∧True→rd8q13 x a∧rd8q47 x a∧rd8q20 x a∧side (Z0 ≤ rd8q1 a∧rd8q1 a ≤ rd8q1 a∧rd8q2 a ≤ (281474976710656:Int)∧rd8q1 a ≤ (9223372036854775807:Int)) (∀ (x_3:Nat),rd8q23 x_2 x_3 x_1 x→rd8q13 x a∧rd8q20 x a∧side (Z0 ≤ rd8q24 a∧rd8q24 a ≤ rd8q24 a∧rd8q25 a ≤ (281474976710656:Int)∧rd8q24 a ≤ (9223372036854775807:Int)) (∀ (x_4:Nat),rd8q26 x_3 x_4 x_2 x_1 x→rd8q20 x a∧∀ (x_5:Nat),rd8q27 x_4 x_5 x_3 x_2 x_1 x→rd8q45 x a x_5 x_3 x_2 x_4 x_1)∧∀ (x_4:Nat),rd8q26 x_3 x_4 x_2 x_1 x→rd8q13 x a∧rd8q20 x a∧side (Z0 ≤ rd8q24 a∧rd8q24 a ≤ rd8q24 a∧rd8q25 a ≤ (281474976710656:Int)∧rd8q24 a ≤ (9223372036854775807:Int)) (∀ (x_5:Nat),rd8q27 x_4 x_5 x_3 x_2 x_1 x→rd8q45 x a x_4 x_3 x_2 x_5 x_1))∧side (Z0 ≤ rd8q24 a∧rd8q24 a ≤ rd8q24 a∧rd8q25 a ≤ (281474976710656:Int)∧rd8q24 a ≤ (9223372036854775807:Int)) (∀ (x_3:Nat),rd8q23 x_2 x_3 x_1 x→rd8q47 x a∧rd8q20 x a∧side (Z0 ≤ rd8q1 a∧rd8q1 a ≤ rd8q1 a∧rd8q2 a ≤ (281474976710656:Int)∧rd8q1 a ≤ (9223372036854775807:Int)) (∀ (x_4:Nat),rd8q26 x_3 x_4 x_2 x_1 x→rd8q20 x a∧∀ (x_5:Nat),rd8q27 x_4 x_5 x_3 x_2 x_1 x→rd8q45 x a x_5 x_4 x_2 x_3 x_1)∧∀ (x_4:Nat),rd8q26 x_3 x_4 x_2 x_1 x→rd8q47 x a∧rd8q20 x a∧side (Z0 ≤ rd8q1 a∧rd8q1 a ≤ rd8q1 a∧rd8q2 a ≤ (281474976710656:Int)∧rd8q1 a ≤ (9223372036854775807:Int)) (∀ (x_5:Nat),rd8q27 x_4 x_5 x_3 x_2 x_1 x→rd8q45 x a x_4 x_5 x_2 x_3 x_1))∧∀ (x_3:Nat),rd8q23 x_2 x_3 x_1 x→rd8q13 x a∧rd8q47 x a∧rd8q20 x a∧side (Z0 ≤ rd8q1 a∧rd8q1 a ≤ rd8q1 a∧rd8q2 a ≤ (281474976710656:Int)∧rd8q1 a ≤ (9223372036854775807:Int)) (∀ (x_4:Nat),rd8q26 x_3 x_4 x_2 x_1 x→rd8q13 x a∧rd8q20 x a∧side (Z0 ≤ rd8q24 a∧rd8q24 a ≤ rd8q24 a∧rd8q25 a ≤ (281474976710656:Int)∧rd8q24 a ≤ (9223372036854775807:Int)) (∀ (x_5:Nat),rd8q27 x_4 x_5 x_3 x_2 x_1 x→rd8q45 x a x_3 x_4 x_2 x_5 x_1))∧side (Z0 ≤ rd8q24 a∧rd8q24 a ≤ rd8q24 a∧rd8q25 a ≤ (281474976710656:Int)∧rd8q24 a ≤ (9223372036854775807:Int)) (∀ (x_4:Nat),rd8q26 x_3 x_4 x_2 x_1 x→rd8q47 x a∧rd8q20 x a∧side (Z0 ≤ rd8q1 a∧rd8q1 a ≤ rd8q1 a∧rd8q2 a ≤ (281474976710656:Int)∧rd8q1 a ≤ (9223372036854775807:Int)) (∀ (x_5:Nat),rd8q27 x_4 x_5 x_3 x_2 x_1 x→rd8q45 x a x_3 x_5 x_2 x_4 x_1)))∧side (Z0 ≤ rd8q24 a∧rd8q24 a ≤ rd8q24 a∧rd8q25 a ≤ (281474976710656:Int)∧rd8q24 a ≤ (9223372036854775807:Int)) (∀ (x_2:Nat),x_1 ≠ x_2∧x ≠ x_2∧True→rd8q17 x a∧rd8q47 x a∧rd8q20 x a∧side (Z0 ≤ rd8q1 a∧rd8q1 a ≤ rd8q1 a∧rd8q2 a ≤ (281474976710656:Int)∧rd8q1 a ≤ (9223372036854775807:Int)) (∀ (x_3:Nat),rd8q23 x_2 x_3 x_1 x→rd8q17 x a∧rd8q20 x a∧side (Z0 ≤ rd8q21 a∧rd8q21 a ≤ rd8q21 a∧rd8q22 a ≤ (281474976710656:Int)∧rd8q21 a ≤ (9223372036854775807:Int)) (∀ (x_4:Nat),rd8q26 x_3 x_4 x_2 x_1 x→rd8q20 x a∧∀ (x_5:Nat),rd8q27 x_4 x_5 x_3 x_2 x_1 x→rd8q45 x a x_5 x_3 x_4 x_2 x_1)∧∀ (x_4:Nat),rd8q26 x_3 x_4 x_2 x_1 x→rd8q17 x a∧rd8q20 x a∧side (Z0 ≤ rd8q21 a∧rd8q21 a ≤ rd8q21 a∧rd8q22 a ≤ (281474976710656:Int)∧rd8q21 a ≤ (9223372036854775807:Int)) (∀ (x_5:Nat),rd8q27 x_4 x_5 x_3 x_2 x_1 x→rd8q45 x a x_4 x_3 x_5 x_2 x_1))∧side (Z0 ≤ rd8q21 a∧rd8q21 a ≤ rd8q21 a∧rd8q22 a ≤ (281474976710656:Int)∧rd8q21 a ≤ (9223372036854775807:Int)) (∀ (x_3:Nat),rd8q23 x_2 x_3 x_1 x→rd8q47 x a∧rd8q20 x a∧side (Z0 ≤ rd8q1 a∧rd8q1 a ≤ rd8q1 a∧rd8q2 a ≤ (281474976710656:Int)∧rd8q1 a ≤ (9223372036854775807:Int)) (∀ (x_4:Nat),rd8q26 x_3 x_4 x_2 x_1 x→rd8q20 x a∧∀ (x_5:Nat),rd8q27 x_4 x_5 x_3 x_2 x_1 x→rd8q45 x a x_5 x_4 x_3 x_2 x_1)∧∀ (x_4:Nat),rd8q26 x_3 x_4 x_2 x_1 x→rd8q47 x a∧rd8q20 x a∧side (Z0 ≤ rd8q1 a∧rd8q1 a ≤ rd8q1 a∧rd8q2 a ≤ (281474976710656:Int)∧rd8q1 a ≤ (9223372036854775807:Int)) (∀ (x_5:Nat),rd8q27 x_4 x_5 x_3 x_2 x_1 x→rd8q45 x a x_4 x_5 x_3 x_2 x_1))∧∀ (x_3:Nat),rd8q23 x_2 x_3 x_1 x→rd8q17 x a∧rd8q47 x a∧rd8q20 x a∧side (Z0 ≤ rd8q1 a∧rd8q1 a ≤ rd8q1 a∧rd8q2 a ≤ (281474976710656:Int)∧rd8q1 a ≤ (9223372036854775807:Int)) (∀ (x_4:Nat),rd8q26 x_3 x_4 x_2 x_1 x→rd8q17 x a∧rd8q20 x a∧side (Z0 ≤ rd8q21 a∧rd8q21 a ≤ rd8q21 a∧rd8q22 a ≤ (281474976710656:Int)∧rd8q21 a ≤ (9223372036854775807:Int)) (∀ (x_5:Nat),rd8q27 x_4 x_5 x_3 x_2 x_1 x→rd8q45 x a x_3 x_4 x_5 x_2 x_1))∧side (Z0 ≤ rd8q21 a∧rd8q21 a ≤ rd8q21 a∧rd8q22 a ≤ (281474976710656:Int)∧rd8q21 a ≤ (9223372036854775807:Int)) (∀ (x_4:Nat),rd8q26 x_3 x_4 x_2 x_1 x→rd8q47 x a∧rd8q20 x a∧side (Z0 ≤ rd8q1 a∧rd8q1 a ≤ rd8q1 a∧rd8q2 a ≤ (281474976710656:Int)∧rd8q1 a ≤ (9223372036854775807:Int)) (∀ (x_5:Nat),rd8q27 x_4 x_5 x_3 x_2 x_1 x→rd8q45 x a x_3 x_5 x_4 x_2 x_1)))∧∀ (x_2:Nat),x_1 ≠ x_2∧x ≠ x_2∧True→rd8q13 x a∧rd8q17 x a∧rd8q47 x a∧rd8q20 x a∧side (Z0 ≤ rd8q1 a∧rd8q1 a ≤ rd8q1 a∧rd8q2 a ≤ (281474976710656:Int)∧rd8q1 a ≤ (9223372036854775807:Int)) (∀ (x_3:Nat),rd8q23 x_2 x_3 x_1 x→rd8q13 x a∧rd8q17 x a∧rd8q20 x a∧side (Z0 ≤ rd8q21 a∧rd8q21 a ≤ rd8q21 a∧rd8q22 a ≤ (281474976710656:Int)∧rd8q21 a ≤ (9223372036854775807:Int)) (∀ (x_4:Nat),rd8q26 x_3 x_4 x_2 x_1 x→rd8q13 x a∧rd8q20 x a∧side (Z0 ≤ rd8q24 a∧rd8q24 a ≤ rd8q24 a∧rd8q25 a ≤ (281474976710656:Int)∧rd8q24 a ≤ (9223372036854775807:Int)) (∀ (x_5:Nat),rd8q27 x_4 x_5 x_3 x_2 x_1 x→rd8q45 x a x_2 x_3 x_4 x_5 x_1))∧side (Z0 ≤ rd8q24 a∧rd8q24 a ≤ rd8q24 a∧rd8q25 a ≤ (281474976710656:Int)∧rd8q24 a ≤ (9223372036854775807:Int)) (∀ (x_4:Nat),rd8q26 x_3 x_4 x_2 x_1 x→rd8q17 x a∧rd8q20 x a∧side (Z0 ≤ rd8q21 a∧rd8q21 a ≤ rd8q21 a∧rd8q22 a ≤ (281474976710656:Int)∧rd8q21 a ≤ (9223372036854775807:Int)) (∀ (x_5:Nat),rd8q27 x_4 x_5 x_3 x_2 x_1 x→rd8q45 x a x_2 x_3 x_5 x_4 x_1)))∧side (Z0 ≤ rd8q21 a∧rd8q21 a ≤ rd8q21 a∧rd8q22 a ≤ (281474976710656:Int)∧rd8q21 a ≤ (9223372036854775807:Int)) (∀ (x_3:Nat),rd8q23 x_2 x_3 x_1 x→rd8q13 x a∧rd8q47 x a∧rd8q20 x a∧side (Z0 ≤ rd8q1 a∧rd8q1 a ≤ rd8q1 a∧rd8q2 a ≤ (281474976710656:Int)∧rd8q1 a ≤ (9223372036854775807:Int)) (∀ (x_4:Nat),rd8q26 x_3 x_4 x_2 x_1 x→rd8q13 x a∧rd8q20 x a∧side (Z0 ≤ rd8q24 a∧rd8q24 a ≤ rd8q24 a∧rd8q25 a ≤ (281474976710656:Int)∧rd8q24 a ≤ (9223372036854775807:Int)) (∀ (x_5:Nat),rd8q27 x_4 x_5 x_3 x_2 x_1 x→rd8q45 x a x_2 x_4 x_3 x_5 x_1))∧side (Z0 ≤ rd8q24 a∧rd8q24 a ≤ rd8q24 a∧rd8q25 a ≤ (281474976710656:Int)∧rd8q24 a ≤ (9223372036854775807:Int)) (∀ (x_4:Nat),rd8q26 x_3 x_4 x_2 x_1 x→rd8q47 x a∧rd8q20 x a∧side (Z0 ≤ rd8q1 a∧rd8q1 a ≤ rd8q1 a∧rd8q2 a ≤ (281474976710656:Int)∧rd8q1 a ≤ (9223372036854775807:Int)) (∀ (x_5:Nat),rd8q27 x_4 x_5 x_3 x_2 x_1 x→rd8q45 x a x_2 x_5 x_3 x_4 x_1)))∧side (Z0 ≤ rd8q24 a∧rd8q24 a ≤ rd8q24 a∧rd8q25 a ≤ (281474976710656:Int)∧rd8q24 a ≤ (9223372036854775807:Int)) (∀ (x_3:Nat),rd8q23 x_2 x_3 x_1 x→rd8q17 x a∧rd8q47 x a∧rd8q20 x a∧side (Z0 ≤ rd8q1 a∧rd8q1 a ≤ rd8q1 a∧rd8q2 a ≤ (281474976710656:Int)∧rd8q1 a ≤ (9223372036854775807:Int)) (∀ (x_4:Nat),rd8q26 x_3 x_4 x_2 x_1 x→rd8q17 x a∧rd8q20 x a∧side (Z0 ≤ rd8q21 a∧rd8q21 a ≤ rd8q21 a∧rd8q22 a ≤ (281474976710656:Int)∧rd8q21 a ≤ (9223372036854775807:Int)) (∀ (x_5:Nat),rd8q27 x_4 x_5 x_3 x_2 x_1 x→rd8q45 x a x_2 x_4 x_5 x_3 x_1))∧side (Z0 ≤ rd8q21 a∧rd8q21 a ≤ rd8q21 a∧rd8q22 a ≤ (281474976710656:Int)∧rd8q21 a ≤ (9223372036854775807:Int)) (∀ (x_4:Nat),rd8q26 x_3 x_4 x_2 x_1 x→rd8q47 x a∧rd8q20 x a∧side (Z0 ≤ rd8q1 a∧rd8q1 a ≤ rd8q1 a∧rd8q2 a ≤ (281474976710656:Int)∧rd8q1 a ≤ (9223372036854775807:Int)) (∀ (x_5:Nat),rd8q27 x_4 x_5 x_3 x_2 x_1 x→rd8q45 x a x_2 x_5 x_4 x_3 x_1))))∧∀ (x_2:(Nat × Nat) × Nat × Nat),True→SM x_2.2.2∧SM x∧SM x_2.1.1∧rd8q35 a∧rd8q35 a∧SM x_2.2.2∧SM x∧SM x_2.1.2∧rd8q39 a∧rd8q39 a∧SM x∧(∃ (x_3:Nat),x_3 ≤ rd8q4 a∧(Z0 = (↑x_3:Int)∧True)∧(SM x_2.2.2∧rd8q48 a x_2.1.1 x_2.1.2 x_2.2.1∧SM x_2.2.1∧(rd8q42 a∧rd8q42 a∧∀ (i:Nat),rd8q43 i a→clR (rd8q3 a) N0 i = rd8q49 a x_3 i)∧rd8q50 x_2.1.2 a x_2.1.1 x_1 x)∧True)∧∀ (x_3:Nat),x_3 ≤ rd8q4 a→ifB (decide ((↑x_3:Int) < rd8q24 a)) (side (Z0 ≤ (↑x_3:Int)∧(↑x_3:Int) < rd8q24 a) (∀ (x_4:Nat),x_2.2.2 ≠ x_4∧rd8q27 x_2.2.1 x_4 x_2.1.2 x_2.1.1 x_1 x→SM x_4∧SM x_2.2.2∧SM x_4∧∃ (x_5:Arr),((Arr.k (rd8q51 a x_3) = rd8q18 x_5∧(rd8q53 a x_3 = rd8q0 x_5∧(∀ (i:Nat),i < rd8q53 a x_3→[ZI (GI (rd8q52 a x_3) i)] = rd8q36 x_5 i)∧True)∧(rd8q55 a x_3 = rd8q14 x_5∧(∀ (i:Nat),i < rd8q55 a x_3→[ZI (GI (rd8q54 a x_3) i)] = rd8q15 x_5 i)∧True)∧(rd8q57 a x_3 = rd8q4 x_5∧(∀ (i:Nat),i < rd8q57 a x_3→Arr.row (List.getD (rd8q56 a x_3) i rd8q5) = rd8q58 x_5 i)∧True)∧True)∧True)∧(True∧True)∧x_5 ∈ rd8q3 a∧∀ (y:Unit),True→(SM x_2.2.2∧SM (rd8q59 x_2.2.1 a))∧side (Z0 ≤ (↑x_3:Int)∧(↑x_3:Int) < rd8q24 a) (SM x_2.2.1∧side (Int.toNat (↑x_3:Int) < rd8q4 a) ((SM (D.ref N0 x N0)∧SM (D.ref (max (N0 + N1) N0) x_1 N0)∧SM (D.ref (17:Nat) x_2.2.2 N0)∧rd8q12 a∧SM (ZI (rd8q24 a))∧True)∧∃ (y:Nat),y ≤ rd8q4 a∧rd8q4 a - y < rd8q4 a - x_3∧(IntKind.wrap IntKind.i64 ((↑x_3:Int) + Z1) = (↑y:Int)∧True)∧(SM x_2.2.2∧rd8q48 a x_2.1.1 x_2.1.2 x_2.2.1∧SM x_2.2.1∧(rd8q42 a∧rd8q42 a∧∀ (i:Nat),rd8q43 i a→updF (clR (rd8q3 a) x_3) (Int.toNat (↑x_3:Int)) (List.set (List.set (List.set (List.set (clR (rd8q3 a) x_3 (Int.toNat (↑x_3:Int))) N0 (rd8q19 x_5)) (N0 + N1) (rd8q46 x_5)) N2 (rd8q16 x_5)) (3:Nat) (D.sl N4 (rd8q4 x_5) (fun (i:Nat) => rd8q58 x_5 i) Mode.any)) i = rd8q49 a y i)∧rd8q50 x_2.1.2 a x_2.1.1 x_1 x)∧True)))) (SM x_2.1.1∧rd8q35 a∧side (rd8q0 a ≤ rd8q0 a) ((∀ (i:Nat),i < rd8q0 a→(List.all (rd8q36 a i) fun (x:D) => rd8q60 x) = true)∧∀ (t:Nat),SM x_2.1.2∧rd8q39 a∧side (rd8q14 a ≤ rd8q14 a) ((∀ (i:Nat),i < rd8q14 a→(List.all (rd8q15 a i) fun (x:D) => rd8q60 x) = true)∧∀ (t:Nat),SM x_2.2.1∧rd8q42 a∧side (rd8q4 a ≤ rd8q4 a) ((∀ (i:Nat),rd8q43 i a→(List.all (rd8q49 a x_3 i) fun (x:D) => rd8q60 x) = true)∧∀ (t:Nat),SM x_2.2.2∧SM x_1∧(SM x_1∧True)∧∃ (y:Unit),True∧(rd8q28 a∧rd8q38 a∧rd8q41 a∧(rd8q42 a∧(∀ (i:Nat),rd8q43 i a→rd8q49 a x_3 i = rd8q10 a i)∧True)∧True)∧True∧True))))) (by kernel_rfl) ?_
  delta DA GI LN N0 N1 N2 N4 NI SI SM Z0 Z1 ZI rd8q0 rd8q1 rd8q10 rd8q11 rd8q12 rd8q13 rd8q14 rd8q15 rd8q16 rd8q17 rd8q18 rd8q19 rd8q2 rd8q20 rd8q21 rd8q22 rd8q23 rd8q24 rd8q25 rd8q26 rd8q27 rd8q28 rd8q29 rd8q3 rd8q30 rd8q31 rd8q32 rd8q33 rd8q34 rd8q35 rd8q36 rd8q37 rd8q38 rd8q39 rd8q4 rd8q40 rd8q41 rd8q42 rd8q43 rd8q44 rd8q45 rd8q46 rd8q47 rd8q48 rd8q49 rd8q5 rd8q50 rd8q51 rd8q52 rd8q53 rd8q54 rd8q55 rd8q56 rd8q57 rd8q58 rd8q59 rd8q6 rd8q60 rd8q7 rd8q8 rd8q9
  have da:(default:Arr) = Arr.mk 0 [] [] [] := rfl
  simp only [← da,eq_self,implies_true,Int.toNat_natCast,ifB_iff,side_iff,decide_eq_true_eq,decide_eq_false_iff_not,true_and,and_true,exists_const,forall_const]
  obtain ⟨l1,l2,l3⟩ := ha
  refine fun x x1 hx => ⟨?_,?_⟩
  · repeat' (first | (refine ⟨((_,_),_,_),rfl,rfl,⟨rfl,rfl,rfl⟩,rfl,fun _ _ => rfl,rfl,rfl⟩) | (refine And.intro ?_ ?_) | intro _ | omega)
  refine fun y => ⟨⟨0,Nat.zero_le _,rfl,fun _ _ => rfl⟩,fun i hi => ⟨fun hlt => ⟨⟨by omega,hlt⟩,fun x4 _ => ⟨a.it.getD i default,⟨rfl,⟨rfl,fun _ _ => rfl⟩,⟨rfl,fun _ _ => rfl⟩,rfl,fun _ _ => rfl⟩,mem_getD (by omega),⟨by omega,hlt⟩,by omega,i + 1,by omega,by omega,wrap_i64' (by omega) (by omega),fun j hj => ?_⟩⟩,fun hge => ⟨Nat.le_refl _,fun _ _ => rfl,Nat.le_refl _,fun _ _ => rfl,Nat.le_refl _,fun j hj => ?_,fun j hj => ?_⟩⟩⟩
  · rw [clR_ge (its := a.it) (i := i) (j := i) (by omega)]
    by_cases e:j = i
    · subst e
      rw [clR_lt (by omega)]
      simp only [updF,if_true]
      rfl
    · simp only [updF,e,if_false]
      by_cases e2:j < i
      · rw [clR_lt e2,clR_lt (by omega)]
      · rw [clR_ge e2,clR_ge (by omega)]
  · rw [clR_lt (by omega)]; rfl
  · rw [clR_lt (by omega)]; rfl
theorem row2_row1 (a:Arr):wkL a.row2 a.row1 := by
  simp only [Arr.row1,Arr.row2,gsl,isl,wkL,wkD,weakD,chk_iff]
  exact ⟨⟨by simp [kEq],trivial⟩,⟨by simp,trivial,fun i _ => by simp [kEq],by simp [weakM]⟩,⟨by simp,trivial,fun i _ => by simp [kEq],by simp [weakM]⟩,⟨by simp,trivial,fun i _ => row1_row _,by simp [weakM]⟩,trivial⟩
theorem chkL_zero:∀ (l:List Arr) (d w:Int) (r:Int × Int),chkL l d w = some r→∀ x ∈ l,(chkA x).1 = 0
  | [],_,_,_,_,x,hx => by cases hx
  | y :: l,d,w,r,h,x,hx => by
    rw [chkL] at h
    split at h
    · cases h
    · rename_i hy
      rcases List.mem_cons.1 hx with rfl | hx
      · simpa using hy
      · exact chkL_zero l _ _ r h x hx
theorem chkA_zero {k:Int} {s n:List Int} {is:List Arr} (h:(chkA (.mk k s n is)).1 = 0):s.length ≤ 8∧n.length ≤ 65536∧is.length ≤ 65536∧∀ x ∈ is,(chkA x).1 = 0 := by
  rw [chkA] at h
  by_cases h0:formS k s n.length is.length ≠ 0
  · rw [if_pos h0] at h; exact (h0 h).elim
  · rw [if_neg h0] at h
    have h0:formS k s n.length is.length = 0 := by simpa using h0
    have hs := form_small h0
    refine ⟨form_len h0,hs.1,hs.2,?_⟩
    by_cases hb:n.any (badK k) = true
    · rw [if_pos hb] at h; simp at h
    · rw [if_neg hb] at h
      cases hr:chkL is 0 ((n.length:Int) + is.length) with
      | none => rw [hr] at h; simp at h
      | some r => exact chkL_zero _ _ _ r hr
theorem cl_all:∀ (a:Arr),(chkA a).1 = 0→ACalls Try.prog 26 [.agg a.row1] ⟨[],[]⟩ (SpecR (sCl Arr.row1 Arr.row1 (fun _ => True)) a)
  | .mk k s n is,h => by
    obtain ⟨h1,h2,h3,h4⟩ := chkA_zero h
    have hc:ConOk Try.prog (conCl (Arr.mk k s n is).it) := by
      intro k' ds S A hk
      unfold conCl at hk
      split at hk
      · injection hk with hk; subst hk
        refine ConOk.plain (fun (b:Arr) hb => ?_) rfl rfl
        have hb':b ∈ is := hb
        exact (cl_all b (h4 b hb')).mono fun _ _ ⟨y,q1,q2,q3⟩ => ⟨y,q1,q2,q3⟩
      · cases hk
    have hm := cl_step (.mk k s n is) ⟨by show n.length ≤ _; omega,by show is.length ≤ _; omega,by show s.length ≤ _; omega⟩ hc
    have hm2:ACalls Try.prog 26 [.agg (Arr.mk k s n is).row1] ⟨[],[]⟩ (SpecR (sCl Arr.row2 Arr.row2 (fun _ => True)) (.mk k s n is)) := by
      refine ACalls.wkArgs hm ?_
      simp only [sCl,wkL,wkD]
      exact ⟨row1_wk _,trivial⟩
    refine ACalls.wkEnd hm2 fun r S' ⟨y,q1,q2,q3⟩ => ?_
    subst q2 q3
    refine ⟨.ret (.agg (Arr.mk k s n is).row1),fun C e he => ?_,⟨(),trivial,rfl,rfl⟩⟩
    cases e with
    | returned v =>
      refine wkD_weak (.agg (Arr.mk k s n is).row2) _ ?_ C v he
      simp only [wkD]
      exact row2_row1 _
    | panicked _ => exact he.elim
    | outgrown => exact he.elim
termination_by a => SizeOf.sizeOf a
decreasing_by
  have := List.sizeOf_lt_of_mem hb'
  simp; omega
end Go.Proofs.Ytoglbmhkfkghbaa
namespace Go.Proofs.Ytoglbmhkfkghbaa
open Go Go.Ab
def rowV (c:CodD) (bV cV:Nat):List D := [.vs 0 bV c.consts.length cV 4,gsl 2 FnD.row c.funs,gsl 4 KeD.row c.kers,gsl 2 LaD.row c.lanes]
noncomputable section
def bc3vq0 (p0:I4):Int := I4.a p0
def bc3vq1 (p0:I4):Int := I4.b p0
def bc3vq2 (p0:I4):Bool := decide (Z0 ≤ bc3vq1 p0)
def bc3vq3 (p0:Nat):Prop := SM p0∧True
def bc3vq4 (p0:CodD) (p1:Nat) (p2:I4) (p3:Eff):Prop := offQ (effC p0 p1 p2) p3
def bc3vq5 (p0:List UInt8):Prop := eqOf (List UInt8) [] p0
def bc3vq6 (p0:CodD) (p1:Nat) (p2:I4):Bool := Option.isSome (effC p0 p1 p2)
def bc3vq7 (p0:I4) (p1:CodD) (p2:Nat):Prop := decide (Z0 ≤ I4.c p0) = bc3vq6 p1 p2 p0∧True
def bc3vq8:Prop := True∧True
def bc3vq9 (p0:CodD) (p1:Nat) (p2:I4):Prop := false = bc3vq6 p0 p1 p2∧True
def bc3vq10 (p0:List UInt8) (p1:CodD) (p2:Nat) (p3:I4):Prop := [(97:UInt8)] = p0∧bc3vq9 p1 p2 p3
def bc3vq11 (p0:Nat) (p1:CodD) (p2:Nat) (p3:I4):Prop := SM p0∧bc3vq3 p0∧∃ (y:Eff),bc3vq4 p1 p2 p3 y∧(bc3vq5 y.1∧bc3vq10 y.2 p1 p2 p3)∧bc3vq8
def bc3vq12 (p0:Nat) (p1:CodD) (p2:Nat) (p3:I4):Prop := SM p0∧bc3vq3 p0∧∃ (y:Eff),bc3vq4 p1 p2 p3 y∧(bc3vq5 y.1∧[(102:UInt8)] = y.2∧bc3vq9 p1 p2 p3)∧bc3vq8
def bc3vq13 (p0:I4):I4 := I4.mk (bc3vq0 p0) (bc3vq1 p0) (I4.c p0) (I4.d p0)
def bc3vq14 (p0:I4):Option Eff := derivedC (bc3vq13 p0)
def bc3vq15 (p0:Nat) (p1:I4) (p2:Nat) (p3:CodD) (p4:Nat):Prop := SM p0∧inI64 (bc3vq1 p1)∧∀ (y:Eff),offQ (bc3vq14 p1) y→SM p2∧bc3vq3 p2∧∃ (y_1:Eff),bc3vq4 p3 p4 p1 y_1∧(y.1 = y_1.1∧y.2 = y_1.2∧Option.isSome (bc3vq14 p1) = bc3vq6 p3 p4 p1∧True)∧bc3vq8
def bc3vq16 (p0:I4) (p1:CodD):Bool := decide (bc3vq1 p0 ≤ IntKind.wrap IntKind.i64 ((LI (CodD.consts p1)) - Z1))
def bc3vq17 (p0:I4) (p1:CodD):Bool := bif bc3vq2 p0 then bc3vq16 p0 p1 else false
def bc3vq18 (p0:I4) (p1:CodD) (p2:Nat):Prop := (I4.c p0 == Z0) = bc3vq6 p1 p2 p0∧True
def bc3vq19 (p0:List UInt8) (p1:I4) (p2:CodD) (p3:Nat):Prop := [(97:UInt8)] = p0∧bc3vq18 p1 p2 p3
def bc3vq20 (p0:CodD):Int := (LI (CodD.funs p0))
def bc3vq21 (p0:CodD) (p1:Nat):FnD := GF p0 (Int.toNat (↑p1:Int))
def bc3vq22 (p0:I4) (p1:CodD) (p2:Nat):Bool := decide (bc3vq1 p0 ≤ IntKind.wrap IntKind.i64 (FnD.slots (bc3vq21 p1 p2) - Z1))
def bc3vq23 (p0:I4) (p1:CodD) (p2:Nat):Bool := bif bc3vq2 p0 then bc3vq22 p0 p1 p2 else false
def bc3vq24 (p0:List UInt8) (p1:I4) (p2:CodD) (p3:Nat):Prop := bc3vq5 p0∧bc3vq18 p1 p2 p3
def bc3vq25 (p0:List UInt8) (p1:CodD) (p2:Nat) (p3:I4):Prop := bc3vq5 p0∧bc3vq9 p1 p2 p3
def bc3vq26 (p0:I4):Int := if (1000:Int) < bc3vq1 p0 then (1000:Int) else bc3vq1 p0
def bc3vq27 (p0:I4):Int := if bc3vq26 p0 < Z0 then Z0 else bc3vq26 p0
def bc3vq28 (p0:I4):Nat := Int.toNat (bc3vq27 p0)
def bc3vq29 (p0:I4):Bool := bif decide ((2:Int) ≤ bc3vq1 p0) then decide (bc3vq1 p0 ≤ (1000:Int)) else false
def bc3vq30 (p0:I4) (p1:List UInt8):Prop := Lib.repeatL [(97:UInt8)] (bc3vq28 p0) = p1
def bc3vq31 (p0:I4):Bool := decide (Z1 ≤ bc3vq1 p0)
def bc3vq32 (p0:I4):Bool := bif bc3vq31 p0 then decide (bc3vq1 p0 ≤ (55:Int)) else false
def bc3vq33 (p0:I4):Prop := ifB (bc3vq31 p0) (decide (bc3vq1 p0 ≤ (55:Int)) = bc3vq32 p0∧True) (false = bc3vq32 p0∧True)
def bc3vq34 (p0 p1 p2:Nat) (p3:CodD) (p4:Nat) (p5:I4):Prop := SM p0∧SM p1∧SM p1∧SM p2∧bc3vq3 p2∧∃ (y:Eff),bc3vq4 p3 p4 p5 y∧(bc3vq5 y.1∧[(102:UInt8)] = y.2∧bc3vq18 p5 p3 p4)∧bc3vq8
def bc3vq35 (p0 p1:Nat) (p2:CodD) (p3:Nat) (p4:I4):Prop := SM p0∧SM p0∧bc3vq12 p1 p2 p3 p4
def bc3vq36 (p0:I4) (p1:CodD):Bool := decide (bc3vq1 p0 ≤ IntKind.wrap IntKind.i64 (bc3vq20 p1 - Z1))
def bc3vq37 (p0:I4) (p1:CodD):Bool := bif bc3vq31 p0 then bc3vq36 p0 p1 else false
def bc3vq38 (p0:I4) (p1:CodD) (p2:Nat):Bool := decide (bc3vq1 p0 ≤ IntKind.wrap IntKind.i64 ((LI (FnD.code (bc3vq21 p1 p2))) - Z1))
def bc3vq39 (p0:I4) (p1:CodD) (p2:Nat):Bool := bif bc3vq2 p0 then bc3vq38 p0 p1 p2 else false
def bc3vq40 (p0:I4) (p1:CodD):Bool := decide (bc3vq1 p0 ≤ IntKind.wrap IntKind.i64 ((LI (CodD.kers p1)) - Z1))
def bc3vq41 (p0:I4) (p1:CodD):Bool := bif bc3vq2 p0 then bc3vq40 p0 p1 else false
def bc3vq42 (p0:CodD) (p1:I4):Int := KeD.inputs (GK p0 (Int.toNat (bc3vq1 p1)))
def bc3vq43 (p0:CodD) (p1:I4):Int := if (16:Int) < bc3vq42 p0 p1 then (16:Int) else bc3vq42 p0 p1
def bc3vq44 (p0:CodD) (p1:I4):Int := if bc3vq43 p0 p1 < Z0 then Z0 else bc3vq43 p0 p1
def bc3vq45 (p0:CodD) (p1:I4):Nat := Int.toNat (bc3vq44 p0 p1)
def bc3vq46 (p0:CodD) (p1:I4):Bool := decide (Z1 ≤ bc3vq42 p0 p1)
def bc3vq47 (p0:CodD) (p1:I4):Bool := decide (bc3vq42 p0 p1 ≤ (16:Int))
def bc3vq48 (p0:CodD) (p1:I4):Bool := bif bc3vq46 p0 p1 then bc3vq47 p0 p1 else false
def bc3vq49 (p0:CodD) (p1:I4) (p2:List UInt8):Prop := Lib.repeatL [(97:UInt8)] (bc3vq45 p0 p1) = p2
def bc3vq50 (p0:Nat) (p1:I4):Option Eff := plainC ((↑p0:Int) == Z0) (bc3vq13 p1)
def bc3vq51 (p0 p1 p2:Nat) (p3:I4) (p4:CodD) (p5:Nat):Prop := ∀ (x:Nat),p0 ≠ x∧p1 ≠ x∧p2 ≠ x∧True→SM p1∧ifB (bc3vq0 p3 == Z1) (SM p1∧SM p2∧ifB (bc3vq2 p3) (bc3vq16 p3 p4 = bc3vq17 p3 p4∧True) (false = bc3vq17 p3 p4∧True)∧True∧SM x∧SM x∧ifB (bc3vq17 p3 p4) (SM p1∧SM x∧SM x∧SM p0∧bc3vq3 p0∧∃ (y:Eff),bc3vq4 p4 p5 p3 y∧(bc3vq5 y.1∧bc3vq19 y.2 p3 p4 p5)∧bc3vq8) (SM x∧SM x∧bc3vq11 p0 p4 p5 p3)) (ifB (bc3vq0 p3 == (6:Int)) (SM p1∧SM p2∧side (Z0 ≤ (↑p5:Int)∧(↑p5:Int) < bc3vq20 p4) (ifB (bc3vq2 p3) (bc3vq22 p3 p4 p5 = bc3vq23 p3 p4 p5∧True) (false = bc3vq23 p3 p4 p5∧True)∧True∧SM x∧SM x∧ifB (bc3vq23 p3 p4 p5) (SM p1∧SM x∧SM x∧SM p0∧bc3vq3 p0∧∃ (y:Eff),bc3vq4 p4 p5 p3 y∧([(42:UInt8)] = y.1∧bc3vq24 y.2 p3 p4 p5)∧bc3vq8) (SM x∧SM x∧SM p0∧bc3vq3 p0∧∃ (y:Eff),bc3vq4 p4 p5 p3 y∧([(42:UInt8)] = y.1∧bc3vq25 y.2 p4 p5 p3)∧bc3vq8))) (ifB (bc3vq0 p3 == (7:Int)) (SM p1∧SM p1∧(Z0 ≤ bc3vq27 p3∧bc3vq27 p3 ≤ (9223372036854775807:Int)∧N1 * bc3vq28 p3 ≤ (140737488355328:Nat))∧∀ (_y:Unit),True→True∧(SM p1∧SM (ZI (bc3vq1 p3)))∧ifB (decide ((2:Int) ≤ bc3vq1 p3)) (decide (bc3vq1 p3 ≤ (1000:Int)) = bc3vq29 p3∧True) (false = bc3vq29 p3∧True)∧True∧SM x∧SM x∧ifB (bc3vq29 p3) (SM p1∧SM x∧SM x∧SM p0∧bc3vq3 p0∧∃ (y:Eff),bc3vq4 p4 p5 p3 y∧(bc3vq30 p3 y.1∧bc3vq19 y.2 p3 p4 p5)∧bc3vq8) (SM x∧SM x∧SM p0∧bc3vq3 p0∧∃ (y:Eff),bc3vq4 p4 p5 p3 y∧(bc3vq30 p3 y.1∧bc3vq10 y.2 p4 p5 p3)∧bc3vq8)) (ifB (bc3vq0 p3 == (8:Int)) (SM p1∧bc3vq33 p3∧True∧True∧SM x∧SM x∧ifB (bc3vq32 p3) (SM p1∧SM x∧SM x∧SM p0∧bc3vq3 p0∧∃ (y:Eff),bc3vq4 p4 p5 p3 y∧([(97:UInt8)] = y.1∧bc3vq19 y.2 p3 p4 p5)∧bc3vq8) (SM x∧SM x∧SM p0∧bc3vq3 p0∧∃ (y:Eff),bc3vq4 p4 p5 p3 y∧([(97:UInt8)] = y.1∧bc3vq10 y.2 p4 p5 p3)∧bc3vq8)) (ifB (bc3vq0 p3 == (9:Int)) (SM p1∧bc3vq33 p3∧True∧True∧SM x∧SM x∧ifB (bc3vq32 p3) (SM p1∧SM x∧SM x∧SM p0∧bc3vq3 p0∧∃ (y:Eff),bc3vq4 p4 p5 p3 y∧([(97:UInt8),(97:UInt8)] = y.1∧bc3vq19 y.2 p3 p4 p5)∧bc3vq8) (SM x∧SM x∧SM p0∧bc3vq3 p0∧∃ (y:Eff),bc3vq4 p4 p5 p3 y∧([(97:UInt8),(97:UInt8)] = y.1∧bc3vq10 y.2 p4 p5 p3)∧bc3vq8)) (ifB (bc3vq0 p3 == (10:Int)) (SM p1∧bc3vq33 p3∧True∧True∧SM x∧SM x∧ifB (bc3vq32 p3) (bc3vq34 p1 x p0 p4 p5 p3) (bc3vq35 x p0 p4 p5 p3)) (ifB (bc3vq0 p3 == (11:Int)) (SM p1∧SM p2∧ifB (bc3vq31 p3) (bc3vq36 p3 p4 = bc3vq37 p3 p4∧True) (false = bc3vq37 p3 p4∧True)∧True∧SM x∧SM x∧ifB (bc3vq37 p3 p4) (bc3vq34 p1 x p0 p4 p5 p3) (bc3vq35 x p0 p4 p5 p3)) (ifB (bc3vq0 p3 == (24:Int)) (SM p1∧SM p2∧side (Z0 ≤ (↑p5:Int)∧(↑p5:Int) < bc3vq20 p4) (ifB (bc3vq2 p3) (bc3vq38 p3 p4 p5 = bc3vq39 p3 p4 p5∧True) (false = bc3vq39 p3 p4 p5∧True)∧True∧SM x∧SM x∧ifB (bc3vq39 p3 p4 p5) (SM p1∧SM x∧SM x∧SM p0∧bc3vq3 p0∧∃ (y:Eff),bc3vq4 p4 p5 p3 y∧([(97:UInt8)] = y.1∧bc3vq24 y.2 p3 p4 p5)∧bc3vq8) (SM x∧SM x∧SM p0∧bc3vq3 p0∧∃ (y:Eff),bc3vq4 p4 p5 p3 y∧([(97:UInt8)] = y.1∧bc3vq25 y.2 p4 p5 p3)∧bc3vq8))) (ifB (bc3vq0 p3 == (27:Int)) (SM p1∧SM p2∧ifB (bc3vq2 p3) (bc3vq40 p3 p4 = bc3vq41 p3 p4∧True) (false = bc3vq41 p3 p4∧True)∧True∧ifB (bc3vq41 p3 p4) (SM p2∧SM p1∧side (Z0 ≤ bc3vq1 p3∧bc3vq1 p3 < (LI (CodD.kers p4))) ((Z0 ≤ bc3vq44 p4 p3∧bc3vq44 p4 p3 ≤ (9223372036854775807:Int)∧N1 * bc3vq45 p4 p3 ≤ (140737488355328:Nat))∧∀ (_y:Unit),True→True∧ifB (bc3vq46 p4 p3) (bc3vq47 p4 p3 = bc3vq48 p4 p3∧True) (false = bc3vq48 p4 p3∧True)∧True∧SM x∧SM x∧ifB (bc3vq48 p4 p3) (SM p1∧SM x∧SM x∧SM p0∧bc3vq3 p0∧∃ (y:Eff),bc3vq4 p4 p5 p3 y∧(bc3vq49 p4 p3 y.1∧bc3vq19 y.2 p3 p4 p5)∧bc3vq8) (SM x∧SM x∧SM p0∧bc3vq3 p0∧∃ (y:Eff),bc3vq4 p4 p5 p3 y∧(bc3vq49 p4 p3 y.1∧bc3vq10 y.2 p4 p5 p3)∧bc3vq8))) (SM x∧SM x∧SM x∧SM p0∧bc3vq3 p0∧∃ (y:Eff),bc3vq4 p4 p5 p3 y∧(bc3vq5 y.1∧bc3vq25 y.2 p4 p5 p3)∧bc3vq8)) (SM p1∧True∧∀ (y:Eff),offQ (bc3vq50 p5 p3) y→SM p0∧bc3vq3 p0∧∃ (y_1:Eff),bc3vq4 p4 p5 p3 y_1∧(y.1 = y_1.1∧y.2 = y_1.2∧Option.isSome (bc3vq50 p5 p3) = bc3vq6 p4 p5 p3∧True)∧bc3vq8)))))))))
end
set_option maxHeartbeats 4000000 in
theorem of_okV (bV cV:Nat) (c:CodD) (f:Nat) (x:I4) (hf:f < c.funs.length) (hc:c.ok) (hx:x.ok):ACalls Try.prog 63 [.agg (rowV c bV cV),.int .i64 f,.agg x.row] ⟨[],[]⟩ (SpecR (pQ [.agg (rowV c bV cV),.int .i64 f,.agg x.row] (offD (effC c f x)) (offQ (effC c f x)) True) ()) := by
  refine con_of (A := pQ _ _ _ _) (x := ()) (E := Eof) (eOk conE_ok rfl) Try.func63 rfl (by kernel_rfl) rfl (by simp [pQ,Eof,EC,E0]) ?_
  have hm:∀ n:Nat,n ≤ maxLen→IntKind.i64.wrap ((n:Int) - 1) = (n:Int) - 1 := fun n hn => by simp only [maxLen] at hn; exact wrap_i64' (by omega) (by omega)
  obtain ⟨_,h2,h3,_,l1,l2,l3,_⟩ := hc
  have hfo := getD_ok h2 hf
  have w1 := hm _ l1
  have w2 := hm _ l2
  have w3 := hm _ l3
  have w4 := hm _ hfo.2.2
  have hk:∀ i:Nat,i < c.kers.length→inI64 (c.kers.getD i default).inputs := fun i hi => (getD_ok h3 hi).1
  have de:(default:FnD) = ⟨0,[]⟩ := rfl
  have dk:(default:KeD) = ⟨0,[],0,0⟩ := rfl
  have e0:((f:Int) == 0) = decide (f = 0) := by
    by_cases e:f = 0
    · subst e; rfl
    · simp [e]
  have wb:IntKind.i64.wrap x.b = x.b := wrap_i64' hx.2.1.1 hx.2.1.2
  refine vc_eq (T :=
    ∀ (x_1:Nat),True→∀ (x_2:Nat),x_1 ≠ x_2∧True→∀ (x_3:Nat),x_2 ≠ x_3∧x_1 ≠ x_3∧True→SM x_2∧ifB (bc3vq0 x == (5:Int)) (SM x_2∧ifB (bc3vq2 x) (SM x_2∧SM x_3∧bc3vq3 x_3∧∃ (y:Eff),bc3vq4 c f x y∧(bc3vq5 y.1∧[(97:UInt8)] = y.2∧bc3vq7 x c f)∧bc3vq8) (bc3vq11 x_3 c f x)) (ifB (bc3vq0 x == (12:Int)) (SM x_2∧ifB (bc3vq2 x) (SM x_2∧SM x_3∧bc3vq3 x_3∧∃ (y:Eff),bc3vq4 c f x y∧(bc3vq5 y.1∧[(102:UInt8)] = y.2∧bc3vq7 x c f)∧bc3vq8) (bc3vq12 x_3 c f x)) (ifB (bc3vq0 x == (16:Int)) (ifB (bc3vq0 x == (16:Int)) (bc3vq15 x_2 x x_3 c f) (bc3vq51 x_3 x_2 x_1 x c f)) (ifB (bc3vq0 x == (17:Int)) (ifB (bc3vq0 x == (17:Int)) (bc3vq15 x_2 x x_3 c f) (bc3vq51 x_3 x_2 x_1 x c f)) (ifB (bc3vq0 x == (18:Int)) (bc3vq15 x_2 x x_3 c f) (bc3vq51 x_3 x_2 x_1 x c f)))))) (by kernel_rfl) ?_
  delta DF DK GF GK LI LN N1 SM Z0 Z1 ZI bc3vq0 bc3vq1 bc3vq10 bc3vq11 bc3vq12 bc3vq13 bc3vq14 bc3vq15 bc3vq16 bc3vq17 bc3vq18 bc3vq19 bc3vq2 bc3vq20 bc3vq21 bc3vq22 bc3vq23 bc3vq24 bc3vq25 bc3vq26 bc3vq27 bc3vq28 bc3vq29 bc3vq3 bc3vq30 bc3vq31 bc3vq32 bc3vq33 bc3vq34 bc3vq35 bc3vq36 bc3vq37 bc3vq38 bc3vq39 bc3vq4 bc3vq40 bc3vq41 bc3vq42 bc3vq43 bc3vq44 bc3vq45 bc3vq46 bc3vq47 bc3vq48 bc3vq49 bc3vq5 bc3vq50 bc3vq51 bc3vq6 bc3vq7 bc3vq8 bc3vq9
  simp only [← de,← dk,e0,w1,w2,w3,w4,Int.toNat_natCast,ifB_iff,side_iff,decide_eq_true_eq,decide_eq_false_iff_not,true_and,and_true,beq_iff_eq,Bool.cond_false_right,Bool.and_eq_true,Bool.and_eq_false_iff,beq_eq_false_iff_ne,ne_eq]
  repeat' (first
    | refine off_leaf ?_
    | (refine And.intro ?_ ?_)
    | intro _)
  all_goals (try first | exact hx.2.1.1 | exact hx.2.1.2 | exact off_pass (eff_derived c f x (by omega)) (by assumption) | exact off_pass (eff_plain c f x (by simp_all)) (by assumption))
  all_goals (first | (simp_all [effC,effS,between,primB,gu]; done) | grind [effC,effS,between,primB,gu] | skip)
end Go.Proofs.Ytoglbmhkfkghbaa
