/- Functions of the given program and what each of them computes: lemmas towards the statement, their conditions stated with each of them. -/
import Derived.Test.YtfldjfpcefcjdaaGreatDoorW2
import Derived.Test.YtfldjfpcefcjdaaGreatDoorCards
import Derived.Test.YtfldjfpcefcjdaaGreatDoorTie
import Derived.WalkKit
import Derived.ProofKit
import Derived.OpenShut
import Derived.Deep.DeepHandedRow
import Derived.Deep.DeepLaidRun
import Derived.Deep.DeepWitnessRowRef
import Derived.Lib.LaidTab
import Derived.Lib.LaidIn
import Derived.Lib.LaidU8T
import Derived.Lib.LaidCaseMet
import Derived.PinnedBridge
import Derived.Stop.LaidErr
import Derived.Test.YtfldjfpcefcjdaaGreatDoorProg
import Derived.Lib.ItoaNum
import Derived.Lib.TrailingZeros
import Derived.Shelf.Unicode.DecodeSlow
import Derived.Calls
import Derived.Below
import Derived.Laws.Entries
import Derived.Laws.Build
import Derived.Laws.Concat
import Derived.Laws.AppendOwn
import Derived.Laws.IdiomStrings
import Derived.Laws.BytesString
import Derived.Laws.NewFold
import Derived.Laws.MakeOwn
import Derived.Laws.IdiomCopy
import Derived.Laws.Shifts
import Derived.Laws.Strings
import Derived.Laws.Strings2
import Derived.Laws.Strings3
import Derived.Laws.RangeString
import Derived.Laws.Cover4
import Derived.Lib.DecodeN
import Derived.MapKept
import Derived.Laws.StructEq
import Derived.Orders
import Derived.Scope
import Derived.Recover
import Derived.KernelRfl
import Derived.Shelf.Strings.Builder1
import Derived.Shelf.Strings.Builder2
import Derived.Shelf.Strings.OnBuilder
import Derived.Shelf.Small.Utf8
import Derived.Shelf.Unicode.ValidAny
import Derived.Shelf.Strconv.Itoa0
import Derived.Shelf.Strconv.Itoa1
import Derived.Shelf.LaysM
import Derived.Shelf.Strconv.Itoa2
import Derived.Shelf.Strconv.Itoa3
import Derived.Shelf.Strconv.Itoa4
import Derived.Shelf.Strings.Prefix
import Derived.Shelf.Unicode.Latin
import Derived.Shelf.Unicode.Decode
import Derived.Shelf.Unicode.DecodeAny
import Derived.Shelf.Unicode.CaseLookup
import Derived.Shelf.Unicode.CaseConvert
import Derived.Shelf.Unicode.CaseTo
import Derived.Shelf.Unicode.CaseLaid
import Derived.Lib.Builder
import Derived.Lib.UnsafeStr
import Derived.Lib.AppendIntMem
import Derived.Lib.ItoaLen
import Derived.Lib.MapLaws
import Derived.Lib.Join
namespace Go.Proofs.YtfldjfpcefcjdaaGreatDoor
open Go Go.Ab
set_option maxRecDepth 100000
noncomputable def Esp:Senv := { EC con0 26 2 [4,5,10,14,25] (fun id => match id with | 6 => ([0,1,2,3,4,5,6,7,8],[]) | _ => ([],[])) with unr := fun _ => 1 }
theorem shapes0_ok:ACalls Tryz.prog 15 [nilS,nilS] ⟨[],[]⟩ (SpecR (sC [nilS,nilS] (.bool true)) ()) := by
  refine con_of (A := sC _ _) (x := ()) (E := Esp) (eOk con0_ok rfl) Tryz.func15 rfl (by kernel_rfl) rfl (by simp [sC,Esp,EC,E0]) ?_
  refine vc_eq (T :=
    True∧∃ (y:Unit),True∧SM true∧True∧True) (by kernel_rfl) ?_
  delta SM
  simp only [eq_self,and_true,exists_const]
def conSh0:Con := fun k ds _S => match k with
  | 15 => match ds with
    | [.sl 1 0 f m,.sl 1 0 g m'] => some (pC [.sl 1 0 f m,.sl 1 0 g m'] (.bool true) (weakL [.sl 1 0 f m,.sl 1 0 g m'] [nilS,nilS]))
    | _ => none
  | _ => none
theorem conSh0_ok:ConOk Tryz.prog conSh0 := by
  intro k ds S A h
  unfold conSh0 at h
  split at h
  · split at h
    · injection h with h; subst h
      exact pC_ok fun h => ⟨weakL_refl _,sC_weak h shapes0_ok⟩
    · cases h
  · cases h
noncomputable def Esf:Senv := EC conSh0 38 5 [] (fun _ => ([],[]))
noncomputable section
def tr3q0:Prop := SM N0∧(∀ (i:Nat),i < N0→eqOf (List D) [] [])∧True
def tr3q1:Prop := tr3q0∧tr3q0∧True
end
theorem sflt_ok (e a e' a':Int):ACalls Tryz.prog 8 [fltD e a,fltD e' a'] ⟨[],[]⟩ (SpecR (sC [fltD e a,fltD e' a'] (.bool (e == e' && a == a'))) ()) := by
  refine con_of (A := sC _ _) (x := ()) (E := Esf) (eOk conSh0_ok rfl) Tryz.func8 rfl (by kernel_rfl) rfl (by simp [sC,Esf,EC,E0]) ?_
  refine vc_eq (T :=
    ∀ (x:Nat),True→∀ (x_1:Nat),x ≠ x_1∧True→SM x∧SM x_1∧ifB (e == e') (SM x∧SM x_1∧ifB (a == a') (SM x∧SM x_1∧SM x∧SM x_1∧tr3q1∧∀ (y:Unit),True→SM x∧SM x_1∧tr3q1∧∀ (y:Unit),True→True∧∃ (y:Unit),True∧true = (e == e' && a == a')∧True∧True) (True∧∃ (y:Unit),True∧false = (e == e' && a == a')∧True∧True)) (True∧∃ (y:Unit),True∧false = (e == e' && a == a')∧True∧True)) (by kernel_rfl) ?_
  delta N0 SM tr3q0 tr3q1
  simp only [eq_self,ne_eq,implies_true,ifB_iff,true_and,and_true,beq_iff_eq,beq_eq_false_iff_ne,exists_const,forall_const]
  have c:∀ {P Q:Bool},P = false→false = (P && Q) := fun h => by rw [h]; rfl
  refine fun _ _ _ => ⟨fun h => ⟨fun h' => by rw [h,h']; simp,fun h' => ?_⟩,fun h => c (by simpa using h)⟩
  have:(a == a') = false := by simpa using h'
  rw [this,Bool.and_false]
def conLw:Con := fun k ds _S => match k with
  | 5 => match ds with
    | [.str s] => some (pC [.str s] (scanD (scanT s)) (s.length ≤ 140737488355328))
    | _ => none
  | 9 => match ds with
    | [.sl 5 n f m] => some (pC [.sl 5 n f m] (.str (Lib.join ((toksOf n f).map showTok) [32])) (toksB n f = true∧n ≤ 4294967296∧(∀ t ∈ toksOf n f,tokOk t)∧(Lib.join ((toksOf n f).map showTok) [32]).length ≤ 140737488355328))
    | _ => none
  | 7 => match ds with
    | [.sl 5 n f m,.sl 5 n' f' m'] => some (pC [.sl 5 n f m,.sl 5 n' f' m'] (.bool (decide (toksOf n f = toksOf n' f'))) (toksB n f = true∧toksB n' f' = true∧n ≤ 140737488355328∧n' ≤ 140737488355328))
    | _ => none
  | 10 => match ds with
    | [.str s] => some (pC [.str s] (.bool (resB s)) True)
    | _ => none
  | 56 => match ds with
    | [.str s] => some (pC [.str s] (.bool (resB s)) (s.length ≤ maxB))
    | _ => none
  | 57 => match ds with
    | [.str s] => some (pC [.str s] (.bool (plainB s)) (s.length ≤ 140737488355328))
    | _ => none
  | 8 => match ds with
    | [.agg [.int .i64 e,.int .i64 a,.sl 1 0 f1 m1,.sl 1 0 f2 m2,.str []],.agg [.int .i64 e',.int .i64 a',.sl 1 0 f3 m3,.sl 1 0 f4 m4,.str []]] => some (pC [.agg [.int .i64 e,.int .i64 a,.sl 1 0 f1 m1,.sl 1 0 f2 m2,.str []],.agg [.int .i64 e',.int .i64 a',.sl 1 0 f3 m3,.sl 1 0 f4 m4,.str []]] (.bool (e == e' && a == a')) (weakL [.agg [.int .i64 e,.int .i64 a,.sl 1 0 f1 m1,.sl 1 0 f2 m2,.str []],.agg [.int .i64 e',.int .i64 a',.sl 1 0 f3 m3,.sl 1 0 f4 m4,.str []]] [fltD e a,fltD e' a']))
    | _ => none
  | _ => none
theorem tlen (n:Nat) (f:Nat→List D):(toksOf n f).length = n := by simp [toksOf]
theorem conLw_ok:ConOk Tryz.prog conLw := by
  intro k ds S A h
  unfold conLw at h
  split at h
  · split at h
    · injection h with h; subst h
      exact pC_ok fun h => ⟨weakL_refl _,scan_ok _ h⟩
    · cases h
  · split at h
    · injection h with h; subst h
      exact pC_ok fun ⟨h1,h2,h3,h4⟩ => ⟨weakL_refl _,sC_weak (us := [tsl (toksOf _ _) .any]) ⟨tsl_weak h1,trivial⟩ (tshow_ok _ (by rw [tlen]; exact h2) h3 h4)⟩
    · cases h
  · split at h
    · injection h with h; subst h
      exact pC_ok fun ⟨h1,h2,h3,h4⟩ => ⟨weakL_refl _,sC_weak (us := [tsl (toksOf _ _) .any,tsl (toksOf _ _) .any]) ⟨tsl_weak h1,tsl_weak h2,trivial⟩ (same_ok _ _ (by rw [tlen]; exact h3) (by rw [tlen]; exact h4))⟩
    · cases h
  · split at h
    · injection h with h; subst h
      exact pC_ok fun _ => ⟨weakL_refl _,res_ok _⟩
    · cases h
  · split at h
    · injection h with h; subst h
      exact pC_ok fun h => ⟨weakL_refl _,rres_ok _ h⟩
    · cases h
  · split at h
    · injection h with h; subst h
      exact pC_ok fun h => ⟨weakL_refl _,plain_ok _ h⟩
    · cases h
  · split at h
    · injection h with h; subst h
      exact pC_ok fun h => ⟨weakL_refl _,sC_weak h (sflt_ok _ _ _ _)⟩
    · cases h
  · cases h
end Go.Proofs.YtfldjfpcefcjdaaGreatDoor
namespace Go.Proofs.YtfldjfpcefcjdaaGreatDoor
open Go Go.Ab
set_option maxRecDepth 100000
noncomputable def Eex:Senv := EC conLw 66 10 [] (fun _ => ([],[]))
noncomputable section
def tr4q0:List Tok := scL (scanT [(120:UInt8),(32:UInt8),(60:UInt8),(45:UInt8),(32:UInt8),(95:UInt8),(49:UInt8),(50:UInt8)])
def tr4q1:Nat := LN tr4q0
def tr4q2 (p0:Nat):Tok := List.getD tr4q0 p0 (Tok.mk Z0 Z0 Z0 Z0 [])
def tr4q3 (p0:Nat):List D := List.getD [[ZI (3:Int),ZI Z0,ZI Z0,ZI Z0,D.str [(34:UInt8),(7:UInt8)]]] p0 []
end
theorem example_ok:ACalls Tryz.prog 4 [] ⟨[],[]⟩ (SpecR (sC [] (.bool true)) ()) := by
  refine con_of (A := sC _ _) (x := ()) (E := Eex) (eOk conLw_ok rfl) Tryz.func4 rfl (by kernel_rfl) rfl (by simp [sC,Eex,EC,E0]) ?_
  refine vc_eq (T :=
    (8:Nat) ≤ (140737488355328:Nat)∧∀ (y:Unit),True→∀ (x:Nat),True→SM x∧N4 ≤ (140737488355328:Nat)∧∀ (y:Unit),True→∀ (x_1:Nat),x ≠ x_1∧True→SM x_1∧(3:Nat) ≤ (140737488355328:Nat)∧∀ (y:Unit),True→∀ (x_2:Nat),x_1 ≠ x_2∧x ≠ x_2∧True→SM x_2∧N2 ≤ (140737488355328:Nat)∧∀ (y:Unit),True→∀ (x_3:Nat),x_2 ≠ x_3∧x_1 ≠ x_3∧x ≠ x_3∧True→SM x_3∧SM x∧((toksB tr4q1 fun (i:Nat) => [ZI (Tok.kind (tr4q2 i)),ZI (Tok.at_ (tr4q2 i)),ZI (Tok.len (tr4q2 i)),ZI (Tok.num (tr4q2 i)),D.str (Tok.text (tr4q2 i))]) = true∧(toksB (3:Nat) fun (i:Nat) => List.getD [[ZI (4:Int),ZI Z0,ZI Z1,ZI Z0,D.str [(120:UInt8)]],[ZI (5:Int),ZI (2:Int),ZI (2:Int),ZI Z0,D.str [(60:UInt8),(45:UInt8)]],[ZI Z1,ZI (5:Int),ZI (3:Int),ZI (-12:Int),D.str []]] i []) = true∧tr4q1 ≤ (140737488355328:Nat)∧(3:Nat) ≤ (140737488355328:Nat))∧∀ (y:Unit),True→SM x_1∧SM x_2∧SM x_3∧((toksB N1 fun (i:Nat) => tr4q3 i) = true∧N1 ≤ (4294967296:Nat)∧(∀ (t:Tok),(t ∈ toksOf N1 fun (i:Nat) => tr4q3 i)→tokOk t)∧LN (Lib.join [showTok (Tok.mk (3:Int) Z0 Z0 Z0 [(34:UInt8),(7:UInt8)])] [(32:UInt8)]) ≤ (140737488355328:Nat))∧∀ (y:Unit),True→True∧∀ (y:Unit),True→True∧∀ (y:Unit),True→True∧∃ (y:Unit),True∧(!resB [(115:UInt8),(101:UInt8),(108:UInt8),(102:UInt8),(115:UInt8)]) = true∧True∧True) (by kernel_rfl) ?_
  delta LN N1 N2 N4 SM Z0 Z1 ZI tr4q0 tr4q1 tr4q2 tr4q3
  simp only [eq_self,ne_eq,true_and,and_true,exists_const,forall_const]
  have h1:(scL (scanT [120,32,60,45,32,95,49,50])).length ≤ 140737488355328 := by decide +kernel
  have h2:(Lib.join [showTok { kind := 3,at_ := 0,len := 0,num := 0,text := [34,7] }] [32]).length ≤ 140737488355328 := by decide +kernel
  refine ⟨by omega,fun _ => ⟨by omega,fun _ _ => ⟨by omega,fun _ _ => ⟨by omega,fun _ _ => ⟨⟨?_,rfl,h1,by omega⟩,⟨rfl,by omega,?_,h2⟩,by decide +kernel⟩⟩⟩⟩⟩
  · exact toksB_eq rfl fun _ _ => rfl
  · intro t ht
    have ht:t ∈ [({ kind := 3,at_ := 0,len := 0,num := 0,text := [34,7] }:Tok)] := ht
    rw [List.mem_singleton] at ht
    subst ht
    exact ⟨⟨by decide,by decide⟩,by simp only [List.length_cons,List.length_nil]; omega⟩
end Go.Proofs.YtfldjfpcefcjdaaGreatDoor
namespace Go.Proofs.YtfldjfpcefcjdaaGreatDoor
open Go Go.Ab
set_option maxRecDepth 100000
def conLx:Con := fun k ds S => match k with
  | 4 => match ds with
    | [] => some (sC [] (.bool true))
    | _ => none
  | k => conLw k ds S
theorem conLx_ok:ConOk Tryz.prog conLx := by
  intro k ds S A h
  unfold conLx at h
  split at h
  · split at h
    · injection h with h; subst h
      exact ConOk.plain (fun _ _ => example_ok) rfl rfl
    · cases h
  · exact conLw_ok _ _ _ _ h
end Go.Proofs.YtfldjfpcefcjdaaGreatDoor
namespace Go.Proofs.YtfldjfpcefcjdaaGreatDoor
open Go Go.Ab
set_option maxRecDepth 100000
noncomputable def Erd0:Senv := EC con0 9 1 [2] (fun _ => ([],[]))
noncomputable def Ela0:Senv := EC con0 13 1 [2] (fun _ => ([],[]))
noncomputable section
def te0q0 (p0:Int):Bool := bif decide ((48:Int) ≤ p0) then decide (p0 ≤ (57:Int)) else false
end
theorem rdig_ok (z:Int) (h:0 ≤ z∧z < 256):ACalls Tryz.prog 32 [.int .u8 z] ⟨[],[]⟩ (SpecR (sC [.int .u8 z] (.bool (dig (UInt8.ofNat z.toNat)))) ()) := by
  refine con_of (A := sC _ _) (x := ()) (E := Erd0) (eOk con0_ok rfl) Tryz.func32 rfl (by kernel_rfl) rfl (by simp [sC,Erd0,EC,E0]) ?_
  refine vc_eq (T :=
    ifB (decide ((48:Int) ≤ z)) (decide (z ≤ (57:Int)) = te0q0 z∧True) (false = te0q0 z∧True)∧True∧∃ (y:Unit),True∧te0q0 z = dig (UInt8.ofNat (Int.toNat z))∧True∧True) (by kernel_rfl) ?_
  delta te0q0
  simp only [ifB_iff,decide_eq_true_eq,decide_eq_false_iff_not,true_and,and_true,exists_const]
  have hb:((UInt8.ofNat z.toNat).toNat:Int) = z := by rw [byteN _ (by omega)]; omega
  have hq := dig_iff (UInt8.ofNat z.toNat)
  rw [hb] at hq
  simp only [Bool.cond_false_right]
  refine ⟨⟨fun h => dec_and1 h,fun h => dec_and0 h⟩,?_⟩
  rw [Bool.eq_iff_iff,Bool.and_eq_true,decide_eq_true_eq,decide_eq_true_eq,hq]
noncomputable section
def te0q1 (p0:Int):Bool := bif decide ((97:Int) ≤ p0) then decide (p0 ≤ (122:Int)) else false
def te0q2 (p0:Int):Bool := alp (UInt8.ofNat (Int.toNat p0))
end
theorem rlet_ok (z:Int) (h:0 ≤ z∧z < 256):ACalls Tryz.prog 34 [.int .u8 z] ⟨[],[]⟩ (SpecR (sC [.int .u8 z] (.bool (alp (UInt8.ofNat z.toNat)))) ()) := by
  refine con_of (A := sC _ _) (x := ()) (E := Ela0) (eOk con0_ok rfl) Tryz.func34 rfl (by kernel_rfl) rfl (by simp [sC,Ela0,EC,E0]) ?_
  refine vc_eq (T :=
    ifB (decide ((97:Int) ≤ z)) (decide (z ≤ (122:Int)) = te0q1 z∧True) (false = te0q1 z∧True)∧True∧ifB (te0q1 z) (True∧∃ (y:Unit),True∧true = te0q2 z∧True∧True) (ifB (decide ((65:Int) ≤ z)) (True∧∃ (y:Unit),True∧decide (z ≤ (90:Int)) = te0q2 z∧True∧True) (True∧∃ (y:Unit),True∧false = te0q2 z∧True∧True))) (by kernel_rfl) ?_
  delta te0q1 te0q2
  simp only [ifB_iff,decide_eq_true_eq,decide_eq_false_iff_not,true_and,and_true,exists_const]
  have hb:((UInt8.ofNat z.toNat).toNat:Int) = z := by rw [byteN _ (by omega)]; omega
  have hq := alp_iff (UInt8.ofNat z.toNat)
  rw [hb] at hq
  simp only [Bool.cond_false_right,Bool.and_eq_true,Bool.and_eq_false_iff,decide_eq_true_eq,decide_eq_false_iff_not]
  refine ⟨⟨fun h => dec_and1 h,fun h => dec_and0 h⟩,fun h => (hq.2 (.inl h)).symm,fun h => ⟨fun h1 => ?_,fun h1 => ?_⟩⟩
  · rw [Bool.eq_iff_iff,decide_eq_true_eq,hq]; omega
  · cases ha:alp (UInt8.ofNat z.toNat) with
    | false => rfl
    | true => have := hq.1 ha; omega
def conLt:Con := fun k ds S => match k with
  | 32 => match ds with
    | [.int .u8 z] => some (pC [.int .u8 z] (.bool (dig (UInt8.ofNat z.toNat))) (0 ≤ z∧z < 256))
    | _ => none
  | 34 => match ds with
    | [.int .u8 z] => some (pC [.int .u8 z] (.bool (alp (UInt8.ofNat z.toNat))) (0 ≤ z∧z < 256))
    | _ => none
  | 54 => match ds with
    | [.str t,.str s] => some (pC [.str t,.str s] (.bool (amongT t s)) (t.length ≤ maxB∧s.length ≤ maxB))
    | _ => none
  | k => conLw k ds S
theorem conLt_ok:ConOk Tryz.prog conLt := by
  intro k ds S A h
  unfold conLt at h
  split at h
  · split at h
    · injection h with h; subst h
      exact pC_ok fun h => ⟨weakL_refl _,rdig_ok _ h⟩
    · cases h
  · split at h
    · injection h with h; subst h
      exact pC_ok fun h => ⟨weakL_refl _,rlet_ok _ h⟩
    · cases h
  · split at h
    · injection h with h; subst h
      exact pC_ok fun ⟨h1,h2⟩ => ⟨weakL_refl _,am_ok _ _ h1 h2⟩
    · cases h
  · exact conLw_ok _ _ _ _ h
def lxI (i:Nat):Lex→Int | .error _ => 0 | .ok _ => (i:Int)
def lxH (i:Nat) (r:Lex):D := .agg [.int .i64 (lxK r),.int .i64 (lxI i r),.int .i64 (lxL r),.int .i64 (lxN r),.str (lxT r)]
def refD (i:Nat) (r:Lex):D := .tup [lxH i r,.int .i64 (lxE r)]
end Go.Proofs.YtfldjfpcefcjdaaGreatDoor
namespace Go.Proofs.YtfldjfpcefcjdaaGreatDoor
open Go Go.Ab
set_option maxRecDepth 100000
structure NumI (s:List UInt8) (a y:Nat) (n:Nat) (f:Bool):Prop where
  lo:a ≤ y
  hi:y ≤ s.length
  run:runT dig s y = runT dig s a
  val:valS ((s.drop a).take (y - a)) 0 = if f = true then some n else none
  mx:n ≤ maxNum
def errP (i:Nat) (T:Lex):Prop := (0 = lxK T∧0 = lxI i T∧0 = lxL T∧0 = lxN T∧eqOf (List UInt8) [] (lxT T))∧4 = lxE T
theorem errP_iff (i:Nat) (T:Lex):((0 = lxK T∧0 = lxI i T∧0 = lxL T∧0 = lxN T∧eqOf (List UInt8) [] (lxT T))∧4 = lxE T)↔errP i T := Iff.rfl
def okP (i:Nat) (L N:Int) (T:Lex):Prop := (1 = lxK T∧(i:Int) = lxI i T∧L = lxL T∧N = lxN T∧eqOf (List UInt8) [] (lxT T))∧0 = lxE T
theorem okP_iff (i:Nat) (L N:Int) (T:Lex):((1 = lxK T∧(i:Int) = lxI i T∧L = lxL T∧N = lxN T∧eqOf (List UInt8) [] (lxT T))∧0 = lxE T)↔okP i L N T := Iff.rfl
theorem errP_of {i:Nat} {T:Lex} (h:T = .error (4,0)):errP i T := by subst h; exact ⟨⟨rfl,rfl,rfl,rfl,rfl⟩,rfl⟩
theorem okP_of {i len:Nat} {num L N:Int} {T:Lex} (h:T = .ok (1,len,num,[])) (hL:L = (len:Int)) (hN:N = num):okP i L N T := by subst h hL hN; exact ⟨⟨rfl,rfl,rfl,rfl,rfl⟩,rfl⟩
theorem num_end {s : List UInt8} {i : Nat} (hi : i < s.length) (u : Bool) (hu : u = (s.getD i 0 == 95)) {y n : Nat} {f : Bool} (h : NumI s (i + uL u) y n f) (he : y < s.length → dig (s.getD y 0) = false) :
    (y = i + uL u→numT (s.drop i) = .error (4,0))∧(f = false→numT (s.drop i) = .error (4,0))∧(alp (s.getD y 0) = true→numT (s.drop i) = .error (4,0))∧(s.getD y 0 = 95→numT (s.drop i) = .error (4,0)) ∧
    (y ≠ i + uL u→f = true→alp (s.getD y 0) = false→s.getD y 0 ≠ 95→numT (s.drop i) = .ok (1,y - i,if u = true then -(n:Int) else n,[])) := by
  obtain ⟨h1,h2,h3,h4,h5⟩ := h
  have hR:runT dig s (i + uL u) = y := by
    rw [← h3]
    by_cases hy:y < s.length
    · exact runT_no hy (by rw [he hy]; decide)
    · exact runT_end hy
  obtain ⟨n1,_⟩ := num_parts hi u hu
  have hds:(s.drop (i + uL u)).takeWhile dig = (s.drop (i + uL u)).take (y - (i + uL u)) := by
    rw [← take_run,hR,List.drop_take]
  have hlen:((s.drop (i + uL u)).takeWhile dig).length = y - (i + uL u) := by
    have:runT dig s (i + uL u) = i + uL u + ((s.drop (i + uL u)).takeWhile dig).length := rfl
    omega
  rw [← hds] at h4
  rw [hR] at n1
  rw [n1]
  have hu1:uL u ≤ 1 := by cases u <;> decide
  refine ⟨fun e => ?_,fun e => ?_,fun e => ?_,fun e => ?_,fun e1 e2 e3 e4 => ?_⟩
  · rw [if_pos (.inl (List.length_eq_zero_iff.1 (by omega)))]
  · rw [h4,e]
    split <;> rfl
  · rw [if_pos (.inr (by rw [e]; rfl))]
  · rw [if_pos (.inr (by rw [e]; simp))]
  · rw [if_neg (by
      rintro (q | q)
      · rw [q,List.length_nil] at hlen; omega
      · rw [e3,Bool.false_or,beq_iff_eq] at q; exact e4 q),h4,e2,if_pos rfl]
    have:uL u + ((s.drop (i + uL u)).takeWhile dig).length = y - i := by omega
    simp only [this]
theorem num_step {s : List UInt8} {a y n : Nat} {f : Bool} (h : NumI s a y n f) (hy : y < s.length) (hd : dig (s.getD y 0) = true) :
    NumI s a (y + 1) (if f = true∧n ≤ (maxNum - ((s.getD y 0).toNat - 48)) / 10 then 10 * n + ((s.getD y 0).toNat - 48) else n) (f && decide (n ≤ (maxNum - ((s.getD y 0).toNat - 48)) / 10)) := by
  obtain ⟨h1,h2,h3,h4,h5⟩ := h
  have hb := (dig_iff _).1 hd
  have mx:maxNum = 4611686018427387903 := rfl
  have ht:(s.drop a).take (y + 1 - a) = (s.drop a).take (y - a) ++ [s.getD y 0] := by
    rw [show y + 1 - a = (y - a) + 1 by omega,List.take_add_one,List.getElem?_drop,show a + (y - a) = y by omega,List.getElem?_eq_getElem hy,List.getD_eq_getElem?_getD,List.getElem?_eq_getElem hy]; rfl
  refine ⟨by omega,by omega,by rw [runT_yes hy hd,h3],?_,?_⟩
  · rw [ht,valS_app,h4]
    cases f with
    | false => rfl
    | true =>
      simp only [if_true,true_and,Bool.true_and]
      simp only [valS,decide_eq_true_eq,Option.bind_some]
      by_cases hc:n ≤ (maxNum - ((s.getD y 0).toNat - 48)) / 10
      · rw [if_pos hc,if_pos hc,if_pos hc]
      · rw [if_neg hc,if_neg hc]
  · split
    · rename_i hc
      omega
    · exact h5
noncomputable def Ern (s:List UInt8) (a:Nat):Senv := { EC conLt 86 2 [4,5,6,7,8,9,10,15,28,42,73,77] (fun _ => ([],[])) with
  ann := fun b _ S => match b with
    | 0 => some { slots := [7,8,9],keep := [0,1,4,6],α := Nat × Nat × Bool,st := fun y => ([.int .i64 y.1,.int .i64 y.2.1,.bool y.2.2],S),inv := fun y => NumI s a y.1 y.2.1 y.2.2,mu := fun y => s.length - y.1 }
    | _ => none }
noncomputable section
def te1q0 (p0:List UInt8) (p1:Nat):Int := (BI p0 (Int.toNat (↑p1:Int)))
def te1q1 (p0:List UInt8) (p1:Nat):Bool := te1q0 p0 p1 == (95:Int)
def te1q2 (p0:List UInt8) (p1:Nat) (p2:Bool) (p3 p4:Nat) (p5:Bool):Prop := NumI p0 (p1 + uL p2) p3 p4 p5
def te1q3 (p0:Nat):Int := IntKind.wrap IntKind.i64 ((↑p0:Int) + Z1)
def te1q4 (p0 p1:Nat):Prop := te1q3 p0 = (↑p1:Int)
def te1q5 (p0:Nat):Prop := (SM p0∧(SM Z0∧SM Z0∧SM Z0∧SM Z0∧eqOf (List UInt8) [] []∧True)∧True)∧True
def te1q6 (p0:Nat) (p1:List UInt8):Bool := decide ((↑p0:Int) < (LI p1))
def te1q7 (p0:List UInt8) (p1:Nat):Prop := Z0 ≤ te1q0 p0 p1∧te1q0 p0 p1 < (256:Int)
def te1q8 (p0:List UInt8) (p1:Nat):Bool := dig (UInt8.ofNat (Int.toNat (te1q0 p0 p1)))
def te1q9 (p0:List UInt8) (p1:Nat):Int := IntKind.wrap IntKind.i64 (IntKind.wrap IntKind.u8 (te1q0 p0 p1 - (48:Int)))
def te1q10 (p0:Nat) (p1:List UInt8) (p2:Nat):Bool := decide ((↑p0:Int) ≤ IntKind.wrap IntKind.i64 (Int.tdiv (IntKind.wrap IntKind.i64 ((4611686018427387903:Int) - te1q9 p1 p2)) (10:Int)))
def te1q11 (p0:Bool) (p1:Nat) (p2:List UInt8) (p3:Nat):Bool := bif p0 then te1q10 p1 p2 p3 else false
def te1q12 (p0:Bool) (p1:Nat) (p2:List UInt8) (p3:Nat):Prop := ifB p0 (te1q10 p1 p2 p3 = te1q11 p0 p1 p2 p3∧True) (false = te1q11 p0 p1 p2 p3∧True)
def te1q13 (p0:Nat):Prop := SM (ZI (↑p0:Int))
def te1q14 (p0:List UInt8) (p1 p2:Nat):Prop := SM (D.str p0)∧te1q13 p1∧SM (D.ref N0 p2 N0)∧SM (ZI (te1q3 p1))∧True
def te1q15 (p0:Bool) (p1:Nat) (p2:List UInt8) (p3:Nat) (p4:Bool):Prop := te1q11 p0 p1 p2 p3 = p4∧True
def te1q16 (p0:List UInt8) (p1:Nat) (p2:Bool) (p3 p4:Nat) (p5:Bool) (p6:Nat):Prop := ∃ (y:Nat × Nat × Bool),te1q2 p0 p1 p2 y.1 y.2.1 y.2.2∧LN p0 - y.1 < LN p0 - p3∧(te1q4 p3 y.1∧IntKind.wrap IntKind.i64 (IntKind.wrap IntKind.i64 ((10:Int) * (↑p4:Int)) + te1q9 p0 p3) = (NI y.2.1)∧te1q15 p5 p4 p0 p3 y.2.2)∧te1q5 p6
def te1q17 (p0:List UInt8) (p1:Nat) (p2:Bool) (p3 p4:Nat) (p5:Bool) (p6:Nat):Prop := ∃ (y:Nat × Nat × Bool),te1q2 p0 p1 p2 y.1 y.2.1 y.2.2∧LN p0 - y.1 < LN p0 - p3∧(te1q4 p3 y.1∧(↑p4:Int) = (NI y.2.1)∧te1q15 p5 p4 p0 p3 y.2.2)∧te1q5 p6
def te1q18 (p0:Nat) (p1:List UInt8):Lex := numT (List.drop p0 p1)
def te1q19 (p0:Nat) (p1:List UInt8):Int := lxK (te1q18 p0 p1)
def te1q20 (p0:Nat) (p1:List UInt8):Int := lxI p0 (te1q18 p0 p1)
def te1q21 (p0:Nat) (p1:List UInt8):Int := lxL (te1q18 p0 p1)
def te1q22 (p0:Nat) (p1:List UInt8):Int := lxN (te1q18 p0 p1)
def te1q23 (p0:Nat) (p1:List UInt8):Prop := eqOf (List UInt8) [] (lxT (te1q18 p0 p1))∧True
def te1q24 (p0:Nat) (p1:List UInt8):Int := lxE (te1q18 p0 p1)
def te1q25 (p0 p1:Nat) (p2:List UInt8):Prop := SM p0∧(SM p0∧True)∧∃ (_y:Unit),True∧((Z0 = te1q19 p1 p2∧Z0 = te1q20 p1 p2∧Z0 = te1q21 p1 p2∧Z0 = te1q22 p1 p2∧te1q23 p1 p2)∧(4:Int) = te1q24 p1 p2∧True)∧True∧True
def te1q26 (p0:List UInt8) (p1:Nat):Bool := alp (UInt8.ofNat (Int.toNat (te1q0 p0 p1)))
def te1q27 (p0:Nat) (p1:List UInt8):Prop := Z1 = te1q19 p0 p1
def te1q28 (p0:Nat) (p1:List UInt8):Prop := (↑p0:Int) = te1q20 p0 p1
def te1q29 (p0 p1:Nat) (p2:List UInt8):Prop := IntKind.wrap IntKind.i64 ((↑p0:Int) - (↑p1:Int)) = te1q21 p1 p2
def te1q30 (p0:Nat) (p1:List UInt8):Prop := Z0 = te1q24 p0 p1∧True
def te1q31 (p0 p1:Nat) (p2:List UInt8) (p3 p4:Nat):Prop := SM p0∧(SM p0∧True)∧∃ (_y:Unit),True∧((te1q27 p1 p2∧te1q28 p1 p2∧te1q29 p3 p1 p2∧IntKind.wrap IntKind.i64 (Z0 - (↑p4:Int)) = te1q22 p1 p2∧te1q23 p1 p2)∧te1q30 p1 p2)∧True∧True
def te1q32 (p0 p1:Nat) (p2:List UInt8) (p3 p4:Nat):Prop := SM p0∧(SM p0∧True)∧∃ (_y:Unit),True∧((te1q27 p1 p2∧te1q28 p1 p2∧te1q29 p3 p1 p2∧(↑p4:Int) = te1q22 p1 p2∧te1q23 p1 p2)∧te1q30 p1 p2)∧True∧True
def te1q33 (p0 p1:Nat) (p2:List UInt8) (p3 p4:Nat):Prop := ifB (decide ((↑p0:Int) < te1q3 p0)) (te1q31 p1 p0 p2 p3 p4) (te1q32 p1 p0 p2 p3 p4)
def te1q34 (p0 p1 p2:Nat) (p3:List UInt8) (p4:Bool) (p5:Nat):Prop := ifB ((↑p0:Int) == te1q3 p1) (te1q25 p2 p1 p3) (ifB (!p4) (te1q25 p2 p1 p3) (ifB (te1q6 p0 p3) (side (Z0 ≤ (↑p0:Int)∧(↑p0:Int) < (LI p3)) (te1q7 p3 p0∧∀ (_y:Unit),True→ifB (te1q26 p3 p0) (te1q25 p2 p1 p3) (side (Z0 ≤ (↑p0:Int)∧(↑p0:Int) < (LI p3)) (ifB (te1q1 p3 p0) (te1q25 p2 p1 p3) (te1q33 p1 p2 p3 p0 p5))))) (te1q33 p1 p2 p3 p0 p5)))
def te1q35 (p0:List UInt8) (p1 p2:Nat):Prop := SM (D.str p0)∧te1q13 p1∧SM (D.ref N0 p2 N0)∧te1q13 p1∧True
def te1q36 (p0 p1:Nat) (p2:List UInt8) (p3 p4:Nat):Prop := ifB (decide ((↑p0:Int) < (↑p0:Int))) (te1q31 p1 p0 p2 p3 p4) (te1q32 p1 p0 p2 p3 p4)
def te1q37 (p0 p1 p2:Nat) (p3:List UInt8) (p4:Bool) (p5:Nat):Prop := ifB ((↑p0:Int) == (↑p1:Int)) (te1q25 p2 p1 p3) (ifB (!p4) (te1q25 p2 p1 p3) (ifB (te1q6 p0 p3) (side (Z0 ≤ (↑p0:Int)∧(↑p0:Int) < (LI p3)) (te1q7 p3 p0∧∀ (_y:Unit),True→ifB (te1q26 p3 p0) (te1q25 p2 p1 p3) (side (Z0 ≤ (↑p0:Int)∧(↑p0:Int) < (LI p3)) (ifB (te1q1 p3 p0) (te1q25 p2 p1 p3) (te1q36 p1 p2 p3 p0 p5))))) (te1q36 p1 p2 p3 p0 p5)))
end
theorem rnum_ok (s:List UInt8) (i:Nat) (u:Bool) (hi:i < s.length) (hu:u = (s.getD i 0 == 95)) (hs:s.length ≤ 4294967296):ACalls Tryz.prog 33 [.str s,.int .i64 (i:Int)] ⟨[],[]⟩ (SpecR (sC [.str s,.int .i64 (i:Int)] (refD i (numT (s.drop i)))) ()) := by
  refine con_of (A := sC _ _) (x := ()) (E := Ern s (i + uL u)) (eOk conLt_ok rfl) Tryz.func33 rfl (by kernel_rfl) rfl (by simp [sC,Ern,EC,E0]) ?_
  refine vc_eq (T :=
    ∀ (x:Nat),True→side (Z0 ≤ (↑i:Int)∧(↑i:Int) < (LI s)) (ifB (te1q1 s i) ((∃ (x_1:Nat × Nat × Bool),te1q2 s i u x_1.1 x_1.2.1 x_1.2.2∧(te1q4 i x_1.1∧Z0 = (NI x_1.2.1)∧true = x_1.2.2∧True)∧te1q5 x)∧∀ (x_1:Nat × Nat × Bool),te1q2 s i u x_1.1 x_1.2.1 x_1.2.2→ifB (te1q6 x_1.1 s) (side (Z0 ≤ (NI x_1.1)∧(NI x_1.1) < (LI s)) (te1q7 s x_1.1∧∀ (y:Unit),True→ifB (te1q8 s x_1.1) (side (Z0 ≤ (NI x_1.1)∧(NI x_1.1) < (LI s)) (te1q12 x_1.2.2 x_1.2.1 s x_1.1∧ifB (te1q11 x_1.2.2 x_1.2.1 s x_1.1) (te1q14 s i x∧te1q16 s i u x_1.1 x_1.2.1 x_1.2.2 x) (te1q14 s i x∧te1q17 s i u x_1.1 x_1.2.1 x_1.2.2 x))) (te1q34 x_1.1 i x s x_1.2.2 x_1.2.1))) (te1q34 x_1.1 i x s x_1.2.2 x_1.2.1)) ((∃ (x_1:Nat × Nat × Bool),te1q2 s i u x_1.1 x_1.2.1 x_1.2.2∧((↑i:Int) = (NI x_1.1)∧Z0 = (NI x_1.2.1)∧true = x_1.2.2∧True)∧te1q5 x)∧∀ (x_1:Nat × Nat × Bool),te1q2 s i u x_1.1 x_1.2.1 x_1.2.2→ifB (te1q6 x_1.1 s) (side (Z0 ≤ (NI x_1.1)∧(NI x_1.1) < (LI s)) (te1q7 s x_1.1∧∀ (y:Unit),True→ifB (te1q8 s x_1.1) (side (Z0 ≤ (NI x_1.1)∧(NI x_1.1) < (LI s)) (te1q12 x_1.2.2 x_1.2.1 s x_1.1∧ifB (te1q11 x_1.2.2 x_1.2.1 s x_1.1) (te1q35 s i x∧te1q16 s i u x_1.1 x_1.2.1 x_1.2.2 x) (te1q35 s i x∧te1q17 s i u x_1.1 x_1.2.1 x_1.2.2 x))) (te1q37 x_1.1 i x s x_1.2.2 x_1.2.1))) (te1q37 x_1.1 i x s x_1.2.2 x_1.2.1)))) (by kernel_rfl) ?_
  delta BI LI LN N0 NI SM U0 Z0 Z1 ZI te1q0 te1q1 te1q10 te1q11 te1q12 te1q13 te1q14 te1q15 te1q16 te1q17 te1q18 te1q19 te1q2 te1q20 te1q21 te1q22 te1q23 te1q24 te1q25 te1q26 te1q27 te1q28 te1q29 te1q3 te1q30 te1q31 te1q32 te1q33 te1q34 te1q35 te1q36 te1q37 te1q4 te1q5 te1q6 te1q7 te1q8 te1q9
  simp only [eq_self,ne_eq,Int.toNat_natCast,ifB_iff,side_iff,decide_eq_true_eq,decide_eq_false_iff_not,true_and,and_true,beq_iff_eq,Bool.cond_false_right,Bool.and_eq_true,Bool.and_eq_false_iff,beq_eq_false_iff_ne,exists_const,forall_const]
  have k95:∀ b:UInt8,(b.toNat:Int) = 95↔b = 95 := fun b => ⟨fun h => b_eq (n := 95) h (by decide),fun h => by rw [h]; rfl⟩
  have hob:∀ b:UInt8,UInt8.ofNat b.toNat = b := fun b => by simp
  simp only [errP_iff,okP_iff,k95,hob]
  refine ⟨by omega,fun h95 => ?_,fun n95 => ?_⟩
  · have hut:u = true := by rw [hu,h95]; rfl
    subst hut
    have w1:IntKind.i64.wrap ((i:Int) + 1) = ((i + 1:Nat):Int) := by rw [wrap_i64' (by omega) (by omega)]; rfl
    rw [w1]
    have hul:uL true = 1 := rfl
    rw [hul]
    refine ⟨⟨(i + 1,0,true),⟨by simp only; omega,by simp only; omega,by simp only [],by simp only [Nat.sub_self,List.take_zero]; rfl,Nat.zero_le _⟩,rfl,rfl,rfl⟩,?_⟩
    rintro ⟨y,n,f⟩ hI
    simp only at hI ⊢
    have hE := num_end hi true hu (y := y) (n := n) (f := f) hI
    rw [hul] at hE
    have hS := num_step (y := y) (n := n) (f := f) hI
    have hyl := hI.hi
    have hyo := hI.lo
    have hmx := hI.mx
    have hlt8 := (s.getD y 0).toNat_lt
    refine ⟨fun hy => ⟨by omega,by omega,fun hd => ⟨by omega,?_⟩,fun hd => ?_⟩,fun hy => ?_⟩
    · have hS := hS (by omega) hd
      have hb := (dig_iff _).1 hd
      generalize hdv:(s.getD y 0).toNat - 48 = d at *
      have hd9:d ≤ 9 := by omega
      have e8:((s.getD y 0).toNat:Int) - 48 = (d:Int) := by omega
      have w2:IntKind.u8.wrap (d:Int) = (d:Int) := wrap_uns (k := .u8) rfl (by simp only [IntKind.bits]; omega)
      have w3:IntKind.i64.wrap (d:Int) = (d:Int) := wrap_i64' (by omega) (by omega)
      have w4:IntKind.i64.wrap (4611686018427387903 - (d:Int)) = ((4611686018427387903 - d:Nat):Int) := by rw [wrap_i64' (by omega) (by omega)]; omega
      have w5:IntKind.i64.wrap ((((4611686018427387903 - d:Nat):Int)).tdiv 10) = (((4611686018427387903 - d) / 10:Nat):Int) := by
        rw [tdiv10,if_neg (by omega),Int.natAbs_natCast,wrap_i64' (by omega) (by omega)]
      have w6:IntKind.i64.wrap ((y:Int) + 1) = ((y + 1:Nat):Int) := by rw [wrap_i64' (by omega) (by omega)]; rfl
      simp only [e8,w2,w3,w4,w5,w6]
      have hdc:decide ((n:Int) ≤ (((4611686018427387903 - d) / 10:Nat):Int)) = decide (n ≤ (maxNum - d) / 10) := by
        rw [show maxNum = 4611686018427387903 from rfl]
        exact decide_eq_decide.2 Int.ofNat_le
      rw [hdc]
      refine ⟨⟨fun hf => by rw [hf]; rfl,fun hf => by rw [hf]; rfl⟩,fun hq => ?_,fun hq => ?_⟩
      · have hn:n ≤ (maxNum - d) / 10 := by
          rw [show maxNum = 4611686018427387903 from rfl]
          exact Int.ofNat_le.1 hq.2
        rw [if_pos ⟨hq.1,hn⟩] at hS
        have mx:maxNum = 4611686018427387903 := rfl
        refine ⟨(y + 1,10 * n + d,f && decide (n ≤ (maxNum - d) / 10)),hS,by simp only; omega,rfl,?_,rfl⟩
        simp only
        rw [wrap_i64' (n := 10 * (n:Int)) (by omega) (by omega),wrap_i64' (by omega) (by omega)]
        omega
      · have hn:¬ (f = true∧n ≤ (maxNum - d) / 10) := by
          rintro ⟨q1,q2⟩
          rcases hq with q | q
          · rw [q1] at q; cases q
          · refine q (Int.ofNat_le.2 ?_)
            rw [show maxNum = 4611686018427387903 from rfl] at q2
            exact q2
        rw [if_neg hn] at hS
        exact ⟨(y + 1,n,f && decide (n ≤ (maxNum - d) / 10)),hS,by simp only; omega,rfl,rfl,rfl⟩
    · obtain ⟨E1,E2,E3,E4,E5⟩ := hE (fun _ => hd)
      refine ⟨fun e => errP_of (E1 (by omega)),fun e => ⟨fun hf => errP_of (E2 (by simpa using hf)),fun hf => ⟨fun _ => ⟨by omega,by omega,fun ha => errP_of (E3 ha),fun ha => ⟨by omega,fun h => errP_of (E4 h),fun h => ?_⟩⟩,fun hy' => by omega⟩⟩⟩
      have mx:maxNum = 4611686018427387903 := rfl
      exact ⟨fun h1 => okP_of (E5 (by omega) (by simpa using hf) ha h) (by rw [wrap_i64' (by omega) (by omega)]; omega) (by rw [if_pos rfl,wrap_i64' (by omega) (by omega)]; omega),fun h1 => by omega⟩
    · obtain ⟨E1,E2,E3,E4,E5⟩ := hE (fun h => by omega)
      refine ⟨fun e => errP_of (E1 (by omega)),fun e => ⟨fun hf => errP_of (E2 (by simpa using hf)),fun hf => ⟨fun hy' => by omega,fun hy' => ?_⟩⟩⟩
      have mx:maxNum = 4611686018427387903 := rfl
      have h0:s.getD y 0 = 0 := gd_ge (by omega)
      exact ⟨fun h1 => okP_of (E5 (by omega) (by simpa using hf) (by rw [h0]; decide) (by rw [h0]; decide)) (by rw [wrap_i64' (by omega) (by omega)]; omega) (by rw [if_pos rfl,wrap_i64' (by omega) (by omega)]; omega),fun h1 => by omega⟩
  · have hut:u = false := by rw [hu]; simpa using n95
    subst hut
    have hul:uL false = 0 := rfl
    rw [hul]
    refine ⟨⟨(i,0,true),⟨by simp only; omega,by simp only; omega,by simp only [Nat.add_zero],by simp only [Nat.add_zero,Nat.sub_self,List.take_zero]; rfl,Nat.zero_le _⟩,rfl,rfl,rfl⟩,?_⟩
    rintro ⟨y,n,f⟩ hI
    simp only at hI ⊢
    have hE := num_end hi false hu (y := y) (n := n) (f := f) hI
    rw [hul] at hE
    have hS := num_step (y := y) (n := n) (f := f) hI
    have hyl := hI.hi
    have hyo := hI.lo
    have hmx := hI.mx
    have hlt8 := (s.getD y 0).toNat_lt
    refine ⟨fun hy => ⟨by omega,by omega,fun hd => ⟨by omega,?_⟩,fun hd => ?_⟩,fun hy => ?_⟩
    · have hS := hS (by omega) hd
      have hb := (dig_iff _).1 hd
      generalize hdv:(s.getD y 0).toNat - 48 = d at *
      have hd9:d ≤ 9 := by omega
      have e8:((s.getD y 0).toNat:Int) - 48 = (d:Int) := by omega
      have w2:IntKind.u8.wrap (d:Int) = (d:Int) := wrap_uns (k := .u8) rfl (by simp only [IntKind.bits]; omega)
      have w3:IntKind.i64.wrap (d:Int) = (d:Int) := wrap_i64' (by omega) (by omega)
      have w4:IntKind.i64.wrap (4611686018427387903 - (d:Int)) = ((4611686018427387903 - d:Nat):Int) := by rw [wrap_i64' (by omega) (by omega)]; omega
      have w5:IntKind.i64.wrap ((((4611686018427387903 - d:Nat):Int)).tdiv 10) = (((4611686018427387903 - d) / 10:Nat):Int) := by
        rw [tdiv10,if_neg (by omega),Int.natAbs_natCast,wrap_i64' (by omega) (by omega)]
      have w6:IntKind.i64.wrap ((y:Int) + 1) = ((y + 1:Nat):Int) := by rw [wrap_i64' (by omega) (by omega)]; rfl
      simp only [e8,w2,w3,w4,w5,w6]
      have hdc:decide ((n:Int) ≤ (((4611686018427387903 - d) / 10:Nat):Int)) = decide (n ≤ (maxNum - d) / 10) := by
        rw [show maxNum = 4611686018427387903 from rfl]
        exact decide_eq_decide.2 Int.ofNat_le
      rw [hdc]
      refine ⟨⟨fun hf => by rw [hf]; rfl,fun hf => by rw [hf]; rfl⟩,fun hq => ?_,fun hq => ?_⟩
      · have hn:n ≤ (maxNum - d) / 10 := by
          rw [show maxNum = 4611686018427387903 from rfl]
          exact Int.ofNat_le.1 hq.2
        rw [if_pos ⟨hq.1,hn⟩] at hS
        have mx:maxNum = 4611686018427387903 := rfl
        refine ⟨(y + 1,10 * n + d,f && decide (n ≤ (maxNum - d) / 10)),hS,by simp only; omega,rfl,?_,rfl⟩
        simp only
        rw [wrap_i64' (n := 10 * (n:Int)) (by omega) (by omega),wrap_i64' (by omega) (by omega)]
        omega
      · have hn:¬ (f = true∧n ≤ (maxNum - d) / 10) := by
          rintro ⟨q1,q2⟩
          rcases hq with q | q
          · rw [q1] at q; cases q
          · refine q (Int.ofNat_le.2 ?_)
            rw [show maxNum = 4611686018427387903 from rfl] at q2
            exact q2
        rw [if_neg hn] at hS
        exact ⟨(y + 1,n,f && decide (n ≤ (maxNum - d) / 10)),hS,by simp only; omega,rfl,rfl,rfl⟩
    · obtain ⟨E1,E2,E3,E4,E5⟩ := hE (fun _ => hd)
      refine ⟨fun e => errP_of (E1 (by omega)),fun e => ⟨fun hf => errP_of (E2 (by simpa using hf)),fun hf => ⟨fun _ => ⟨by omega,by omega,fun ha => errP_of (E3 ha),fun ha => ⟨by omega,fun h => errP_of (E4 h),fun h => ?_⟩⟩,fun hy' => by omega⟩⟩⟩
      have mx:maxNum = 4611686018427387903 := rfl
      exact ⟨fun h1 => by omega,fun h1 => okP_of (E5 (by omega) (by simpa using hf) ha h) (by rw [wrap_i64' (by omega) (by omega)]; omega) (by rw [if_neg (by decide)])⟩
    · obtain ⟨E1,E2,E3,E4,E5⟩ := hE (fun h => by omega)
      refine ⟨fun e => errP_of (E1 (by omega)),fun e => ⟨fun hf => errP_of (E2 (by simpa using hf)),fun hf => ⟨fun hy' => by omega,fun hy' => ?_⟩⟩⟩
      have mx:maxNum = 4611686018427387903 := rfl
      have h0:s.getD y 0 = 0 := gd_ge (by omega)
      exact ⟨fun h1 => by omega,fun h1 => okP_of (E5 (by omega) (by simpa using hf) (by rw [h0]; decide) (by rw [h0]; decide)) (by rw [wrap_i64' (by omega) (by omega)]; omega) (by rw [if_neg (by decide)])⟩
end Go.Proofs.YtfldjfpcefcjdaaGreatDoor
namespace Go.Proofs.YtfldjfpcefcjdaaGreatDoor
open Go Go.Ab
set_option maxRecDepth 100000
def eP (e:Int) (i:Nat) (T:Lex):Prop := (0 = lxK T∧0 = lxI i T∧0 = lxL T∧0 = lxN T∧eqOf (List UInt8) [] (lxT T))∧e = lxE T
def tP (k:Int) (i:Nat) (L:Int) (t:List UInt8) (T:Lex):Prop := (k = lxK T∧(i:Int) = lxI i T∧L = lxL T∧0 = lxN T∧t = lxT T)∧0 = lxE T
theorem eP_iff (e:Int) (i:Nat) (T:Lex):((0 = lxK T∧0 = lxI i T∧0 = lxL T∧0 = lxN T∧eqOf (List UInt8) [] (lxT T))∧e = lxE T)↔eP e i T := Iff.rfl
theorem tP_iff (k:Int) (i:Nat) (L:Int) (t:List UInt8) (T:Lex):((k = lxK T∧(i:Int) = lxI i T∧L = lxL T∧0 = lxN T∧t = lxT T)∧0 = lxE T)↔tP k i L t T := Iff.rfl
theorem eP_of {e:Int} {o i:Nat} {T:Lex} (h:T = .error (e,o)):eP e i T := by subst h; exact ⟨⟨rfl,rfl,rfl,rfl,rfl⟩,rfl⟩
theorem tP_of {k:Int} {i len:Nat} {L:Int} {t u:List UInt8} {T:Lex} (h:T = .ok (k,len,0,u)) (hL:L = (len:Int)) (ht:t = u):tP k i L t T := by subst h hL ht; exact ⟨⟨rfl,rfl,rfl,rfl,rfl⟩,rfl⟩
theorem alu_of {b:UInt8} (h:aln b = true):(low b || dig b) = !upp b := by
  unfold aln alp low upp dig at *
  simp only [Bool.or_eq_true,Bool.and_eq_true,decide_eq_true_eq] at h
  rw [Bool.eq_iff_iff]
  simp only [Bool.or_eq_true,Bool.and_eq_true,decide_eq_true_eq,Bool.not_eq_true',Bool.and_eq_false_iff,decide_eq_false_iff_not]
  omega
theorem low_of {b:UInt8} (h:alp b = true):low b = !upp b := by
  unfold alp low upp at *
  simp only [Bool.or_eq_true,Bool.and_eq_true,decide_eq_true_eq] at h
  rw [Bool.eq_iff_iff]
  simp only [Bool.and_eq_true,decide_eq_true_eq,Bool.not_eq_true',Bool.and_eq_false_iff,decide_eq_false_iff_not]
  omega
theorem plain_all:∀ (w:List UInt8),w.all aln = true→(w.all fun b => low b || dig b) = !w.any upp
  | [],_ => rfl
  | b :: r,h => by
    simp only [List.all_cons,Bool.and_eq_true] at h
    rw [List.all_cons,List.any_cons,plain_all r h.2,alu_of h.1,Bool.not_or]
theorem plain_of {w:List UInt8} (h0:w ≠ []) (h1:alp (w.getD 0 0) = true) (h2:w.all aln = true):plainB w = !w.any upp := by
  unfold plainB
  rw [plain_all w h2]
  cases w with
  | nil => exact absurd rfl h0
  | cons b r =>
    simp only [List.getD_cons_zero] at h1
    simp only [List.isEmpty_cons,List.getD_cons_zero,List.any_cons,low_of h1]
    cases upp b <;> simp
theorem word_law {s : List UInt8} {i : Nat} (hi : i < s.length) (ha : alp (s.getD i 0) = true) (hs : s.length ≤ 4294967296) {y : Nat} (h1 : i ≤ y) (h2 : y ≤ s.length) (h3 : runT aln s y = runT aln s i) (he : y < s.length → aln (s.getD y 0) = false) :
    (List.drop i (List.take y s)).length ≤ 140737488351232∧(resB (List.drop i (List.take y s)) = true→tP 5 i (IntKind.i64.wrap ((y:Int) - (i:Int))) (List.drop i (List.take y s)) (wordT (List.drop i s))) ∧
    (resB (List.drop i (List.take y s)) = false→(List.drop i (List.take y s)).length ≤ 140737488355328∧((!plainB (List.drop i (List.take y s))) = true→eP 6 i (wordT (List.drop i s))) ∧
      ((!plainB (List.drop i (List.take y s))) = false→(32 < ((List.drop i (List.take y s)).length:Int)→eP 9 i (wordT (List.drop i s))) ∧
        (¬ 32 < ((List.drop i (List.take y s)).length:Int)→tP 4 i (IntKind.i64.wrap ((y:Int) - (i:Int))) (List.drop i (List.take y s)) (wordT (List.drop i s))))) := by
  have hR:runT aln s i = y := by
    rw [← h3]
    by_cases hy:y < s.length
    · exact runT_no hy (by rw [he hy]; decide)
    · exact runT_end hy
  have hw:List.drop i (List.take y s) = (s.drop i).takeWhile aln := by rw [← hR,take_run]
  have hlen:(List.drop i (List.take y s)).length = y - i := by rw [List.length_drop,List.length_take]; omega
  have hwr:IntKind.i64.wrap ((y:Int) - (i:Int)) = ((y - i:Nat):Int) := by rw [wrap_i64' (by omega) (by omega)]; omega
  have hal:aln (s.getD i 0) = true := by unfold aln; rw [ha,Bool.true_or]
  have hd:s.drop i = s.getD i 0 :: s.drop (i + 1) := by
    rw [List.getD_eq_getElem?_getD,List.getElem?_eq_getElem hi]; exact List.drop_eq_getElem_cons hi
  have hhd:((s.drop i).takeWhile aln).getD 0 0 = s.getD i 0 := by
    rw [hd,List.takeWhile_cons,hal]; rfl
  have hne:(s.drop i).takeWhile aln ≠ [] := by
    rw [hd,List.takeWhile_cons,hal]; exact List.cons_ne_nil _ _
  have hp := plain_of hne (by rw [hhd]; exact ha) (List.all_eq_true.2 (tw_all aln _))
  rw [hwr]
  rw [hw] at hlen ⊢
  rw [hp]
  have hT : wordT (s.drop i) = (if resB ((s.drop i).takeWhile aln) = true then .ok (5, ((s.drop i).takeWhile aln).length, 0, (s.drop i).takeWhile aln)
      else if ((s.drop i).takeWhile aln).any upp = true then .error (6,0) else if 32 < ((s.drop i).takeWhile aln).length then .error (9,0) else .ok (4,((s.drop i).takeWhile aln).length,0,(s.drop i).takeWhile aln)) := rfl
  rw [hT]
  generalize (s.drop i).takeWhile aln = w at *
  refine ⟨by omega,fun h => tP_of (if_pos h) (by rw [hlen]) rfl,fun h => ⟨by omega,fun hu => ?_,fun hu => ⟨fun hl => ?_,fun hl => ?_⟩⟩⟩
  · rw [Bool.not_not] at hu
    exact eP_of (by rw [if_neg (by rw [h]; decide),if_pos hu])
  · rw [Bool.not_not] at hu
    exact eP_of (by rw [if_neg (by rw [h]; decide),if_neg (by rw [hu]; decide),if_pos (by omega)])
  · rw [Bool.not_not] at hu
    exact tP_of (by rw [if_neg (by rw [h]; decide),if_neg (by rw [hu]; decide),if_neg (by omega)]) (by rw [hlen]) rfl
theorem symL_or (x:List UInt8):symL.contains x = (amongT refNames x || amongT refSigns x) := by
  rw [among_names,among_signs]
  unfold symL
  rw [Bool.eq_iff_iff]
  simp only [List.contains_iff_mem,List.mem_append,Bool.or_eq_true]
theorem sym2_ok {s:List UInt8} {i:Nat} (h:i + 2 ≤ s.length) (hq:(amongT refNames ((s.drop i).take 2) || amongT refSigns ((s.drop i).take 2)) = true):tP 5 i 2 ((s.drop i).take 2) (symT (s.drop i)) := by
  unfold symT
  rw [if_pos ⟨by rw [symL_or]; exact hq,by rw [List.length_drop]; omega⟩]
  exact tP_of rfl rfl rfl
theorem sym1_ok {s:List UInt8} {i:Nat} (h2:¬ (i + 2 ≤ s.length)∨(amongT refNames ((s.drop i).take 2) || amongT refSigns ((s.drop i).take 2)) = false) (hq:(amongT refNames ((s.drop i).take 1) || amongT refSigns ((s.drop i).take 1)) = true):tP 5 i 1 ((s.drop i).take 1) (symT (s.drop i)) := by
  unfold symT
  rw [if_neg (by
    rw [symL_or,List.length_drop]
    rintro ⟨q1,q2⟩
    rcases h2 with h | h
    · exact h (by omega)
    · rw [h] at q1; cases q1),if_pos (by rw [symL_or]; exact hq)]
  exact tP_of rfl rfl rfl
theorem sym0_ok {s:List UInt8} {i:Nat} (h2:¬ (i + 2 ≤ s.length)∨(amongT refNames ((s.drop i).take 2) || amongT refSigns ((s.drop i).take 2)) = false) (hq:(amongT refNames ((s.drop i).take 1) || amongT refSigns ((s.drop i).take 1)) = false):eP 6 i (symT (s.drop i)) := by
  unfold symT
  rw [if_neg (by
    rw [symL_or,List.length_drop]
    rintro ⟨q1,q2⟩
    rcases h2 with h | h
    · exact h (by omega)
    · rw [h] at q1; cases q1),if_neg (by rw [symL_or,hq]; decide)]
  exact eP_of rfl
noncomputable def Erw (s:List UInt8) (i:Nat):Senv := { EC conLt 51 2 [4,5,6,7,8,25,39,44,48] (fun _ => ([],[])) with
  ann := fun b _ S => match b with
    | 0 => some { slots := [6],keep := [0,1,4],α := Nat,st := fun y => ([.int .i64 y],S),inv := fun y => i ≤ y∧y ≤ s.length∧runT aln s y = runT aln s i,mu := fun y => s.length - y }
    | _ => none }
noncomputable section
def te2q0 (p0 p1:Nat) (p2:List UInt8):Prop := p0 ≤ p1∧p1 ≤ LN p2∧runT aln p2 p1 = runT aln p2 p0
def te2q1 (p0:Nat):Prop := (SM p0∧(SM Z0∧SM Z0∧SM Z0∧SM Z0∧eqOf (List UInt8) [] []∧True)∧True)∧True
def te2q2 (p0:List UInt8) (p1:Nat):Int := (BI p0 (Int.toNat (↑p1:Int)))
def te2q3 (p0:List UInt8) (p1:Nat):Prop := Z0 ≤ te2q2 p0 p1∧te2q2 p0 p1 < (256:Int)
def te2q4 (p0:List UInt8) (p1 p2 p3:Nat):Prop := (SM (D.str p0)∧SM (ZI (↑p1:Int))∧SM (D.ref N0 p2 N0)∧True)∧∃ (y:Nat),te2q0 p1 y p0∧LN p0 - y < LN p0 - p3∧(IntKind.wrap IntKind.i64 ((↑p3:Int) + Z1) = (↑y:Int)∧True)∧te2q1 p2
def te2q5 (p0 p1:Nat) (p2:List UInt8):List UInt8 := List.drop (Int.toNat (↑p0:Int)) (List.take (Int.toNat (↑p1:Int)) p2)
def te2q6 (p0 p1:Nat) (p2:List UInt8):Nat := LN (te2q5 p0 p1 p2)
def te2q7 (p0:Nat) (p1:List UInt8):Lex := wordT (List.drop p0 p1)
def te2q8 (p0:Nat) (p1:List UInt8):Int := lxK (te2q7 p0 p1)
def te2q9 (p0:Nat) (p1:List UInt8):Int := lxI p0 (te2q7 p0 p1)
def te2q10 (p0:Nat) (p1:List UInt8):Int := lxL (te2q7 p0 p1)
def te2q11 (p0:Nat) (p1:List UInt8):Prop := Z0 = lxN (te2q7 p0 p1)
def te2q12 (p0:Nat) (p1:List UInt8):List UInt8 := lxT (te2q7 p0 p1)
def te2q13 (p0:Nat) (p1:List UInt8) (p2:Nat):Prop := (↑p0:Int) = te2q9 p0 p1∧IntKind.wrap IntKind.i64 ((↑p2:Int) - (↑p0:Int)) = te2q10 p0 p1∧te2q11 p0 p1∧te2q5 p0 p2 p1 = te2q12 p0 p1∧True
def te2q14 (p0:Nat) (p1:List UInt8):Int := lxE (te2q7 p0 p1)
def te2q15 (p0:Nat) (p1:List UInt8):Prop := Z0 = te2q14 p0 p1∧True
def te2q16 (p0:Nat) (p1:List UInt8):Prop := Z0 = te2q8 p0 p1∧Z0 = te2q9 p0 p1∧Z0 = te2q10 p0 p1∧te2q11 p0 p1∧eqOf (List UInt8) [] (te2q12 p0 p1)∧True
def te2q17 (p0 p1:Nat) (p2:List UInt8) (p3:Nat):Prop := side (Z0 ≤ (↑p0:Int)∧(↑p0:Int) ≤ (↑p1:Int)∧(↑p1:Int) ≤ (LI p2)) (∀ (x:Nat),p3 ≠ x∧True→SM x∧te2q6 p0 p1 p2 ≤ (140737488351232:Nat)∧∀ (_y:Unit),True→ifB (resB (te2q5 p0 p1 p2)) (SM x∧SM x∧SM p3∧(SM p3∧True)∧∃ (_y:Unit),True∧(((5:Int) = te2q8 p0 p2∧te2q13 p0 p2 p1)∧te2q15 p0 p2)∧True∧True) (te2q6 p0 p1 p2 ≤ (140737488355328:Nat)∧∀ (_y:Unit),True→ifB (!plainB (te2q5 p0 p1 p2)) (SM p3∧(SM p3∧True)∧∃ (_y:Unit),True∧(te2q16 p0 p2∧(6:Int) = te2q14 p0 p2∧True)∧True∧True) (ifB (decide ((32:Int) < (NI (te2q6 p0 p1 p2)))) (SM p3∧(SM p3∧True)∧∃ (_y:Unit),True∧(te2q16 p0 p2∧(9:Int) = te2q14 p0 p2∧True)∧True∧True) (SM x∧SM p3∧(SM p3∧True)∧∃ (_y:Unit),True∧(((4:Int) = te2q8 p0 p2∧te2q13 p0 p2 p1)∧te2q15 p0 p2)∧True∧True))))
end
theorem rword_ok (s:List UInt8) (i:Nat) (hi:i < s.length) (ha:alp (s.getD i 0) = true) (hs:s.length ≤ 4294967296):ACalls Tryz.prog 35 [.str s,.int .i64 (i:Int)] ⟨[],[]⟩ (SpecR (sC [.str s,.int .i64 (i:Int)] (refD i (wordT (s.drop i)))) ()) := by
  refine con_of (A := sC _ _) (x := ()) (E := Erw s i) (eOk conLt_ok rfl) Tryz.func35 rfl (by kernel_rfl) rfl (by simp [sC,Erw,EC,E0]) ?_
  refine vc_eq (T :=
    ∀ (x:Nat),True→(∃ (x_1:Nat),te2q0 i x_1 s∧((↑i:Int) = (↑x_1:Int)∧True)∧te2q1 x)∧∀ (x_1:Nat),te2q0 i x_1 s→ifB (decide ((↑x_1:Int) < (LI s))) (side (Z0 ≤ (↑x_1:Int)∧(↑x_1:Int) < (LI s)) (te2q3 s x_1∧∀ (y:Unit),True→ifB (alp (UInt8.ofNat (Int.toNat (te2q2 s x_1)))) (te2q4 s i x x_1) (side (Z0 ≤ (↑x_1:Int)∧(↑x_1:Int) < (LI s)) (te2q3 s x_1∧∀ (y:Unit),True→ifB (dig (UInt8.ofNat (Int.toNat (te2q2 s x_1)))) (te2q4 s i x x_1) (te2q17 i x_1 s x))))) (te2q17 i x_1 s x)) (by kernel_rfl) ?_
  delta BI LI LN N0 NI SM U0 Z0 Z1 ZI te2q0 te2q1 te2q10 te2q11 te2q12 te2q13 te2q14 te2q15 te2q16 te2q17 te2q2 te2q3 te2q4 te2q5 te2q6 te2q7 te2q8 te2q9
  simp only [eq_self,ne_eq,Int.toNat_natCast,ifB_iff,side_iff,decide_eq_true_eq,decide_eq_false_iff_not,true_and,and_true,exists_const,forall_const]
  have hob:∀ b:UInt8,UInt8.ofNat b.toNat = b := fun b => by simp
  simp only [eP_iff,tP_iff,hob]
  intro x
  refine ⟨⟨i,⟨Nat.le_refl i,by omega,rfl⟩,rfl⟩,fun y ⟨h1,h2,h3⟩ => ⟨fun hy => ?_,fun hy => ⟨by omega,fun _ _ => word_law hi ha hs h1 h2 h3 (fun h => by omega)⟩⟩⟩
  have hlt8 := (s.getD y 0).toNat_lt
  have hstep:aln (s.getD y 0) = true→∃ z,(i ≤ z∧z ≤ s.length∧runT aln s z = runT aln s i)∧s.length - z < s.length - y∧IntKind.i64.wrap ((y:Int) + 1) = (z:Int) := fun h =>
    ⟨y + 1,⟨by omega,by omega,by rw [runT_yes (by omega) h,h3]⟩,by omega,by rw [wrap_i64' (by omega) (by omega)]; rfl⟩
  refine ⟨by omega,by omega,fun h => hstep (by unfold aln; rw [h,Bool.true_or]),fun h => ⟨by omega,by omega,fun hd => hstep (by unfold aln; rw [hd,Bool.or_true]),fun hd => ⟨by omega,fun _ _ => word_law hi ha hs h1 h2 h3 (fun _ => by unfold aln; rw [h,hd]; rfl)⟩⟩⟩
noncomputable def Erm:Senv := { EC conLt 45 2 [4,5,6,8,34] (fun _ => ([],[])) with
  unr := fun b => match b with
    | 0 => 3
    | _ => 0 }
noncomputable section
def te2q18 (p0:Nat):Int := IntKind.wrap IntKind.i64 ((↑p0:Int) + (2:Int))
def te2q19 (p0:Nat) (p1:List UInt8):List UInt8 := List.drop (Int.toNat (↑p0:Int)) (List.take (Int.toNat (te2q18 p0)) p1)
def te2q20 (p0:Nat) (p1:List UInt8):Prop := LN (te2q19 p0 p1) ≤ (140737488351232:Nat)
def te2q21:List UInt8 := [(32:UInt8),(43:UInt8),(32:UInt8),(45:UInt8),(32:UInt8),(42:UInt8),(32:UInt8),(37:UInt8),(32:UInt8),(124:UInt8),(32:UInt8),(94:UInt8),(32:UInt8),(60:UInt8),(32:UInt8),(60:UInt8),(61:UInt8),(32:UInt8),(61:UInt8),(32:UInt8),(126:UInt8),(61:UInt8),(32:UInt8),(62:UInt8),(61:UInt8),(32:UInt8),(62:UInt8),(32:UInt8),(44:UInt8),(32:UInt8),(47:UInt8),(32:UInt8),(92:UInt8),(32:UInt8)]
def te2q22 (p0:Nat) (p1:List UInt8):Lex := symT (List.drop p0 p1)
def te2q23 (p0:Nat) (p1:List UInt8):Int := lxK (te2q22 p0 p1)
def te2q24 (p0:Nat) (p1:List UInt8):Prop := (5:Int) = te2q23 p0 p1
def te2q25 (p0:Nat) (p1:List UInt8):Int := lxI p0 (te2q22 p0 p1)
def te2q26 (p0:Nat) (p1:List UInt8):Prop := (↑p0:Int) = te2q25 p0 p1
def te2q27 (p0:Nat) (p1:List UInt8):Int := lxL (te2q22 p0 p1)
def te2q28 (p0:Nat) (p1:List UInt8):Prop := Z0 = lxN (te2q22 p0 p1)
def te2q29 (p0:Nat) (p1:List UInt8):List UInt8 := lxT (te2q22 p0 p1)
def te2q30 (p0:Nat) (p1:List UInt8):Int := lxE (te2q22 p0 p1)
def te2q31 (p0:Nat) (p1:List UInt8):Prop := Z0 = te2q30 p0 p1∧True
def te2q32 (p0:Nat) (p1:List UInt8) (p2:Nat):Prop := side (Z0 ≤ (↑p0:Int)∧(↑p0:Int) ≤ te2q18 p0∧te2q18 p0 ≤ (LI p1)) (SM p2∧(SM p2∧True)∧∃ (_y:Unit),True∧((te2q24 p0 p1∧te2q26 p0 p1∧(2:Int) = te2q27 p0 p1∧te2q28 p0 p1∧te2q19 p0 p1 = te2q29 p0 p1∧True)∧te2q31 p0 p1)∧True∧True)
def te2q33:List UInt8 := [(32:UInt8),(40:UInt8),(32:UInt8),(41:UInt8),(32:UInt8),(123:UInt8),(32:UInt8),(125:UInt8),(32:UInt8),(58:UInt8),(32:UInt8),(60:UInt8),(45:UInt8),(32:UInt8)]
def te2q34 (p0:Nat):Int := IntKind.wrap IntKind.i64 ((↑p0:Int) + Z1)
def te2q35 (p0:Nat) (p1:List UInt8):List UInt8 := List.drop (Int.toNat (↑p0:Int)) (List.take (Int.toNat (te2q34 p0)) p1)
def te2q36 (p0:Nat) (p1:List UInt8):Prop := LN (te2q35 p0 p1) ≤ (140737488351232:Nat)
def te2q37 (p0:Nat) (p1:List UInt8) (p2:Nat):Prop := side (Z0 ≤ (↑p0:Int)∧(↑p0:Int) ≤ te2q34 p0∧te2q34 p0 ≤ (LI p1)) (SM p2∧(SM p2∧True)∧∃ (_y:Unit),True∧((te2q24 p0 p1∧te2q26 p0 p1∧Z1 = te2q27 p0 p1∧te2q28 p0 p1∧te2q35 p0 p1 = te2q29 p0 p1∧True)∧te2q31 p0 p1)∧True∧True)
def te2q38 (p0 p1:Nat) (p2:List UInt8):Prop := SM p0∧(SM p0∧True)∧∃ (_y:Unit),True∧((Z0 = te2q23 p1 p2∧Z0 = te2q25 p1 p2∧Z0 = te2q27 p1 p2∧te2q28 p1 p2∧eqOf (List UInt8) [] (te2q29 p1 p2)∧True)∧(6:Int) = te2q30 p1 p2∧True)∧True∧True
def te2q39 (p0:Nat) (p1:List UInt8) (p2:Nat):Prop := ifB (decide (te2q34 p0 ≤ (LI p1))) (side (Z0 ≤ (↑p0:Int)∧(↑p0:Int) ≤ te2q34 p0∧te2q34 p0 ≤ (LI p1)) (((34:Nat) ≤ (140737488351232:Nat)∧te2q36 p0 p1)∧∀ (_y:Unit),True→ifB (amongT te2q21 (te2q35 p0 p1)) (te2q37 p0 p1 p2) (side (Z0 ≤ (↑p0:Int)∧(↑p0:Int) ≤ te2q34 p0∧te2q34 p0 ≤ (LI p1)) (((14:Nat) ≤ (140737488351232:Nat)∧te2q36 p0 p1)∧∀ (_y:Unit),True→ifB (amongT te2q33 (te2q35 p0 p1)) (te2q37 p0 p1 p2) (te2q38 p2 p0 p1))))) (te2q38 p2 p0 p1)
end
theorem rsym_ok (s:List UInt8) (i:Nat) (hi:i < s.length) (hs:s.length ≤ 4294967296):ACalls Tryz.prog 31 [.str s,.int .i64 (i:Int)] ⟨[],[]⟩ (SpecR (sC [.str s,.int .i64 (i:Int)] (refD i (symT (s.drop i)))) ()) := by
  refine con_of (A := sC _ _) (x := ()) (E := Erm) (eOk conLt_ok rfl) Tryz.func31 rfl (by kernel_rfl) rfl (by simp [sC,Erm,EC,E0]) ?_
  refine vc_eq (T :=
    ∀ (x:Nat),True→ifB (decide (te2q18 i ≤ (LI s))) (side (Z0 ≤ (↑i:Int)∧(↑i:Int) ≤ te2q18 i∧te2q18 i ≤ (LI s)) (((34:Nat) ≤ (140737488351232:Nat)∧te2q20 i s)∧∀ (y:Unit),True→ifB (amongT te2q21 (te2q19 i s)) (te2q32 i s x) (side (Z0 ≤ (↑i:Int)∧(↑i:Int) ≤ te2q18 i∧te2q18 i ≤ (LI s)) (((14:Nat) ≤ (140737488351232:Nat)∧te2q20 i s)∧∀ (y:Unit),True→ifB (amongT te2q33 (te2q19 i s)) (te2q32 i s x) (te2q39 i s x))))) (te2q39 i s x)) (by kernel_rfl) ?_
  delta LI LN SM Z0 Z1 te2q18 te2q19 te2q20 te2q21 te2q22 te2q23 te2q24 te2q25 te2q26 te2q27 te2q28 te2q29 te2q30 te2q31 te2q32 te2q33 te2q34 te2q35 te2q36 te2q37 te2q38 te2q39
  simp only [eq_self,Int.toNat_natCast,ifB_iff,side_iff,decide_eq_true_eq,decide_eq_false_iff_not,true_and,and_true,exists_const,forall_const]
  have w2:IntKind.i64.wrap ((i:Int) + 2) = ((i + 2:Nat):Int) := by rw [wrap_i64' (by omega) (by omega)]; rfl
  have w1:IntKind.i64.wrap ((i:Int) + 1) = ((i + 1:Nat):Int) := by rw [wrap_i64' (by omega) (by omega)]; rfl
  have k2:i + 2 - i = 2 := by omega
  have k1:i + 1 - i = 1 := by omega
  have l2:((s.drop i).take 2).length ≤ 2 := List.length_take_le _ _
  have l1:((s.drop i).take 1).length ≤ 1 := List.length_take_le _ _
  have hN:([32,43,32,45,32,42,32,37,32,124,32,94,32,60,32,60,61,32,61,32,126,61,32,62,61,32,62,32,44,32,47,32,92,32]:List UInt8) = refNames := by decide +kernel
  have hS:([32,40,32,41,32,123,32,125,32,58,32,60,45,32]:List UInt8) = refSigns := by decide +kernel
  simp only [eP_iff,tP_iff,w1,w2,Int.toNat_natCast,List.drop_take,k1,k2,hN,hS]
  have or1:∀ {a b:Bool},a = true→(a || b) = true := fun h => by rw [h,Bool.true_or]
  have or2:∀ {a b:Bool},b = true→(a || b) = true := fun h => by rw [h,Bool.or_true]
  have or0:∀ {a b:Bool},a = false→b = false→(a || b) = false := fun h1 h2 => by rw [h1,h2]; rfl
  refine ⟨fun h => ⟨by omega,by omega,fun q => ⟨by omega,sym2_ok (by omega) (or1 q)⟩,fun q => ⟨by omega,by omega,fun q' => ⟨by omega,sym2_ok (by omega) (or2 q')⟩,fun q' => ⟨fun h1 => ⟨by omega,by omega,fun r => ⟨by omega,sym1_ok (.inr (or0 q q')) (or1 r)⟩,fun r => ⟨by omega,by omega,fun r' => ⟨by omega,sym1_ok (.inr (or0 q q')) (or2 r')⟩,fun r' => sym0_ok (.inr (or0 q q')) (or0 r r')⟩⟩,fun h1 => by omega⟩⟩⟩,fun h => ?_⟩
  have hn:¬ (i + 2 ≤ s.length) := by omega
  exact ⟨fun h1 => ⟨by omega,by omega,fun r => ⟨by omega,sym1_ok (.inl hn) (or1 r)⟩,fun r => ⟨by omega,by omega,fun r' => ⟨by omega,sym1_ok (.inl hn) (or2 r')⟩,fun r' => sym0_ok (.inl hn) (or0 r r')⟩⟩,fun h1 => by omega⟩
end Go.Proofs.YtfldjfpcefcjdaaGreatDoor
namespace Go.Proofs.YtfldjfpcefcjdaaGreatDoor
open Go Go.Ab
set_option maxRecDepth 100000
def hexI (b:UInt8):Int := match hexV b with | some v => (v:Int) | none => -1
theorem hexI_dig {b:UInt8} (h:dig b = true):hexI b = (b.toNat:Int) - 48 := by
  have := (dig_iff b).1 h
  unfold hexI hexV
  rw [if_pos h]
  simp only
  omega
theorem hexI_af {b:UInt8} (h:dig b = false) (h1:97 ≤ b.toNat) (h2:b.toNat ≤ 102):hexI b = (b.toNat:Int) - 87 := by
  unfold hexI hexV
  rw [if_neg (by rw [h]; decide),if_pos (by rw [decide_eq_true h1,decide_eq_true h2]; rfl)]
  simp only
  omega
theorem hexI_no {b:UInt8} (h:dig b = false) (h1:¬ (97 ≤ b.toNat∧b.toNat ≤ 102)):hexI b = -1 := by
  unfold hexI hexV
  rw [if_neg (by rw [h]; decide),if_neg (by simp only [Bool.and_eq_true,decide_eq_true_eq]; exact h1)]
theorem hexB_hexI (b:UInt8):hexB b = true↔¬ hexI b < 0 := by
  unfold hexB hexI
  cases hexV b with
  | none => simp
  | some v => simp
theorem hexI_le (b:UInt8):hexI b ≤ 15 := by
  cases hd:dig b with
  | true => have := (dig_iff b).1 hd; rw [hexI_dig hd]; omega
  | false =>
    by_cases h:97 ≤ b.toNat∧b.toNat ≤ 102
    · rw [hexI_af hd h.1 h.2]; omega
    · rw [hexI_no hd h]; omega
theorem hexV_getD {b:UInt8} (h:hexB b = true):(((hexV b).getD 0:Nat):Int) = hexI b := by
  unfold hexB at h
  unfold hexI
  cases hv:hexV b with
  | none => rw [hv] at h; cases h
  | some v => rfl
theorem u8_wrap {z:Int} (h:0 ≤ z) (h':z < 256):IntKind.u8.wrap z = z := by
  obtain ⟨v,rfl⟩:∃ v:Nat,z = v := ⟨z.toNat,by omega⟩
  exact wrap_uns (k := .u8) rfl (by simp only [IntKind.bits]; omega)
noncomputable def Ehh:Senv := EC conLt 18 1 [2,4,13] (fun _ => ([],[]))
noncomputable section
def te3q0 (p0:Int):Int := hexI (UInt8.ofNat (Int.toNat p0))
def te3q1 (p0:Int):Bool := bif decide ((97:Int) ≤ p0) then decide (p0 ≤ (102:Int)) else false
end
theorem rhex_ok (z:Int) (h:0 ≤ z∧z < 256):ACalls Tryz.prog 83 [.int .u8 z] ⟨[],[]⟩ (SpecR (sC [.int .u8 z] (.int .i64 (hexI (UInt8.ofNat z.toNat)))) ()) := by
  refine con_of (A := sC _ _) (x := ()) (E := Ehh) (eOk conLt_ok rfl) Tryz.func83 rfl (by kernel_rfl) rfl (by simp [sC,Ehh,EC,E0]) ?_
  refine vc_eq (T :=
    (Z0 ≤ z∧z < (256:Int))∧∀ (y:Unit),True→ifB (dig (UInt8.ofNat (Int.toNat z))) (True∧∃ (y:Unit),True∧IntKind.wrap IntKind.i64 (IntKind.wrap IntKind.u8 (z - (48:Int))) = te3q0 z∧True∧True) (ifB (decide ((97:Int) ≤ z)) (decide (z ≤ (102:Int)) = te3q1 z∧True) (false = te3q1 z∧True)∧ifB (te3q1 z) (True∧∃ (y:Unit),True∧IntKind.wrap IntKind.i64 (IntKind.wrap IntKind.i64 (IntKind.wrap IntKind.u8 (z - (97:Int))) + (10:Int)) = te3q0 z∧True∧True) (True∧∃ (y:Unit),True∧(-1:Int) = te3q0 z∧True∧True))) (by kernel_rfl) ?_
  delta Z0 te3q0 te3q1
  simp only [ifB_iff,decide_eq_true_eq,decide_eq_false_iff_not,true_and,and_true,Bool.cond_false_right,Bool.and_eq_true,Bool.and_eq_false_iff,exists_const,forall_const]
  have hb:(UInt8.ofNat z.toNat).toNat = z.toNat := byteN _ (by omega)
  have hbz:((UInt8.ofNat z.toNat).toNat:Int) = z := by rw [hb]; omega
  have hq := dig_iff (UInt8.ofNat z.toNat)
  rw [hbz] at hq
  refine ⟨h,fun hd => ?_,fun hd => ⟨⟨fun h => dec_and1 h,fun h => dec_and0 h⟩,fun ⟨h1,h2⟩ => ?_,fun hn => ?_⟩⟩
  · have hr := hq.1 hd
    rw [hexI_dig hd,hbz,u8_wrap (by omega) (by omega),wrap_i64' (by omega) (by omega)]
  · rw [hexI_af hd (by omega) (by omega),hbz,u8_wrap (by omega) (by omega),wrap_i64' (n := z - 97) (by omega) (by omega),wrap_i64' (by omega) (by omega)]
    omega
  · rw [hexI_no hd (by omega)]
def conHe:Con := fun k ds S => match k with
  | 83 => match ds with
    | [.int .u8 z] => some (pC [.int .u8 z] (.int .i64 (hexI (UInt8.ofNat z.toNat))) (0 ≤ z∧z < 256))
    | _ => none
  | k => conLt k ds S
theorem conHe_ok:ConOk Tryz.prog conHe := by
  intro k ds S A h
  unfold conHe at h
  split at h
  · split at h
    · injection h with h; subst h
      exact pC_ok fun h => ⟨weakL_refl _,rhex_ok _ h⟩
    · cases h
  · exact conLt_ok _ _ _ _ h
def chC (o:Option (Nat × Nat)):Int := match o with | some x => (x.1:Int) | none => -1
def chW (o:Option (Nat × Nat)):Int := match o with | some x => (x.2:Int) | none => 0
structure EscI (s:List UInt8) (p k:Nat) (n:Int):Prop where
  k6:k ≤ 6
  hi:p + 3 + k ≤ s.length
  all:((s.drop (p + 3)).take k).all hexB = true
  val:n = (hxV ((s.drop (p + 3)).take k) 0:Nat)
  nb:n < ((16 ^ k:Nat):Int)
theorem tw_take {q:UInt8→Bool}:∀ (l:List UInt8) (k:Nat),k ≤ l.length→(l.take k).all q = true→(l.drop k).takeWhile q = []→l.takeWhile q = l.take k
  | l,0,_,_,h => by simpa using h
  | [],k + 1,h,_,_ => by simp at h
  | c :: l,k + 1,h,h2,h3 => by
    simp only [List.take_succ_cons,List.all_cons,Bool.and_eq_true,List.drop_succ_cons,List.length_cons] at h h2 h3
    rw [List.takeWhile_cons,h2.1,List.take_succ_cons,if_pos rfl,tw_take l k (by omega) h2.2 h3]
theorem tw_stop {q:UInt8→Bool} {s:List UInt8} {a:Nat} (h:¬ a < s.length∨q (s.getD a 0) = false):(s.drop a).takeWhile q = [] := by
  by_cases ha:a < s.length
  · rcases h with h | h
    · exact absurd ha h
    · have hd:s.drop a = s.getD a 0 :: s.drop (a + 1) := by
        rw [List.getD_eq_getElem?_getD,List.getElem?_eq_getElem ha]; exact List.drop_eq_getElem_cons ha
      rw [hd,List.takeWhile_cons,h]; rfl
  · rw [List.drop_eq_nil_of_le (by omega)]; rfl
theorem esc_ds {s:List UInt8} {p k:Nat} {n:Int} (h:EscI s p k n) (hn:¬ (p + 3 + k < s.length)∨hexB (s.getD (p + 3 + k) 0) = false):(s.drop (p + 3)).takeWhile hexB = (s.drop (p + 3)).take k := by
  refine tw_take _ _ (by rw [List.length_drop]; have := h.hi; omega) h.all ?_
  rw [List.drop_drop]
  exact tw_stop hn
theorem gd_drop (s:List UInt8) (a b:Nat):(s.drop a).getD b 0 = s.getD (a + b) 0 := by
  rw [List.getD_eq_getElem?_getD,List.getD_eq_getElem?_getD,List.getElem?_drop]
theorem esc_u {s : List UInt8} {p : Nat} (h1 : s.getD (p + 1) 0 = 117) (h2 : s.getD (p + 2) 0 = 123) : escT (s.drop p) =
    (if 1 ≤ ((s.drop (p + 3)).takeWhile hexB).length∧((s.drop (p + 3)).takeWhile hexB).length ≤ 6∧s.getD (p + 3 + ((s.drop (p + 3)).takeWhile hexB).length) 0 = 125∧Utf8.valid (hxV ((s.drop (p + 3)).takeWhile hexB) 0) = true
      then some (hxV ((s.drop (p + 3)).takeWhile hexB) 0,((s.drop (p + 3)).takeWhile hexB).length + 4) else none) := by
  unfold escT
  simp only [gd_drop,h1]
  rw [if_neg (by decide),if_neg (by decide),if_neg (by decide),if_neg (by decide),if_pos trivial]
  unfold codeT
  simp only [gd_drop,List.drop_drop,Nat.add_zero,h2,if_true,← Nat.add_assoc]
  rw [show p + 2 + 1 = p + 3 by omega]
  split <;> rfl
theorem esc_none {s : List UInt8} {p k : Nat} {n : Int} (h1 : s.getD (p + 1) 0 = 117) (h2 : s.getD (p + 2) 0 = 123) (h : EscI s p k n)
    (hn:¬ (p + 3 + k < s.length)∨(hexB (s.getD (p + 3 + k) 0) = false∧¬ (s.getD (p + 3 + k) 0 = 125∧0 < k∧Utf8.valid n = true))∨(hexB (s.getD (p + 3 + k) 0) = true∧k = 6)):escT (s.drop p) = none := by
  rw [esc_u h1 h2]
  have hl:((s.drop (p + 3)).take k).length = k := by rw [List.length_take,List.length_drop]; have := h.hi; omega
  rcases hn with q | ⟨q,q'⟩ | ⟨q,q'⟩
  · rw [esc_ds h (.inl q),hl]
    refine if_neg fun ⟨_,_,e,_⟩ => ?_
    rw [gd_ge (by omega)] at e
    exact absurd e (by decide)
  · rw [esc_ds h (.inr q),hl]
    refine if_neg fun ⟨e1,_,e,e3⟩ => q' ⟨e,e1,?_⟩
    rw [h.val]; exact e3
  · refine if_neg fun ⟨_,e,_⟩ => ?_
    subst q'
    have hq:p + 3 + 6 < s.length := by
      by_cases hh:p + 3 + 6 < s.length
      · exact hh
      · rw [gd_ge (by omega)] at q; exact absurd q (by decide)
    have e7:(s.drop (p + 3)).take 7 = (s.drop (p + 3)).take 6 ++ [s.getD (p + 3 + 6) 0] := by
      rw [List.take_add_one (i := 6),List.getElem?_drop,List.getElem?_eq_getElem hq,List.getD_eq_getElem?_getD,List.getElem?_eq_getElem hq]; rfl
    have ha:((s.drop (p + 3)).take 7).all hexB = true := by
      rw [e7,List.all_append,h.all]; show (true && (hexB _ && true)) = true; rw [q]; rfl
    have hlen:7 ≤ ((s.drop (p + 3)).takeWhile hexB).length := by
      conv => rhs; rw [← List.take_append_drop 7 (s.drop (p + 3))]
      rw [List.takeWhile_append_of_pos (List.all_eq_true.1 ha),List.length_append,List.length_take,List.length_drop]
      omega
    omega
theorem esc_some {s : List UInt8} {p k : Nat} {n : Int} (h1 : s.getD (p + 1) 0 = 117) (h2 : s.getD (p + 2) 0 = 123) (h : EscI s p k n)
    (hc:s.getD (p + 3 + k) 0 = 125) (hk:0 < k) (hv:Utf8.valid n = true):escT (s.drop p) = some (n.toNat,k + 4) := by
  have hx:hexB (s.getD (p + 3 + k) 0) = false := by rw [hc]; decide
  have hl:((s.drop (p + 3)).take k).length = k := by rw [List.length_take,List.length_drop]; have := h.hi; omega
  have hvl := h.val
  rw [esc_u h1 h2,esc_ds h (.inr hx),hl,if_pos ⟨hk,h.k6,hc,by rw [← hvl]; exact hv⟩,hvl,Int.toNat_natCast]
theorem esc_step {s:List UInt8} {p k:Nat} {n:Int} (h:EscI s p k n) (hy:p + 3 + k < s.length) (hx:hexB (s.getD (p + 3 + k) 0) = true) (hk:¬ k = 6):EscI s p (k + 1) (16 * n + hexI (s.getD (p + 3 + k) 0))∧0 ≤ n∧n < 16777216 := by
  obtain ⟨h1,h2,h3,h4,h5⟩ := h
  have e7:(s.drop (p + 3)).take (k + 1) = (s.drop (p + 3)).take k ++ [s.getD (p + 3 + k) 0] := by
    rw [List.take_add_one,List.getElem?_drop,List.getElem?_eq_getElem hy,List.getD_eq_getElem?_getD,List.getElem?_eq_getElem hy]; rfl
  have hle := hexI_le (s.getD (p + 3 + k) 0)
  have hpw:16 ^ k ≤ 16 ^ 6 := Nat.pow_le_pow_right (by decide) h1
  have hsx:(16:Nat) ^ 6 = 16777216 := by decide
  refine ⟨⟨by omega,by omega,by rw [e7,List.all_append,h3]; show (true && (hexB _ && true)) = true; rw [hx]; rfl,?_,?_⟩,by omega,by omega⟩
  · rw [e7,hxV_app]
    show 16 * n + hexI _ = ((16 * hxV ((s.drop (p + 3)).take k) 0 + (hexV (s.getD (p + 3 + k) 0)).getD 0:Nat):Int)
    have := hexV_getD hx
    omega
  · rw [Nat.pow_succ]; omega
noncomputable def Ees (s:List UInt8) (p:Nat):Senv := { EC conHe 96 2 [4,5,6,7,8,13,17,18,20,22,24,51,62,80,90] (fun _ => ([],[])) with
  ann := fun b _ S => match b with
    | 1 => some { slots := [7,6],keep := [0,1],α := Nat × Int,st := fun y => ([.int .i64 y.1,.int .i64 y.2],S),inv := fun y => EscI s p y.1 y.2,mu := fun y => 7 - y.1 }
    | _ => none }
noncomputable section
def te3q2 (p0:Nat):Int := IntKind.wrap IntKind.i64 ((↑p0:Int) + Z1)
def te3q3 (p0:Nat) (p1:List UInt8):Int := chC (escT (List.drop p0 p1))
def te3q4 (p0:Nat) (p1:List UInt8):Int := chW (escT (List.drop p0 p1))
def te3q5 (p0:Nat) (p1:List UInt8):Prop := True∧∃ (_y:Unit),True∧((-1:Int) = te3q3 p0 p1∧Z0 = te3q4 p0 p1∧True)∧True∧True
def te3q6 (p0:List UInt8) (p1:Nat):Int := (BI p0 (Int.toNat (te3q2 p1)))
def te3q7 (p0:Nat) (p1:List UInt8):Prop := (2:Int) = te3q4 p0 p1∧True
def te3q8 (p0:List UInt8) (p1:Nat):Bool := te3q6 p0 p1 == (92:Int)
def te3q9 (p0:Nat) (p1:List UInt8):Prop := side (Z0 ≤ te3q2 p0∧te3q2 p0 < (LI p1)) (True∧∃ (_y:Unit),True∧(IntKind.wrap IntKind.i64 (te3q6 p1 p0) = te3q3 p0 p1∧te3q7 p0 p1)∧True∧True)
def te3q10 (p0:List UInt8) (p1:Nat):Bool := te3q6 p0 p1 != (117:Int)
def te3q11 (p0:Nat):Int := IntKind.wrap IntKind.i64 ((↑p0:Int) + (2:Int))
def te3q12 (p0:List UInt8) (p1:Nat):Bool := (BI p0 (Int.toNat (te3q11 p1))) != (123:Int)
def te3q13 (p0:List UInt8) (p1:Nat):Bool := bif bif te3q10 p0 p1 then true else decide ((LI p0) ≤ te3q11 p1) then true else te3q12 p0 p1
def te3q14 (p0:List UInt8) (p1:Nat):Prop := true = te3q13 p0 p1∧True
def te3q15 (p0 p1:Nat):Int := IntKind.wrap IntKind.i64 (IntKind.wrap IntKind.i64 ((↑p0:Int) + (3:Int)) + (↑p1:Int))
def te3q16 (p0 p1:Nat) (p2:List UInt8):Bool := decide (te3q15 p0 p1 < (LI p2))
def te3q17 (p0 p1:Nat) (p2:List UInt8):Bool := bif decide ((↑p0:Int) ≤ (6:Int)) then te3q16 p1 p0 p2 else false
def te3q18 (p0:List UInt8) (p1 p2:Nat):Int := (BI p0 (Int.toNat (te3q15 p1 p2)))
def te3q19 (p0:Int):Bool := bif bif decide (Z0 ≤ p0) then decide (p0 ≤ (1114111:Int)) else false then bif decide (p0 < (55296:Int)) then true else decide ((57343:Int) < p0) else false
def te3q20 (p0:Int):Prop := false = te3q19 p0∧True
def te3q21 (p0:List UInt8) (p1 p2:Nat):Prop := Z0 ≤ te3q18 p0 p1 p2∧te3q18 p0 p1 p2 < (256:Int)
def te3q22 (p0:List UInt8) (p1 p2:Nat):Int := hexI (UInt8.ofNat (Int.toNat (te3q18 p0 p1 p2)))
def te3q23 (p0:List UInt8) (p1 p2:Nat) (p3:Int):Prop := te3q21 p0 p1 p2∧∀ (_y:Unit),True→ifB (decide (te3q22 p0 p1 p2 < Z0)) (te3q5 p1 p0) (ifB ((↑p2:Int) == (6:Int)) (te3q5 p1 p0) (te3q21 p0 p1 p2∧∀ (_y:Unit),True→(SM (D.str p0)∧SM (ZI (↑p1:Int))∧True)∧∃ (y:Nat × Int),EscI p0 p1 y.1 y.2∧(7:Nat) - y.1 < (7:Nat) - p2∧(te3q2 p2 = (NI y.1)∧IntKind.wrap IntKind.i64 (IntKind.wrap IntKind.i64 ((16:Int) * p3) + te3q22 p0 p1 p2) = y.2∧True)∧True∧True))
def te3q24 (p0:Nat) (p1:List UInt8):Prop := side (Z0 ≤ te3q2 p0∧te3q2 p0 < (LI p1)) (ifB (te3q10 p1 p0) (te3q14 p1 p0) (ifB (decide ((LI p1) ≤ te3q11 p0)) (te3q14 p1 p0) (side (Z0 ≤ te3q11 p0∧te3q11 p0 < (LI p1)) (te3q12 p1 p0 = te3q13 p1 p0∧True))))∧ifB (te3q13 p1 p0) (te3q5 p0 p1) ((∃ (x:Nat × Int),EscI p1 p0 x.1 x.2∧(Z0 = (NI x.1)∧Z0 = x.2∧True)∧True∧True)∧∀ (x:Nat × Int),EscI p1 p0 x.1 x.2→ifB (decide ((NI x.1) ≤ (6:Int))) (te3q16 p0 x.1 p1 = te3q17 x.1 p0 p1∧True) (false = te3q17 x.1 p0 p1∧True)∧ifB (te3q17 x.1 p0 p1) (side (Z0 ≤ te3q15 p0 x.1∧te3q15 p0 x.1 < (LI p1)) (ifB (te3q18 p1 p0 x.1 == (125:Int)) (ifB (decide (Z0 < (NI x.1))) (ifB (decide (Z0 ≤ x.2)) (ifB (decide (x.2 ≤ (1114111:Int))) (ifB (decide (x.2 < (55296:Int))) (true = te3q19 x.2∧True) (decide ((57343:Int) < x.2) = te3q19 x.2∧True)) (te3q20 x.2)) (te3q20 x.2)∧True∧ifB (te3q19 x.2) (True∧∃ (_y:Unit),True∧(x.2 = te3q3 p0 p1∧IntKind.wrap IntKind.i64 ((NI x.1) + (4:Int)) = te3q4 p0 p1∧True)∧True∧True) (te3q23 p1 p0 x.1 x.2)) (te3q23 p1 p0 x.1 x.2)) (te3q23 p1 p0 x.1 x.2))) (te3q5 p0 p1))
def te3q25 (p0:List UInt8) (p1:Nat):Bool := te3q6 p0 p1 == (39:Int)
end
theorem resc_ok (s:List UInt8) (p:Nat) (hp:p < s.length) (hs:s.length ≤ 4294967296):ACalls Tryz.prog 70 [.str s,.int .i64 (p:Int)] ⟨[],[]⟩ (SpecR (sC [.str s,.int .i64 (p:Int)] (.tup [.int .i64 (chC (escT (s.drop p))),.int .i64 (chW (escT (s.drop p)))])) ()) := by
  refine con_of (A := sC _ _) (x := ()) (E := Ees s p) (eOk conHe_ok rfl) Tryz.func70 rfl (by kernel_rfl) rfl (by simp [sC,Ees,EC,E0]) ?_
  refine vc_eq (T :=
    ifB (decide ((LI s) ≤ te3q2 p)) (te3q5 p s) (side (Z0 ≤ te3q2 p∧te3q2 p < (LI s)) (ifB (te3q6 s p == (110:Int)) (True∧∃ (y:Unit),True∧((10:Int) = te3q3 p s∧te3q7 p s)∧True∧True) (ifB (te3q6 s p == (116:Int)) (True∧∃ (y:Unit),True∧((9:Int) = te3q3 p s∧te3q7 p s)∧True∧True) (ifB (te3q6 s p == (114:Int)) (True∧∃ (y:Unit),True∧((13:Int) = te3q3 p s∧te3q7 p s)∧True∧True) (ifB (te3q8 s p) (ifB (te3q8 s p) (te3q9 p s) (te3q24 p s)) (ifB (te3q25 s p) (ifB (te3q25 s p) (te3q9 p s) (te3q24 p s)) (ifB (te3q6 s p == (34:Int)) (te3q9 p s) (te3q24 p s))))))))) (by kernel_rfl) ?_
  delta BI LI LN NI SM U0 Z0 Z1 ZI te3q10 te3q11 te3q12 te3q13 te3q14 te3q15 te3q16 te3q17 te3q18 te3q19 te3q2 te3q20 te3q21 te3q22 te3q23 te3q24 te3q25 te3q3 te3q4 te3q5 te3q6 te3q7 te3q8 te3q9
  simp only [eq_self,ne_eq,Int.toNat_natCast,ifB_iff,side_iff,decide_eq_true_eq,decide_eq_false_iff_not,true_and,and_true,beq_iff_eq,Bool.cond_false_right,Bool.cond_true_left,Bool.and_eq_true,Bool.and_eq_false_iff,Bool.or_eq_true,Bool.or_eq_false_iff,beq_eq_false_iff_ne,exists_const,forall_const]
  have w1:IntKind.i64.wrap ((p:Int) + 1) = ((p + 1:Nat):Int) := by rw [wrap_i64' (by omega) (by omega)]; rfl
  have w2:IntKind.i64.wrap ((p:Int) + 2) = ((p + 2:Nat):Int) := by rw [wrap_i64' (by omega) (by omega)]; rfl
  have w3:IntKind.i64.wrap ((p:Int) + 3) = ((p + 3:Nat):Int) := by rw [wrap_i64' (by omega) (by omega)]; rfl
  have kn:∀ (b:UInt8) (n:Nat),n < 256→((b.toNat:Int) = (n:Int)↔b = UInt8.ofNat n) := fun b n hn => ⟨fun h => b_eq (n := n) h hn,fun h => by rw [h,byteN _ hn]⟩
  simp only [w1,w2,w3,Int.toNat_natCast]
  have c0:∀ o:Option (Nat × Nat),o = none→-1 = chC o∧0 = chW o := fun o h => by subst h; exact ⟨rfl,rfl⟩
  have hesc : escT (s.drop p) = (let c := s.getD (p + 1) 0; if c = 110 then some (10, 2) else if c = 116 then some (9, 2) else if c = 114 then some (13, 2)
      else if c = 92∨c = 39∨c = 34 then some (c.toNat,2) else if c = 117 then (codeT (s.drop (p + 2))).map fun x => (x.1,x.2 + 2) else none) := by
    unfold escT
    simp only [gd_drop,List.drop_drop]
  refine ⟨fun h => c0 _ ?_,fun hl => ⟨by omega,?_⟩⟩
  · rw [hesc,gd_ge (by omega)]; rfl
  generalize hc:s.getD (p + 1) 0 = c at *
  by_cases k1:c = 110
  · subst k1; rw [hesc]; simp [chC,chW]
  by_cases k2:c = 116
  · subst k2; rw [hesc]; simp [chC,chW]
  by_cases k3:c = 114
  · subst k3; rw [hesc]; simp [chC,chW]
  by_cases k4:c = 92
  · subst k4; rw [hesc]; simp [chC,chW]; exact ⟨by omega,by decide⟩
  by_cases k5:c = 39
  · subst k5; rw [hesc]; simp [chC,chW]; exact ⟨by omega,by decide⟩
  by_cases k6:c = 34
  · subst k6; rw [hesc]; simp [chC,chW]; exact ⟨by omega,by decide⟩
  by_cases k7:c = 117
  · subst k7
    clear hesc k1 k2 k3 k4 k5 k6
    have e117:((UInt8.toNat 117:Nat):Int) = 117 := rfl
    simp only [e117,Int.reduceEq,Int.reduceBNe,false_implies,not_false_eq_true,forall_const,true_and,Bool.false_or,false_or,reduceCtorEq]
    have k123:∀ {P:Prop},(((s.getD (p + 2) 0).toNat:Int) != 123) = false→(s.getD (p + 2) 0 = 123→P)→P := fun h f => f ((kn _ 123 (by decide)).1 (by simpa using h))
    refine ⟨⟨by omega,fun h => by rw [decide_eq_true h]; rfl,fun h => ⟨by omega,by rw [decide_eq_false h]; rfl⟩⟩,fun h => c0 _ ?_,fun ⟨h2,h3⟩ => k123 h3 fun h123 => ⟨⟨(0,0),⟨Nat.zero_le _,by simp only; omega,rfl,rfl,by decide⟩,rfl,rfl⟩,fun ⟨k,n⟩ hI => ?_⟩⟩
    · have h5:s.getD (p + 2) 0 ≠ 123 := by
        rcases h with h | h
        · rw [gd_ge (by omega)]; decide
        · intro e
          rw [e] at h
          exact absurd h (by decide)
      unfold escT codeT
      simp only [gd_drop,List.drop_drop,Nat.add_zero,hc,h5,if_false,Option.map_none]
      rfl
    simp only at hI ⊢
    have hk6 := hI.k6
    have hhi := hI.hi
    have hnb := hI.nb
    have hvl := hI.val
    have hpw:16 ^ k ≤ 16 ^ 6 := Nat.pow_le_pow_right (by decide) hk6
    have hsx:(16:Nat) ^ 6 = 16777216 := by decide
    have wk:IntKind.i64.wrap (((p + 3:Nat):Int) + (k:Int)) = ((p + 3 + k:Nat):Int) := by rw [wrap_i64' (by omega) (by omega)]; omega
    have wk1:IntKind.i64.wrap ((k:Int) + 1) = ((k + 1:Nat):Int) := by rw [wrap_i64' (by omega) (by omega)]; rfl
    have wk4:IntKind.i64.wrap ((k:Int) + 4) = ((k + 4:Nat):Int) := by rw [wrap_i64' (by omega) (by omega)]; rfl
    have hob:∀ b:UInt8,UInt8.ofNat b.toNat = b := fun b => by simp
    simp only [wk,wk1,wk4,Int.toNat_natCast,hob]
    have hlt8 := (s.getD (p + 3 + k) 0).toNat_lt
    have k125:((s.getD (p + 3 + k) 0).toNat:Int) = 125↔s.getD (p + 3 + k) 0 = 125 := kn _ 125 (by decide)
    have hval:Utf8.valid n = true↔(0 ≤ n∧n ≤ 1114111)∧(n < 55296∨57343 < n) := by
      unfold Utf8.valid
      simp only [Bool.or_eq_true,Bool.and_eq_true,decide_eq_true_eq]
      omega
    have hno:∀ (hn:¬ (p + 3 + k < s.length)∨(hexB (s.getD (p + 3 + k) 0) = false∧¬ (s.getD (p + 3 + k) 0 = 125∧0 < k∧Utf8.valid n = true))∨(hexB (s.getD (p + 3 + k) 0) = true∧k = 6)),escT (s.drop p) = none := fun hn => esc_none hc h123 hI hn
    have hlow:hexI (s.getD (p + 3 + k) 0) < 0→hexB (s.getD (p + 3 + k) 0) = false := fun h => by
      cases hh:hexB (s.getD (p + 3 + k) 0) with
      | false => rfl
      | true => exact absurd h ((hexB_hexI _).1 hh)
    refine ⟨⟨fun h => by rw [decide_eq_true h,Bool.true_and],fun h => by rw [decide_eq_false h,Bool.false_and]⟩,fun ⟨h1,h2⟩ => ⟨by omega,fun h => ⟨fun hk => ⟨⟨fun a => ⟨fun b => ⟨fun c => by rw [decide_eq_true a,decide_eq_true b,decide_eq_true c]; rfl,fun c => by rw [decide_eq_true a,decide_eq_true b,decide_eq_false c]; rfl⟩,fun b => by rw [decide_eq_true a,decide_eq_false b]; rfl⟩,fun a => by rw [decide_eq_false a]; rfl⟩,fun hv => ?_,fun hv => ⟨by omega,fun hx => c0 _ (hno (.inr (.inl ⟨hlow hx,fun ⟨_,_,e⟩ => ?_⟩))),fun hx => ⟨fun k6 => c0 _ (hno (.inr (.inr ⟨(hexB_hexI _).2 hx,by omega⟩))),fun k6 => ⟨by omega,?_⟩⟩⟩⟩,fun hk => ⟨by omega,fun hx => c0 _ (hno (.inr (.inl ⟨hlow hx,fun ⟨_,e,_⟩ => hk (by omega)⟩))),fun hx => ⟨fun k6 => c0 _ (hno (.inr (.inr ⟨(hexB_hexI _).2 hx,by omega⟩))),fun k6 => ⟨by omega,?_⟩⟩⟩⟩,fun h => ⟨by omega,fun hx => c0 _ (hno (.inr (.inl ⟨hlow hx,fun ⟨e,_,_⟩ => h (k125.2 e)⟩))),fun hx => ⟨fun k6 => c0 _ (hno (.inr (.inr ⟨(hexB_hexI _).2 hx,by omega⟩))),fun k6 => ⟨by omega,?_⟩⟩⟩⟩,fun h => c0 _ (hno (.inl (by omega)))⟩
    · rw [esc_some hc h123 hI (k125.1 h) (by omega) (hval.2 hv)]
      refine ⟨?_,rfl⟩
      show n = ((n.toNat:Nat):Int)
      omega
    · have := hval.1 e
      omega
    all_goals
      obtain ⟨g1,g2,g3⟩ := esc_step hI (by omega) ((hexB_hexI _).2 hx) (by omega)
      have hle := hexI_le (s.getD (p + 3 + k) 0)
      refine ⟨(k + 1,16 * n + hexI (s.getD (p + 3 + k) 0)),g1,by simp only; omega,rfl,?_⟩
      rw [wrap_i64' (n := 16 * n) (by omega) (by omega),wrap_i64' (by omega) (by omega)]
  · have n117:((c.toNat:Int) != 117) = true := by rw [bne_iff_ne]; exact fun h => k7 ((kn c 117 (by decide)).1 h)
    have f1:((c.toNat:Int) = 110) = False := eq_false fun h => k1 ((kn c 110 (by decide)).1 h)
    have f2:((c.toNat:Int) = 116) = False := eq_false fun h => k2 ((kn c 116 (by decide)).1 h)
    have f3:((c.toNat:Int) = 114) = False := eq_false fun h => k3 ((kn c 114 (by decide)).1 h)
    have f4:((c.toNat:Int) = 92) = False := eq_false fun h => k4 ((kn c 92 (by decide)).1 h)
    have f5:((c.toNat:Int) = 39) = False := eq_false fun h => k5 ((kn c 39 (by decide)).1 h)
    have f6:((c.toNat:Int) = 34) = False := eq_false fun h => k6 ((kn c 34 (by decide)).1 h)
    have hno:escT (s.drop p) = none := by
      rw [hesc]; simp only [if_neg k1,if_neg k2,if_neg k3,if_neg (not_or.2 ⟨k4,not_or.2 ⟨k5,k6⟩⟩),if_neg k7]
    rw [hno]
    simp only [n117,f1,f2,f3,f4,f5,f6,false_implies,not_false_eq_true,forall_const,true_and,and_true,Bool.true_or,true_or,reduceCtorEq,false_and,chC,chW]
    omega
end Go.Proofs.YtfldjfpcefcjdaaGreatDoor
namespace Go.Proofs.YtfldjfpcefcjdaaGreatDoor
open Go Go.Ab
set_option maxRecDepth 100000
def conEc:Con := fun k ds S => match k with
  | 70 => match ds with
    | [.str s,.int .i64 p] => some (pC [.str s,.int .i64 p] (.tup [.int .i64 (chC (escT (s.drop p.toNat))),.int .i64 (chW (escT (s.drop p.toNat)))]) (0 ≤ p∧p < s.length∧s.length ≤ 4294967296))
    | _ => none
  | k => conHe k ds S
theorem conEc_ok:ConOk Tryz.prog conEc := by
  intro k ds S A h
  unfold conEc at h
  split at h
  · split at h
    · rename_i s p
      injection h with h; subst h
      refine pC_ok fun ⟨h1,h2,h3⟩ => ⟨weakL_refl _,?_⟩
      obtain ⟨q,rfl⟩:∃ q:Nat,p = q := ⟨p.toNat,by omega⟩
      exact resc_ok s q (by omega) h3
    · cases h
  · exact conHe_ok _ _ _ _ h
noncomputable def Ele (s:List UInt8) (p:Nat):Senv := { EC conEc 55 2 [4,5,6,7,11,20,51] (fun _ => ([],[])) with
  cut := fun id _ S => match id with
    | 5 => some { slots := [6],keep := [],α := Int,st := fun z => ([.int .i32 z],S),inv := fun z => z = ((decT (s.drop p)).1:Int),mu := fun _ => 0 }
    | _ => none }
noncomputable section
def te4q0 (p0:Nat) (p1:List UInt8):Int := chC (letT (List.drop p0 p1))
def te4q1 (p0:Nat) (p1:List UInt8):Int := chW (letT (List.drop p0 p1))
def te4q2 (p0:Nat) (p1:List UInt8):Prop := True∧∃ (_y:Unit),True∧((-1:Int) = te4q0 p0 p1∧Z0 = te4q1 p0 p1∧True)∧True∧True
def te4q3 (p0:List UInt8) (p1:Nat):Int := if (LI p0) < IntKind.wrap IntKind.i64 ((↑p1:Int) + (4:Int)) then (LI p0) else IntKind.wrap IntKind.i64 ((↑p1:Int) + (4:Int))
def te4q4 (p0:Nat) (p1:List UInt8):List Nat := runesU (List.drop (Int.toNat (↑p0:Int)) (List.take (Int.toNat (te4q3 p1 p0)) p1))
def te4q5 (p0:Nat) (p1:List UInt8):Nat := LN (te4q4 p0 p1)
def te4q6 (p0:Nat) (p1:Int):Int := IntKind.wrap IntKind.i64 ((↑p0:Int) + (LI (Array.toList (ByteArray.data (Utf8.encode p1)))))
end
theorem rletter_ok (s:List UInt8) (p:Nat) (hp:p < s.length) (hs:s.length ≤ 4294967296):ACalls Tryz.prog 53 [.str s,.int .i64 (p:Int)] ⟨[],[]⟩ (SpecR (sC [.str s,.int .i64 (p:Int)] (.tup [.int .i64 (chC (letT (s.drop p))),.int .i64 (chW (letT (s.drop p)))])) ()) := by
  refine con_of (A := sC _ _) (x := ()) (E := Ele s p) (eOk conEc_ok rfl) Tryz.func53 rfl (by kernel_rfl) rfl (by simp [sC,Ele,EC,E0]) ?_
  refine vc_eq (T :=
    side (Z0 ≤ (↑p:Int)∧(↑p:Int) < (LI s)) (ifB ((BI s (Int.toNat (↑p:Int))) == (92:Int)) ((Z0 ≤ (↑p:Int)∧(↑p:Int) < (LI s)∧LN s ≤ (4294967296:Nat))∧∀ (y:Unit),True→True∧∃ (y:Unit),True∧(chC (escT (List.drop (Int.toNat (↑p:Int)) s)) = te4q0 p s∧chW (escT (List.drop (Int.toNat (↑p:Int)) s)) = te4q1 p s∧True)∧True∧True) (side (Z0 ≤ (↑p:Int)∧(↑p:Int) < (LI s)) (ifB (decide ((BI s (Int.toNat (↑p:Int))) < (32:Int))) (te4q2 p s) (side (Z0 ≤ (↑p:Int)∧(↑p:Int) ≤ te4q3 s p∧te4q3 s p ≤ (LI s)) (side (te4q5 p s ≤ (70368744177664:Nat)) (∀ (t:Nat),side (Z0 ≤ Z0∧Z0 < (NI (te4q5 p s))) (∃ (x:Int),x = (NI (Prod.fst (decT (List.drop p s))))∧((NI (List.getD (te4q4 p s) N0 N0)) = x∧True)∧True∧True)))∧∀ (x:Int),x = (NI (Prod.fst (decT (List.drop p s))))→ifB (decide ((LI s) < te4q6 p x)) (te4q2 p s) (side (Z0 ≤ (↑p:Int)∧(↑p:Int) ≤ te4q6 p x∧te4q6 p x ≤ (LI s)) (ifB (List.drop (Int.toNat (↑p:Int)) (List.take (Int.toNat (te4q6 p x)) s) != Array.toList (ByteArray.data (Utf8.encode x))) (te4q2 p s) (True∧∃ (y:Unit),True∧(IntKind.wrap IntKind.i64 x = te4q0 p s∧(LI (Array.toList (ByteArray.data (Utf8.encode x)))) = te4q1 p s∧True)∧True∧True)))))))) (by kernel_rfl) ?_
  delta BI LI LN N0 NI U0 Z0 te4q0 te4q1 te4q2 te4q3 te4q4 te4q5 te4q6
  simp only [ne_eq,Int.toNat_natCast,ifB_iff,side_iff,decide_eq_true_eq,decide_eq_false_iff_not,true_and,and_true,beq_iff_eq,beq_eq_false_iff_ne,exists_const,forall_const]
  have hr:s.drop p ≠ [] := fun e => by
    have := List.drop_eq_nil_iff.1 e
    omega
  have hr0:(s.drop p).getD 0 0 = s.getD p 0 := by rw [gd_drop,Nat.add_zero]
  have w4:IntKind.i64.wrap ((p:Int) + 4) = ((p + 4:Nat):Int) := by rw [wrap_i64' (by omega) (by omega)]; rfl
  have hm:(if (s.length:Int) < ((p + 4:Nat):Int) then (s.length:Int) else ((p + 4:Nat):Int)) = ((min (p + 4) s.length:Nat):Int) := by split <;> omega
  have hd4:List.drop p (List.take (min (p + 4) s.length) s) = (s.drop p).take 4 := by
    rw [List.drop_take]
    by_cases h:p + 4 ≤ s.length
    · rw [Nat.min_eq_left h,show p + 4 - p = 4 by omega]
    · rw [Nat.min_eq_right (by omega),List.take_of_length_le (by rw [List.length_drop]; omega),List.take_of_length_le (by rw [List.length_drop]; omega)]
  have hu:∀ z:Int,(Utf8.encode z).data.toList = utf8 z := fun _ => rfl
  have hru:runesU ((s.drop p).take 4) = runesL ((s.drop p).take 4) := runesN_eq _ _
  simp only [w4,hm,Int.toNat_natCast,hd4,hru,hu]
  have c0:∀ o:Option (Nat × Nat),o = none→-1 = chC o∧0 = chW o := fun o h => by subst h; exact ⟨rfl,rfl⟩
  have h92:((s.getD p 0).toNat:Int) = 92↔s.getD p 0 = 92 := ⟨fun h => b_eq (n := 92) h (by decide),fun h => by rw [h]; rfl⟩
  have hL:letT (s.drop p) = (if s.getD p 0 = 92 then escT (s.drop p) else if (s.getD p 0).toNat < 32 then none else if decT (s.drop p) = (65533,1) then none else some (decT (s.drop p))) := by
    unfold letT
    rw [hr0]
  have ht4:(s.drop p).take 4 ≠ [] := fun e => by
    have := congrArg List.length e
    rw [List.length_take,List.length_drop,List.length_nil] at this
    omega
  have hln:(runesL ((s.drop p).take 4)).length ≤ 4 := Nat.le_trans (runesF_len _ _) (List.length_take_le _ _)
  have hlp:0 < (runesL ((s.drop p).take 4)).length := by
    unfold runesL
    match hl:((s.drop p).take 4).length,List.length_pos_iff.2 ht4 with
    | n + 1,_ => rw [runesF_step ht4]; exact Nat.succ_pos _
  rw [hL]
  refine ⟨by omega,fun h => ⟨by omega,by rw [if_pos (h92.1 h)]; exact ⟨rfl,rfl⟩⟩,fun h => ⟨by omega,fun h32 => c0 _ ?_,fun n32 => ⟨⟨by omega,by omega,by omega,_,rfl,?_⟩,fun x hx => ?_⟩⟩⟩
  · rw [if_neg fun e => h (h92.2 e),if_pos (by omega)]
  · rw [runes_head ht4,dec_take]
  · rw [if_neg fun e => h (h92.2 e),if_neg (by omega)]
    have hul := utf8_len x
    have wW:IntKind.i64.wrap ((p:Int) + ((utf8 x).length:Int)) = ((p + (utf8 x).length:Nat):Int) := by rw [wrap_i64' (by omega) (by omega)]; omega
    rw [wW]
    have hlr := let_ref hr
    rw [← hx,List.length_drop] at hlr
    simp only [Int.toNat_natCast,List.drop_take,Nat.add_sub_cancel_left,bne_iff_ne,ne_eq,bne_eq_false_iff_eq]
    refine ⟨fun h1 => c0 _ ?_,fun h1 => ⟨by omega,fun h2 => c0 _ ?_,fun h2 => ?_⟩⟩
    · exact if_pos (Classical.byContradiction fun e => by have := (hlr.2 e).1; omega)
    · exact if_pos (Classical.byContradiction fun e => h2 (hlr.2 e).2)
    · have he := hlr.1 ⟨by omega,h2⟩
      rw [if_neg he,hx,let_ref_eq hr he]
      have hp := dec_rune he
      unfold runeP at hp
      refine ⟨?_,rfl⟩
      rw [wrap_i64' (by omega) (by omega)]
      rfl
end Go.Proofs.YtfldjfpcefcjdaaGreatDoor
namespace Go.Proofs.YtfldjfpcefcjdaaGreatDoor
open Go Go.Ab
set_option maxRecDepth 100000
def lxO (i:Nat):Lex→Int | .error (_,o) => ((i + o:Nat):Int) | .ok _ => 0
def refO (i:Nat) (r:Lex):D := .tup [lxH i r,.int .i64 (lxE r),.int .i64 (lxO i r)]
def conLe:Con := fun k ds S => match k with
  | 53 => match ds with
    | [.str s,.int .i64 p] => some (pC [.str s,.int .i64 p] (.tup [.int .i64 (chC (letT (s.drop p.toNat))),.int .i64 (chW (letT (s.drop p.toNat)))]) (0 ≤ p∧p < s.length∧s.length ≤ 4294967296))
    | _ => none
  | k => conEc k ds S
theorem conLe_ok:ConOk Tryz.prog conLe := by
  intro k ds S A h
  unfold conLe at h
  split at h
  · split at h
    · rename_i s p
      injection h with h; subst h
      refine pC_ok fun ⟨h1,h2,h3⟩ => ⟨weakL_refl _,?_⟩
      obtain ⟨q,rfl⟩:∃ q:Nat,p = q := ⟨p.toNat,by omega⟩
      exact rletter_ok s q (by omega) h3
    · cases h
  · exact conEc_ok _ _ _ _ h
theorem end_at (s:List UInt8) (p:Nat):endT (s.drop p) = true↔s.length ≤ p∨s.getD p 0 = 10 := by
  unfold endT
  rw [Bool.or_eq_true,List.isEmpty_iff,beq_iff_eq,gd_drop,Nat.add_zero,List.drop_eq_nil_iff]
theorem end_no {s:List UInt8} {p:Nat} (h:¬ (s.length ≤ p)) (h2:s.getD p 0 ≠ 10):¬ endT (s.drop p) = true := fun e => by
  rcases (end_at s p).1 e with q | q
  · exact h q
  · exact h2 q
theorem chC_neg {o:Option (Nat × Nat)} (h:chC o < 0):o = none := by
  cases o with
  | none => rfl
  | some x => exact absurd h (by simp only [chC]; omega)
theorem chC_pos {o:Option (Nat × Nat)} (h:¬ chC o < 0):∃ c w,o = some (c,w) := by
  cases o with
  | none => exact absurd (by decide) h
  | some x => exact ⟨x.1,x.2,rfl⟩
noncomputable def Ech:Senv := EC conLe 56 2 [4,5,6,7,8,12,19,30,39,48] (fun _ => ([],[]))
noncomputable section
def te5q0 (p0:Nat):Int := IntKind.wrap IntKind.i64 ((↑p0:Int) + Z1)
def te5q1 (p0:List UInt8) (p1:Nat):Bool := (BI p0 (Int.toNat (te5q0 p1))) == (10:Int)
def te5q2 (p0:List UInt8) (p1:Nat):Bool := bif decide ((LI p0) ≤ te5q0 p1) then true else te5q1 p0 p1
def te5q3 (p0:Nat) (p1:List UInt8):Lex := charT (List.drop p0 p1)
def te5q4 (p0:Nat) (p1:List UInt8):Int := lxK (te5q3 p0 p1)
def te5q5 (p0:Nat) (p1:List UInt8):Int := lxI p0 (te5q3 p0 p1)
def te5q6 (p0:Nat) (p1:List UInt8):Int := lxL (te5q3 p0 p1)
def te5q7 (p0:Nat) (p1:List UInt8):Int := lxN (te5q3 p0 p1)
def te5q8 (p0:Nat) (p1:List UInt8):Prop := eqOf (List UInt8) [] (lxT (te5q3 p0 p1))∧True
def te5q9 (p0:Nat) (p1:List UInt8):Prop := Z0 = te5q4 p0 p1∧Z0 = te5q5 p0 p1∧Z0 = te5q6 p0 p1∧Z0 = te5q7 p0 p1∧te5q8 p0 p1
def te5q10 (p0:Nat) (p1:List UInt8):Int := lxE (te5q3 p0 p1)
def te5q11 (p0:Nat) (p1:List UInt8):Int := lxO p0 (te5q3 p0 p1)
def te5q12 (p0:Nat) (p1:List UInt8):Prop := (↑p0:Int) = te5q11 p0 p1∧True
def te5q13 (p0 p1:Nat) (p2:List UInt8):Prop := SM p0∧(SM p0∧True)∧∃ (_y:Unit),True∧(te5q9 p1 p2∧(5:Int) = te5q10 p1 p2∧te5q12 p1 p2)∧True∧True
def te5q14 (p0:Nat) (p1:List UInt8):Prop := (3:Int) = te5q10 p0 p1
def te5q15 (p0 p1:Nat) (p2:List UInt8):Prop := SM p0∧(SM p0∧True)∧∃ (_y:Unit),True∧(te5q9 p1 p2∧te5q14 p1 p2∧te5q12 p1 p2)∧True∧True
def te5q16 (p0:Nat) (p1:List UInt8):Option (Nat × Nat) := letT (List.drop (Int.toNat (te5q0 p0)) p1)
def te5q17 (p0:Nat) (p1:List UInt8):Int := chC (te5q16 p0 p1)
def te5q18 (p0:Nat) (p1:List UInt8):Int := chW (te5q16 p0 p1)
def te5q19 (p0:Nat) (p1:List UInt8):Int := IntKind.wrap IntKind.i64 (te5q0 p0 + te5q18 p0 p1)
def te5q20 (p0:List UInt8) (p1:Nat):Bool := decide ((LI p0) ≤ te5q19 p1 p0)
def te5q21 (p0:List UInt8) (p1:Nat):Int := (BI p0 (Int.toNat (te5q19 p1 p0)))
def te5q22 (p0:List UInt8) (p1:Nat):Bool := te5q21 p0 p1 == (10:Int)
def te5q23 (p0:List UInt8) (p1:Nat):Bool := bif te5q20 p0 p1 then true else te5q22 p0 p1
end
theorem rchar_ok (s:List UInt8) (i:Nat) (hi:i < s.length) (hs:s.length ≤ 4294967296):ACalls Tryz.prog 30 [.str s,.int .i64 (i:Int)] ⟨[],[]⟩ (SpecR (sC [.str s,.int .i64 (i:Int)] (refO i (charT (s.drop i)))) ()) := by
  refine con_of (A := sC _ _) (x := ()) (E := Ech) (eOk conLe_ok rfl) Tryz.func30 rfl (by kernel_rfl) rfl (by simp [sC,Ech,EC,E0]) ?_
  refine vc_eq (T :=
    ∀ (x:Nat),True→ifB (decide ((LI s) ≤ te5q0 i)) (true = te5q2 s i∧True) (side (Z0 ≤ te5q0 i∧te5q0 i < (LI s)) (te5q1 s i = te5q2 s i∧True))∧True∧ifB (te5q2 s i) (te5q13 x i s) (side (Z0 ≤ te5q0 i∧te5q0 i < (LI s)) (ifB ((BI s (Int.toNat (te5q0 i))) == (39:Int)) (te5q15 x i s) ((Z0 ≤ te5q0 i∧te5q0 i < (LI s)∧LN s ≤ (4294967296:Nat))∧∀ (y:Unit),True→ifB (decide (te5q17 i s < Z0)) (SM x∧(SM x∧True)∧∃ (y:Unit),True∧(te5q9 i s∧te5q14 i s∧te5q0 i = te5q11 i s∧True)∧True∧True) (ifB (te5q20 s i) (true = te5q23 s i∧True) (side (Z0 ≤ te5q19 i s∧te5q19 i s < (LI s)) (te5q22 s i = te5q23 s i∧True))∧True∧ifB (te5q23 s i) (te5q13 x i s) (side (Z0 ≤ te5q19 i s∧te5q19 i s < (LI s)) (ifB (te5q21 s i != (39:Int)) (te5q15 x i s) (SM x∧(SM x∧True)∧∃ (y:Unit),True∧(((2:Int) = te5q4 i s∧(↑i:Int) = te5q5 i s∧IntKind.wrap IntKind.i64 (te5q18 i s + (2:Int)) = te5q6 i s∧te5q17 i s = te5q7 i s∧te5q8 i s)∧Z0 = te5q10 i s∧Z0 = te5q11 i s∧True)∧True∧True)))))))) (by kernel_rfl) ?_
  delta BI LI LN SM U0 Z0 Z1 te5q0 te5q1 te5q10 te5q11 te5q12 te5q13 te5q14 te5q15 te5q16 te5q17 te5q18 te5q19 te5q2 te5q20 te5q21 te5q22 te5q23 te5q3 te5q4 te5q5 te5q6 te5q7 te5q8 te5q9
  simp only [eq_self,ne_eq,ifB_iff,side_iff,decide_eq_true_eq,decide_eq_false_iff_not,true_and,and_true,beq_iff_eq,Bool.cond_true_left,Bool.or_eq_true,Bool.or_eq_false_iff,beq_eq_false_iff_ne,exists_const,forall_const]
  have w1:IntKind.i64.wrap ((i:Int) + 1) = ((i + 1:Nat):Int) := by rw [wrap_i64' (by omega) (by omega)]; rfl
  have kn:∀ (b:UInt8) (n:Nat),n < 256→((b.toNat:Int) = (n:Int)↔b = UInt8.ofNat n) := fun b n hn => ⟨fun h => b_eq (n := n) h hn,fun h => by rw [h,byteN _ hn]⟩
  have k10:∀ b:UInt8,(b.toNat:Int) = 10↔b = 10 := fun b => kn b 10 (by decide)
  have k39:∀ b:UInt8,(b.toNat:Int) = 39↔b = 39 := fun b => kn b 39 (by decide)
  have hT : charT (s.drop i) = (if endT (s.drop (i + 1)) = true then .error (5, 0) else if s.getD (i + 1) 0 = 39 then .error (3, 0)
      else match letT (s.drop (i + 1)) with
        | none => .error (3,1)
        | some (c,w) => if endT (s.drop (i + 1 + w)) = true then .error (5,0) else if s.getD (i + 1 + w) 0 = 39 then .ok (2,w + 2,c,[]) else .error (3,0)) := by
    unfold charT
    simp only [List.drop_drop,gd_drop,Nat.add_zero]
    try rfl
  have er:∀ {e:Int} {o:Nat} {L:Lex},L = .error (e,o)→(0 = lxK L∧0 = lxI i L∧0 = lxL L∧0 = lxN L∧eqOf (List UInt8) [] (lxT L))∧e = lxE L∧((i + o:Nat):Int) = lxO i L := fun h => by subst h; exact ⟨⟨rfl,rfl,rfl,rfl,rfl⟩,rfl,rfl⟩
  simp only [w1,Int.toNat_natCast,k10,k39,bne_iff_ne,ne_eq,bne_eq_false_iff_eq]
  refine ⟨⟨fun h => by rw [decide_eq_true h,Bool.true_or],fun h => ⟨by omega,by rw [decide_eq_false h,Bool.false_or]⟩⟩,fun h => er (o := 0) ?_,fun ⟨h1,h2⟩ => ⟨by omega,fun h3 => er (o := 0) ?_,fun h3 => ⟨by omega,fun h4 => er (o := 1) ?_,fun h4 => ?_⟩⟩⟩
  · rw [hT,if_pos ((end_at _ _).2 (h.imp (fun h => by omega) id))]
  · rw [hT,if_neg (end_no (by omega) h2),if_pos h3]
  · rw [hT,if_neg (end_no (by omega) h2),if_neg h3,chC_neg h4]
  · obtain ⟨c,w,hl⟩ := chC_pos h4
    have hne:s.drop (i + 1) ≠ [] := fun e => by
      have := List.drop_eq_nil_iff.1 e
      omega
    obtain ⟨q1,q2⟩ := let_len hne hl
    rw [List.length_drop] at q2
    rw [hl] at hT ⊢
    have hC:chC (some (c,w)) = (c:Int) := rfl
    have hW:chW (some (c,w)) = (w:Int) := rfl
    have w2:IntKind.i64.wrap (((i + 1:Nat):Int) + (w:Int)) = ((i + 1 + w:Nat):Int) := by rw [wrap_i64' (by omega) (by omega)]; omega
    have w3:IntKind.i64.wrap ((w:Int) + 2) = ((w + 2:Nat):Int) := by rw [wrap_i64' (by omega) (by omega)]; rfl
    simp only [hC,hW,w2,w3,Int.toNat_natCast]
    simp only at hT
    rw [if_neg (end_no (by omega) h2),if_neg h3] at hT
    refine ⟨⟨fun h => by rw [decide_eq_true h,Bool.true_or],fun h => ⟨by omega,by rw [decide_eq_false h,Bool.false_or]⟩⟩,fun h => er (o := 0) ?_,fun ⟨h5,h6⟩ => ⟨by omega,fun h7 => er (o := 0) ?_,fun h7 => ?_⟩⟩
    · rw [hT,if_pos ((end_at _ _).2 (h.imp (fun h => by omega) id))]
    · rw [hT,if_neg (end_no (by omega) h6),if_neg h7]
    · rw [hT,if_neg (end_no (by omega) h6),if_pos h7]
      exact ⟨⟨rfl,rfl,rfl,rfl,rfl⟩,rfl,rfl⟩
structure SrI (s:List UInt8) (i p:Nat) (t:List UInt8):Prop where
  lo:i + 1 ≤ p
  hi:p ≤ s.length
  len:t.length ≤ 4 * p
  go:∃ n,s.length - p < n∧strGo n (s.drop p) (p - i) t = strT (s.drop i)
noncomputable def Ett (s:List UInt8) (i:Nat):Senv := { EC conLe 48 2 [4,5,6,7,8,9,10,16,20,35] (fun _ => ([],[])) with
  ann := fun b _ S => match b with
    | 0 => some { slots := [7,8],keep := [0,1,4],α := List UInt8 × Nat,st := fun y => ([.str y.1,.int .i64 y.2],S),inv := fun y => SrI s i y.2 y.1,mu := fun y => s.length - y.2 }
    | _ => none }
noncomputable section
def te5q24 (p0:Nat):Prop := (SM p0∧(SM Z0∧SM Z0∧SM Z0∧SM Z0∧eqOf (List UInt8) [] []∧True)∧True)∧True
def te5q25 (p0:List UInt8) (p1:Nat):Bool := bif decide ((LI p0) ≤ (↑p1:Int)) then true else (BI p0 (Int.toNat (↑p1:Int))) == (10:Int)
def te5q26 (p0:Nat) (p1:List UInt8):Lex := strT (List.drop p0 p1)
def te5q27 (p0:Nat) (p1:List UInt8):Int := lxK (te5q26 p0 p1)
def te5q28 (p0:Nat) (p1:List UInt8):Int := lxI p0 (te5q26 p0 p1)
def te5q29 (p0:Nat) (p1:List UInt8):Int := lxL (te5q26 p0 p1)
def te5q30 (p0:Nat) (p1:List UInt8):Prop := Z0 = lxN (te5q26 p0 p1)
def te5q31 (p0:Nat) (p1:List UInt8):List UInt8 := lxT (te5q26 p0 p1)
def te5q32 (p0:Nat) (p1:List UInt8):Int := lxE (te5q26 p0 p1)
def te5q33 (p0:Nat) (p1:List UInt8):Int := lxO p0 (te5q26 p0 p1)
def te5q34 (p0:Nat) (p1:List UInt8):Int := chC (letT (List.drop (Int.toNat (↑p0:Int)) p1))
def te5q35 (p0:Nat) (p1:List UInt8):Prop := Z0 = te5q27 p0 p1∧Z0 = te5q28 p0 p1∧Z0 = te5q29 p0 p1∧te5q30 p0 p1∧eqOf (List UInt8) [] (te5q31 p0 p1)∧True
def te5q36 (p0:Nat) (p1:List UInt8):List UInt8 := Array.toList (ByteArray.data (Utf8.encode (IntKind.wrap IntKind.i32 (te5q34 p0 p1))))
end
theorem rtext_ok (s:List UInt8) (i:Nat) (hi:i < s.length) (hs:s.length ≤ 4294967296):ACalls Tryz.prog 29 [.str s,.int .i64 (i:Int)] ⟨[],[]⟩ (SpecR (sC [.str s,.int .i64 (i:Int)] (refO i (strT (s.drop i)))) ()) := by
  refine con_of (A := sC _ _) (x := ()) (E := Ett s i) (eOk conLe_ok rfl) Tryz.func29 rfl (by kernel_rfl) rfl (by simp [sC,Ett,EC,E0]) ?_
  refine vc_eq (T :=
    ∀ (x:Nat),True→(∃ (x_1:List UInt8 × Nat),SrI s i x_1.2 x_1.1∧(eqOf (List UInt8) [] x_1.1∧IntKind.wrap IntKind.i64 ((↑i:Int) + Z1) = (NI x_1.2)∧True)∧te5q24 x)∧∀ (x_1:List UInt8 × Nat),SrI s i x_1.2 x_1.1→ifB (decide ((LI s) ≤ (NI x_1.2))) (true = te5q25 s x_1.2∧True) (side (Z0 ≤ (NI x_1.2)∧(NI x_1.2) < (LI s)) (((BI s (TN x_1.2)) == (10:Int)) = te5q25 s x_1.2∧True))∧True∧ifB (!te5q25 s x_1.2) (side (Z0 ≤ (NI x_1.2)∧(NI x_1.2) < (LI s)) (ifB ((BI s (TN x_1.2)) == (34:Int)) (SM x∧(SM x∧True)∧∃ (y:Unit),True∧(((3:Int) = te5q27 i s∧(↑i:Int) = te5q28 i s∧IntKind.wrap IntKind.i64 (IntKind.wrap IntKind.i64 ((NI x_1.2) + Z1) - (↑i:Int)) = te5q29 i s∧te5q30 i s∧x_1.1 = te5q31 i s∧True)∧Z0 = te5q32 i s∧Z0 = te5q33 i s∧True)∧True∧True) ((Z0 ≤ (NI x_1.2)∧(NI x_1.2) < (LI s)∧LN s ≤ (4294967296:Nat))∧∀ (y:Unit),True→ifB (decide (te5q34 x_1.2 s < Z0)) (SM x∧(SM x∧True)∧∃ (y:Unit),True∧(te5q35 i s∧(3:Int) = te5q32 i s∧(NI x_1.2) = te5q33 i s∧True)∧True∧True) (side (LN x_1.1 + LN (te5q36 x_1.2 s) ≤ (9223372036854775807:Nat)) ((SM (D.str s)∧SM (ZI (↑i:Int))∧SM (D.ref N0 x N0)∧True)∧∃ (y:List UInt8 × Nat),SrI s i y.2 y.1∧LN s - y.2 < LN s - x_1.2∧(x_1.1 ++ te5q36 x_1.2 s = y.1∧IntKind.wrap IntKind.i64 ((NI x_1.2) + chW (letT (List.drop (TN x_1.2) s))) = (NI y.2)∧True)∧te5q24 x))))) (SM x∧(SM x∧True)∧∃ (y:Unit),True∧(te5q35 i s∧(5:Int) = te5q32 i s∧(↑i:Int) = te5q33 i s∧True)∧True∧True)) (by kernel_rfl) ?_
  delta BI LI LN N0 NI SM TN U0 Z0 Z1 ZI te5q24 te5q25 te5q26 te5q27 te5q28 te5q29 te5q30 te5q31 te5q32 te5q33 te5q34 te5q35 te5q36
  simp only [eq_self,ne_eq,Int.toNat_natCast,ifB_iff,side_iff,decide_eq_true_eq,decide_eq_false_iff_not,true_and,and_true,beq_iff_eq,Bool.cond_true_left,beq_eq_false_iff_ne,exists_const,forall_const]
  have w1:IntKind.i64.wrap ((i:Int) + 1) = ((i + 1:Nat):Int) := by rw [wrap_i64' (by omega) (by omega)]; rfl
  have kn:∀ (b:UInt8) (n:Nat),n < 256→((b.toNat:Int) = (n:Int)↔b = UInt8.ofNat n) := fun b n hn => ⟨fun h => b_eq (n := n) h hn,fun h => by rw [h,byteN _ hn]⟩
  have k10:∀ b:UInt8,(b.toNat:Int) = 10↔b = 10 := fun b => kn b 10 (by decide)
  have k34:∀ b:UInt8,(b.toNat:Int) = 34↔b = 34 := fun b => kn b 34 (by decide)
  have er:∀ {e:Int} {o:Nat} {L:Lex},L = .error (e,o)→(0 = lxK L∧0 = lxI i L∧0 = lxL L∧0 = lxN L∧eqOf (List UInt8) [] (lxT L))∧e = lxE L∧((i + o:Nat):Int) = lxO i L := fun h => by subst h; exact ⟨⟨rfl,rfl,rfl,rfl,rfl⟩,rfl,rfl⟩
  rw [w1]
  refine ⟨⟨([],i + 1),⟨Nat.le_refl _,by simp only; omega,Nat.zero_le _,s.length - i,by simp only; omega,?_⟩,rfl,rfl⟩,?_⟩
  · unfold strT
    rw [List.length_drop,List.drop_drop,show i + 1 - i = 1 by omega]
  rintro ⟨t,p⟩ ⟨h1,h2,h3,n,h4,h5⟩
  simp only at h1 h2 h3 h4 h5 ⊢
  obtain ⟨m,rfl⟩:∃ m,n = m + 1 := ⟨n - 1,by omega⟩
  have hG : strT (s.drop i) = (if endT (s.drop p) = true then .error (5, 0) else if s.getD p 0 = 34 then .ok (3, p - i + 1, 0, t)
      else match letT (s.drop p) with
        | none => .error (3,p - i)
        | some (c,w) => strGo m (s.drop (p + w)) (p - i + w) (t ++ (Utf8.encode c).data.toList)) := by
    rw [← h5]
    simp only [strGo,List.drop_drop,gd_drop,Nat.add_zero]
    try rfl
  have hb:(!(decide ((s.length:Int) ≤ (p:Int)) || ((s.getD p 0).toNat:Int) == 10)) = false↔endT (s.drop p) = true := by
    rw [Bool.not_eq_false',Bool.or_eq_true,decide_eq_true_eq,beq_iff_eq,end_at,k10]
    exact or_congr Int.ofNat_le Iff.rfl
  have hb':(!(decide ((s.length:Int) ≤ (p:Int)) || ((s.getD p 0).toNat:Int) == 10)) = true↔¬ endT (s.drop p) = true := by
    rw [← hb]; simp only [Bool.not_eq_false]
  rw [hb,hb']
  refine ⟨⟨fun h => by rw [decide_eq_true h,Bool.true_or],fun h => ⟨by omega,by rw [decide_eq_false h,Bool.false_or]⟩⟩,fun hE => ?_,fun hE => er (o := 0) (by rw [hG,if_pos hE])⟩
  have hp:p < s.length := Classical.byContradiction fun e => hE ((end_at _ _).2 (.inl (by omega)))
  rw [if_neg hE] at hG
  refine ⟨by omega,fun h => ?_,fun h => ⟨by omega,fun hc => ?_,fun hc => ?_⟩⟩
  · rw [hG,if_pos ((k34 _).1 h)]
    have w2:IntKind.i64.wrap ((p:Int) + 1) = ((p + 1:Nat):Int) := by rw [wrap_i64' (by omega) (by omega)]; rfl
    have w3:IntKind.i64.wrap (((p + 1:Nat):Int) - (i:Int)) = ((p - i + 1:Nat):Int) := by rw [wrap_i64' (by omega) (by omega)]; omega
    rw [w2,w3]
    exact ⟨⟨rfl,rfl,rfl,rfl,rfl⟩,rfl,rfl⟩
  · rw [if_neg fun e => h ((k34 _).2 e),chC_neg hc] at hG
    obtain ⟨g1,g2,g3⟩ := er hG
    refine ⟨g1,g2,?_⟩
    rw [← g3]; omega
  · obtain ⟨c,w,hl⟩ := chC_pos hc
    have hne:s.drop p ≠ [] := fun e => by
      have := List.drop_eq_nil_iff.1 e
      omega
    obtain ⟨q1,q2⟩ := let_len hne hl
    have hr := let_rune hl
    unfold runeP at hr
    rw [List.length_drop] at q2
    rw [hl] at hG ⊢
    have hC:chC (some (c,w)) = (c:Int) := rfl
    have hW:chW (some (c,w)) = (w:Int) := rfl
    have w2:IntKind.i64.wrap ((p:Int) + (w:Int)) = ((p + w:Nat):Int) := by rw [wrap_i64' (by omega) (by omega)]; omega
    have w3:IntKind.i32.wrap (c:Int) = (c:Int) := Go.Ab.wrap_small (k := .i32) rfl (by simp only [IntKind.bits]; omega) (by simp only [IntKind.bits]; omega)
    rw [hC,hW,w2,w3]
    rw [if_neg fun e => h ((k34 _).2 e)] at hG
    simp only at hG
    have hu4:(Utf8.encode (c:Int)).data.toList.length ≤ 4 := utf8_len c
    refine ⟨by omega,(t ++ (Utf8.encode (c:Int)).data.toList,p + w),⟨by simp only; omega,by simp only; omega,?_,m,by simp only; omega,?_⟩,by simp only; omega,rfl,rfl⟩
    · simp only [List.length_append]; omega
    · simp only
      rw [hG,show p + w - i = p - i + w by omega]
end Go.Proofs.YtfldjfpcefcjdaaGreatDoor
namespace Go.Proofs.YtfldjfpcefcjdaaGreatDoor
open Go Go.Ab
set_option maxRecDepth 100000
def lxX (i:Nat) (c:UInt8):Lex→Int | .error (_,o) => ((i + o:Nat):Int) | .ok _ => if c = 34∨c = 39∨c = 10∨c = 59 then 0 else (i:Int)
def refX (i:Nat) (c:UInt8) (r:Lex):D := .tup [lxH i r,.int .i64 (lxE r),.int .i64 (lxX i c r)]
def conNx:Con := fun k ds S => match k with
  | 33 => match ds with
    | [.str s,.int .i64 p] => some (pC [.str s,.int .i64 p] (refD p.toNat (numT (s.drop p.toNat))) (0 ≤ p∧p < s.length∧s.length ≤ 4294967296))
    | _ => none
  | 35 => match ds with
    | [.str s,.int .i64 p] => some (pC [.str s,.int .i64 p] (refD p.toNat (wordT (s.drop p.toNat))) (0 ≤ p∧p < s.length∧alp (s.getD p.toNat 0) = true∧s.length ≤ 4294967296))
    | _ => none
  | 31 => match ds with
    | [.str s,.int .i64 p] => some (pC [.str s,.int .i64 p] (refD p.toNat (symT (s.drop p.toNat))) (0 ≤ p∧p < s.length∧s.length ≤ 4294967296))
    | _ => none
  | 30 => match ds with
    | [.str s,.int .i64 p] => some (pC [.str s,.int .i64 p] (refO p.toNat (charT (s.drop p.toNat))) (0 ≤ p∧p < s.length∧s.length ≤ 4294967296))
    | _ => none
  | 29 => match ds with
    | [.str s,.int .i64 p] => some (pC [.str s,.int .i64 p] (refO p.toNat (strT (s.drop p.toNat))) (0 ≤ p∧p < s.length∧s.length ≤ 4294967296))
    | _ => none
  | k => conLe k ds S
theorem conNx_ok:ConOk Tryz.prog conNx := by
  intro k ds S A h
  unfold conNx at h
  split at h
  · split at h
    · rename_i s p
      injection h with h; subst h
      refine pC_ok fun ⟨h1,h2,h3⟩ => ⟨weakL_refl _,?_⟩
      obtain ⟨q,rfl⟩:∃ q:Nat,p = q := ⟨p.toNat,by omega⟩
      exact rnum_ok s q _ (by omega) rfl h3
    · cases h
  · split at h
    · rename_i s p
      injection h with h; subst h
      refine pC_ok fun ⟨h1,h2,h4,h3⟩ => ⟨weakL_refl _,?_⟩
      obtain ⟨q,rfl⟩:∃ q:Nat,p = q := ⟨p.toNat,by omega⟩
      exact rword_ok s q (by omega) h4 h3
    · cases h
  · split at h
    · rename_i s p
      injection h with h; subst h
      refine pC_ok fun ⟨h1,h2,h3⟩ => ⟨weakL_refl _,?_⟩
      obtain ⟨q,rfl⟩:∃ q:Nat,p = q := ⟨p.toNat,by omega⟩
      exact rsym_ok s q (by omega) h3
    · cases h
  · split at h
    · rename_i s p
      injection h with h; subst h
      refine pC_ok fun ⟨h1,h2,h3⟩ => ⟨weakL_refl _,?_⟩
      obtain ⟨q,rfl⟩:∃ q:Nat,p = q := ⟨p.toNat,by omega⟩
      exact rchar_ok s q (by omega) h3
    · cases h
  · split at h
    · rename_i s p
      injection h with h; subst h
      refine pC_ok fun ⟨h1,h2,h3⟩ => ⟨weakL_refl _,?_⟩
      obtain ⟨q,rfl⟩:∃ q:Nat,p = q := ⟨p.toNat,by omega⟩
      exact rtext_ok s q (by omega) h3
    · cases h
  · exact conLe_ok _ _ _ _ h
theorem lxX_lit {i:Nat} {c:UInt8} (h:c = 34∨c = 39∨c = 10∨c = 59) (T:Lex):lxO i T = lxX i c T := by
  cases T with
  | error x => rfl
  | ok x => simp only [lxO,lxX,if_pos h]
theorem lxX_i {i:Nat} {c:UInt8} {T:Lex} (h:¬ (c = 34∨c = 39∨c = 10∨c = 59)) (h0:∀ (e:Int) (o:Nat),T = .error (e,o)→o = 0):(i:Int) = lxX i c T := by
  cases T with
  | error x =>
    obtain ⟨e,o⟩ := x
    rw [h0 e o rfl]; rfl
  | ok x => simp only [lxX,if_neg h]
theorem num_off {r:List UInt8} (e:Int) (o:Nat) (h:numT r = .error (e,o)):o = 0 := by
  unfold numT at h
  simp only at h
  repeat' split at h
  all_goals first
    | (injection h with h; injection h with _ h; exact h.symm)
    | cases h
theorem word_off {r:List UInt8} (e:Int) (o:Nat) (h:wordT r = .error (e,o)):o = 0 := by
  unfold wordT at h
  simp only at h
  repeat' split at h
  all_goals first
    | (injection h with h; injection h with _ h; exact h.symm)
    | cases h
theorem sym_off {r:List UInt8} (e:Int) (o:Nat) (h:symT r = .error (e,o)):o = 0 := by
  unfold symT at h
  repeat' split at h
  all_goals first
    | (injection h with h; injection h with _ h; exact h.symm)
    | cases h
theorem dig_alp {b:UInt8} (h:dig b = true):alp b = false := by
  have h1 := (dig_iff b).1 h
  cases ha:alp b with
  | false => rfl
  | true => have := (alp_iff b).1 ha; omega
noncomputable def Enx:Senv := EC conNx 66 2 [4,5,6,7,8,9,14,22,34,48,56] (fun _ => ([],[]))
noncomputable section
def te6q0 (p0:Nat):Nat := Int.toNat (↑p0:Int)
def te6q1 (p0:List UInt8) (p1:Nat):Int := (BI p0 (te6q0 p1))
def te6q2 (p0:Nat) (p1:List UInt8):Prop := Z0 ≤ (↑p0:Int)∧(↑p0:Int) < (LI p1)∧LN p1 ≤ (4294967296:Nat)
def te6q3 (p0:Nat) (p1:List UInt8):List UInt8 := List.drop (te6q0 p0) p1
def te6q4 (p0:Nat) (p1:List UInt8):Lex := strT (te6q3 p0 p1)
def te6q5 (p0:Nat) (p1:List UInt8):Lex := lexT (List.drop p0 p1)
def te6q6 (p0:Nat) (p1:List UInt8):Int := lxK (te6q5 p0 p1)
def te6q7 (p0:Nat) (p1:List UInt8):Int := lxI p0 (te6q5 p0 p1)
def te6q8 (p0:Nat) (p1:List UInt8):Int := lxL (te6q5 p0 p1)
def te6q9 (p0:Nat) (p1:List UInt8):Int := lxN (te6q5 p0 p1)
def te6q10 (p0:Nat) (p1:List UInt8):List UInt8 := lxT (te6q5 p0 p1)
def te6q11 (p0:Nat) (p1:List UInt8):Int := lxE (te6q5 p0 p1)
def te6q12 (p0:Nat) (p1:List UInt8):Int := lxX p0 (List.getD p1 p0 U0) (te6q5 p0 p1)
def te6q13 (p0:Nat) (p1:List UInt8):Lex := charT (te6q3 p0 p1)
def te6q14 (p0:List UInt8) (p1:Nat):Bool := bif te6q1 p0 p1 == (10:Int) then true else te6q1 p0 p1 == (59:Int)
def te6q15 (p0:List UInt8) (p1:Nat):Prop := Z0 ≤ te6q1 p0 p1∧te6q1 p0 p1 < (256:Int)
def te6q16 (p0:List UInt8) (p1:Nat):Bool := alp (UInt8.ofNat (Int.toNat (te6q1 p0 p1)))
def te6q17 (p0:Nat) (p1:List UInt8):Lex := wordT (te6q3 p0 p1)
def te6q18 (p0:Nat) (p1:List UInt8):Prop := (↑p0:Int) = te6q12 p0 p1∧True
def te6q19 (p0:Nat) (p1:List UInt8) (p2 p3:Nat):Prop := (Z0 ≤ (↑p0:Int)∧(↑p0:Int) < (LI p1)∧alp (List.getD p1 (te6q0 p0) U0) = true∧LN p1 ≤ (4294967296:Nat))∧∀ (_y:Unit),True→SM p2∧SM p2∧SM p3∧(SM p3∧True)∧∃ (_y:Unit),True∧((lxK (te6q17 p0 p1) = te6q6 p0 p1∧lxI (te6q0 p0) (te6q17 p0 p1) = te6q7 p0 p1∧lxL (te6q17 p0 p1) = te6q8 p0 p1∧lxN (te6q17 p0 p1) = te6q9 p0 p1∧lxT (te6q17 p0 p1) = te6q10 p0 p1∧True)∧lxE (te6q17 p0 p1) = te6q11 p0 p1∧te6q18 p0 p1)∧True∧True
def te6q20 (p0:Nat) (p1:List UInt8):Lex := numT (te6q3 p0 p1)
def te6q21 (p0:Nat) (p1:List UInt8) (p2 p3:Nat):Prop := te6q2 p0 p1∧∀ (_y:Unit),True→SM p2∧te6q15 p1 p0∧∀ (_y:Unit),True→ifB (te6q16 p1 p0) (te6q19 p0 p1 p2 p3) (SM p2∧SM p3∧(SM p3∧True)∧∃ (_y:Unit),True∧((lxK (te6q20 p0 p1) = te6q6 p0 p1∧lxI (te6q0 p0) (te6q20 p0 p1) = te6q7 p0 p1∧lxL (te6q20 p0 p1) = te6q8 p0 p1∧lxN (te6q20 p0 p1) = te6q9 p0 p1∧lxT (te6q20 p0 p1) = te6q10 p0 p1∧True)∧lxE (te6q20 p0 p1) = te6q11 p0 p1∧te6q18 p0 p1)∧True∧True)
def te6q22 (p0:Nat) (p1:List UInt8):Lex := symT (te6q3 p0 p1)
end
theorem rnext_ok (s:List UInt8) (i:Nat) (hi:i < s.length) (hs:s.length ≤ 4294967296):ACalls Tryz.prog 14 [.str s,.int .i64 (i:Int)] ⟨[],[]⟩ (SpecR (sC [.str s,.int .i64 (i:Int)] (refX i (s.getD i 0) (lexT (s.drop i)))) ()) := by
  refine con_of (A := sC _ _) (x := ()) (E := Enx) (eOk conNx_ok rfl) Tryz.func14 rfl (by kernel_rfl) rfl (by simp [sC,Enx,EC,E0]) ?_
  refine vc_eq (T :=
    ∀ (x:Nat),True→side (Z0 ≤ (↑i:Int)∧(↑i:Int) < (LI s)) (ifB (te6q1 s i == (34:Int)) (te6q2 i s∧∀ (y:Unit),True→SM x∧(SM x∧True)∧∃ (y:Unit),True∧((lxK (te6q4 i s) = te6q6 i s∧lxI (te6q0 i) (te6q4 i s) = te6q7 i s∧lxL (te6q4 i s) = te6q8 i s∧lxN (te6q4 i s) = te6q9 i s∧lxT (te6q4 i s) = te6q10 i s∧True)∧lxE (te6q4 i s) = te6q11 i s∧lxO (te6q0 i) (te6q4 i s) = te6q12 i s∧True)∧True∧True) (ifB (te6q1 s i == (39:Int)) (te6q2 i s∧∀ (y:Unit),True→SM x∧(SM x∧True)∧∃ (y:Unit),True∧((lxK (te6q13 i s) = te6q6 i s∧lxI (te6q0 i) (te6q13 i s) = te6q7 i s∧lxL (te6q13 i s) = te6q8 i s∧lxN (te6q13 i s) = te6q9 i s∧lxT (te6q13 i s) = te6q10 i s∧True)∧lxE (te6q13 i s) = te6q11 i s∧lxO (te6q0 i) (te6q13 i s) = te6q12 i s∧True)∧True∧True) (ifB (te6q1 s i == (10:Int)) (true = te6q14 s i∧True) ((te6q1 s i == (59:Int)) = te6q14 s i∧True)∧ifB (te6q14 s i) (SM x∧(SM x∧True)∧∃ (y:Unit),True∧(((6:Int) = te6q6 i s∧(↑i:Int) = te6q7 i s∧Z1 = te6q8 i s∧Z0 = te6q9 i s∧eqOf (List UInt8) [] (te6q10 i s)∧True)∧Z0 = te6q11 i s∧Z0 = te6q12 i s∧True)∧True∧True) (te6q2 i s∧∀ (y:Unit),True→∀ (x_1:Nat),x ≠ x_1∧True→SM x_1∧ifB (te6q1 s i == (95:Int)) (te6q21 i s x_1 x) (te6q15 s i∧∀ (y:Unit),True→ifB (dig (UInt8.ofNat (Int.toNat (te6q1 s i)))) (te6q21 i s x_1 x) (te6q15 s i∧∀ (y:Unit),True→ifB (te6q16 s i) (te6q19 i s x_1 x) (SM x_1∧SM x∧(SM x∧True)∧∃ (y:Unit),True∧((lxK (te6q22 i s) = te6q6 i s∧lxI (te6q0 i) (te6q22 i s) = te6q7 i s∧lxL (te6q22 i s) = te6q8 i s∧lxN (te6q22 i s) = te6q9 i s∧lxT (te6q22 i s) = te6q10 i s∧True)∧lxE (te6q22 i s) = te6q11 i s∧te6q18 i s)∧True∧True)))))))) (by kernel_rfl) ?_
  delta BI LI LN SM U0 Z0 Z1 te6q0 te6q1 te6q10 te6q11 te6q12 te6q13 te6q14 te6q15 te6q16 te6q17 te6q18 te6q19 te6q2 te6q20 te6q21 te6q22 te6q3 te6q4 te6q5 te6q6 te6q7 te6q8 te6q9
  simp only [eq_self,ne_eq,Int.toNat_natCast,ifB_iff,side_iff,true_and,and_true,beq_iff_eq,Bool.cond_true_left,Bool.or_eq_true,Bool.or_eq_false_iff,beq_eq_false_iff_ne,exists_const,forall_const]
  have kn:∀ (b:UInt8) (n:Nat),n < 256→((b.toNat:Int) = (n:Int)↔b = UInt8.ofNat n) := fun b n hn => ⟨fun h => b_eq (n := n) h hn,fun h => by rw [h,byteN _ hn]⟩
  have k34:∀ b:UInt8,(b.toNat:Int) = 34↔b = 34 := fun b => kn b 34 (by decide)
  have k39:∀ b:UInt8,(b.toNat:Int) = 39↔b = 39 := fun b => kn b 39 (by decide)
  have k10:∀ b:UInt8,(b.toNat:Int) = 10↔b = 10 := fun b => kn b 10 (by decide)
  have k59:∀ b:UInt8,(b.toNat:Int) = 59↔b = 59 := fun b => kn b 59 (by decide)
  have k95:∀ b:UInt8,(b.toNat:Int) = 95↔b = 95 := fun b => kn b 95 (by decide)
  have hob:∀ b:UInt8,UInt8.ofNat b.toNat = b := fun b => by simp
  have hL : lexT (s.drop i) = (if s.getD i 0 = 10 ∨ s.getD i 0 = 59 then .ok (6, 1, 0, []) else if (dig (s.getD i 0) || s.getD i 0 == 95) = true then numT (s.drop i) else if alp (s.getD i 0) = true then wordT (s.drop i)
      else if s.getD i 0 = 34 then strT (s.drop i) else if s.getD i 0 = 39 then charT (s.drop i) else symT (s.drop i)) := by
    unfold lexT
    simp only [gd_drop,Nat.add_zero]
  have hlt8 := (s.getD i 0).toNat_lt
  simp only [k34,k39,k10,k59,k95,hob]
  generalize s.getD i 0 = c at *
  have hsame:∀ (T:Lex),lexT (s.drop i) = T→(lxK T = lxK (lexT (s.drop i))∧lxI i T = lxI i (lexT (s.drop i))∧lxL T = lxL (lexT (s.drop i))∧lxN T = lxN (lexT (s.drop i))∧lxT T = lxT (lexT (s.drop i)))∧lxE T = lxE (lexT (s.drop i)) := fun T h => by rw [h]; exact ⟨⟨rfl,rfl,rfl,rfl,rfl⟩,rfl⟩
  have hlit:∀ (T:Lex),lexT (s.drop i) = T→(c = 34∨c = 39∨c = 10∨c = 59)→lxO i T = lxX i c (lexT (s.drop i)) := fun T h hc => by rw [h]; exact lxX_lit hc T
  intro x
  refine ⟨by omega,fun h => ⟨by omega,?_⟩,fun h34 => ⟨fun h => ⟨by omega,?_⟩,fun h39 => ⟨⟨fun h => by rw [beq_iff_eq.2 ((k10 _).2 h),Bool.true_or],fun h => by rw [beq_eq_false_iff_ne.2 fun e => h ((k10 _).1 e),Bool.false_or]⟩,fun h => ?_,fun ⟨h10,h59⟩ => ⟨by omega,fun _ _ => ?_⟩⟩⟩⟩
  · have hT:lexT (s.drop i) = strT (s.drop i) := by rw [hL,h]; rfl
    exact ⟨(hsame _ hT).1,(hsame _ hT).2,hlit _ hT (.inl h)⟩
  · have hT:lexT (s.drop i) = charT (s.drop i) := by rw [hL,h]; rfl
    exact ⟨(hsame _ hT).1,(hsame _ hT).2,hlit _ hT (.inr (.inl h))⟩
  · rw [hL,if_pos h]
    refine ⟨⟨rfl,rfl,rfl,rfl,rfl⟩,rfl,?_⟩
    exact lxX_lit (i := i) (.inr (.inr h)) (.ok (6,1,0,[]))
  have hn:¬ (c = 34∨c = 39∨c = 10∨c = 59) := by
    rintro (q | q | q | q)
    · exact h34 q
    · exact h39 q
    · exact h10 q
    · exact h59 q
  rw [if_neg (not_or.2 ⟨h10,h59⟩)] at hL
  have hnum:(dig c || c == 95) = true→(lxK (numT (s.drop i)) = lxK (lexT (s.drop i))∧lxI i (numT (s.drop i)) = lxI i (lexT (s.drop i))∧lxL (numT (s.drop i)) = lxL (lexT (s.drop i))∧lxN (numT (s.drop i)) = lxN (lexT (s.drop i))∧lxT (numT (s.drop i)) = lxT (lexT (s.drop i)))∧lxE (numT (s.drop i)) = lxE (lexT (s.drop i))∧(i:Int) = lxX i c (lexT (s.drop i)) := fun h => by
    rw [if_pos h] at hL
    exact ⟨(hsame _ hL).1,(hsame _ hL).2,by rw [hL]; exact lxX_i hn num_off⟩
  have hword:dig c = false→c ≠ 95→alp c = true→(lxK (wordT (s.drop i)) = lxK (lexT (s.drop i))∧lxI i (wordT (s.drop i)) = lxI i (lexT (s.drop i))∧lxL (wordT (s.drop i)) = lxL (lexT (s.drop i))∧lxN (wordT (s.drop i)) = lxN (lexT (s.drop i))∧lxT (wordT (s.drop i)) = lxT (lexT (s.drop i)))∧lxE (wordT (s.drop i)) = lxE (lexT (s.drop i))∧(i:Int) = lxX i c (lexT (s.drop i)) := fun hd h95 h => by
    rw [if_neg (by rw [hd,beq_eq_false_iff_ne.2 h95]; decide),if_pos h] at hL
    exact ⟨(hsame _ hL).1,(hsame _ hL).2,by rw [hL]; exact lxX_i hn word_off⟩
  refine ⟨fun h95 => ⟨by omega,by omega,fun ha => ?_,fun ha => hnum (by rw [h95]; rfl)⟩,fun h95 => ⟨by omega,fun hd => ⟨by omega,by omega,fun ha => ?_,fun ha => hnum (by rw [hd]; rfl)⟩,fun hd => ⟨by omega,fun ha => ⟨⟨by omega,by omega,ha,hs⟩,hword hd h95 ha⟩,fun ha => ?_⟩⟩⟩
  · rw [h95] at ha; exact absurd ha (by decide)
  · rw [dig_alp hd] at ha; exact absurd ha (by decide)
  · rw [if_neg (by rw [hd,beq_eq_false_iff_ne.2 h95]; decide),if_neg (by rw [ha]; decide),if_neg h34,if_neg h39] at hL
    exact ⟨(hsame _ hL).1,(hsame _ hL).2,by rw [hL]; exact lxX_i hn sym_off⟩
end Go.Proofs.YtfldjfpcefcjdaaGreatDoor
namespace Go.Proofs.YtfldjfpcefcjdaaGreatDoor
open Go Go.Ab
set_option maxRecDepth 100000
def conRs:Con := fun k ds S => match k with
  | 14 => match ds with
    | [.str s,.int .i64 p] => some (pC [.str s,.int .i64 p] (refX p.toNat (s.getD p.toNat 0) (lexT (s.drop p.toNat))) (0 ≤ p∧p < s.length∧s.length ≤ 4294967296))
    | _ => none
  | k => conNx k ds S
theorem conRs_ok:ConOk Tryz.prog conRs := by
  intro k ds S A h
  unfold conRs at h
  split at h
  · split at h
    · rename_i s p
      injection h with h; subst h
      refine pC_ok fun ⟨h1,h2,h3⟩ => ⟨weakL_refl _,?_⟩
      obtain ⟨q,rfl⟩:∃ q:Nat,p = q := ⟨p.toNat,by omega⟩
      exact rnext_ok s q (by omega) h3
    · cases h
  · exact conNx_ok _ _ _ _ h
theorem drop_hd {s:List UInt8} {p:Nat} (h:p < s.length):s.drop p = s.getD p 0 :: s.drop (p + 1) := by
  rw [List.getD_eq_getElem?_getD,List.getElem?_eq_getElem h]; exact List.drop_eq_getElem_cons h
theorem skF_blank {s:List UInt8} {p:Nat} (h:p < s.length) (hb:blank (s.getD p 0) = true):skipM false (s.drop p) = skipM false (s.drop (p + 1)) + 1 := by
  rw [drop_hd h]; simp only [skipM,if_pos hb]
theorem skT_step {s:List UInt8} {p:Nat} (h:p < s.length) (hb:s.getD p 0 ≠ 10):skipM true (s.drop p) = skipM true (s.drop (p + 1)) + 1 := by
  rw [drop_hd h]; simp only [skipM,if_neg hb]
theorem skF_hash {s:List UInt8} {p:Nat} (h:p < s.length) (hb:s.getD p 0 = 35):skipM false (s.drop p) = skipM true (s.drop p) := by
  rw [skT_step h (by rw [hb]; decide),drop_hd h,hb]
  simp only [skipM]
  rw [if_neg (by decide),if_pos trivial]
theorem sk_end {s:List UInt8} {p:Nat} (h:s.length ≤ p∨s.getD p 0 = 10):skipM true (s.drop p) = 0∧skipM false (s.drop p) = 0 := by
  by_cases hp:p < s.length
  · have h10:s.getD p 0 = 10 := by
      rcases h with h | h
      · omega
      · exact h
    rw [drop_hd hp,h10]
    exact ⟨rfl,rfl⟩
  · rw [List.drop_eq_nil_of_le (by omega)]
    exact ⟨rfl,rfl⟩
theorem skF_no {s:List UInt8} {p:Nat} (h:p < s.length) (hb:blank (s.getD p 0) = false) (h35:s.getD p 0 ≠ 35):skipM false (s.drop p) = 0 := by
  rw [drop_hd h]
  simp only [skipM]
  rw [if_neg (by rw [hb]; decide),if_neg h35]
def scF (s:List UInt8) (n:Nat) (l:List Tok) (x:Nat):Except (Int × Nat) (List Tok) :=
  if s.drop x = [] then .ok l else match lexT (s.drop x) with
    | .error (e,o) => .error (e,x + o)
    | .ok (kd,len,num,text) => if l.length = 16384 then .error (21,x) else scanGo n (s.drop (x + len)) (x + len) (l ++ [⟨kd,(x:Int),len,num,text⟩])
theorem scF_eq (s:List UInt8) (n:Nat) (l:List Tok) (p:Nat):scanGo (n + 1) (s.drop p) p l = scF s n l (p + skipM false (s.drop p)) := by
  simp only [scanGo,List.drop_drop,scF,Int.natCast_add]
  try rfl
theorem sc_to {s:List UInt8} {p q:Nat} {l:List Tok} (h:ScI s p l) (h1:p ≤ q) (h2:q ≤ s.length) (hk:p + skipM false (s.drop p) = q + skipM false (s.drop q)):ScI s q l := by
  obtain ⟨i1,i2,n,i3,i4⟩ := h
  obtain ⟨n,rfl⟩:∃ k,n = k + 1 := ⟨n - 1,by omega⟩
  refine ⟨h2,i2,n + 1,by omega,?_⟩
  rw [← i4,scF_eq,scF_eq,hk]
def CmI (s:List UInt8) (i j:Nat):Prop := i ≤ j∧j ≤ s.length∧j + skipM true (s.drop j) = i + skipM true (s.drop i)
def annCm (s:List UInt8) (d:D) (S:St):Option LoopAnn :=
  match d with
  | .int _ z => some { slots := [5],keep := [0,1,3,4],α := Nat,st := fun j => ([.int .i64 j],S),inv := fun j => CmI s z.toNat j,mu := fun j => s.length - j }
  | _ => none
noncomputable def Ers (s:List UInt8):Senv := { EC conRs 72 1 [2,3,4,5,6,7,8,11,16,32,38,42,53,59] (fun _ => ([],[])) with
  gh := fun b => match b with
    | 0 => [.slot 500004]
    | _ => []
  ann := fun b env S => match b with
    | 0 => some { slots := [5,4],keep := [0,1,3],α := Nat × List Tok × Nat,st := fun y => ([.int .i64 y.1,tsl y.2.1 (.tok 0 y.2.2)],⟨S.objs,[(0,y.2.2)]⟩),inv := fun y => ScI s y.1 y.2.1,mu := fun y => s.length - y.1 }
    | 2 => annCm s (Ab.look env 5) S
    | _ => none }
noncomputable section
def te7q0:D := D.sl N1 N0 (fun (_x:Nat) => []) Mode.nil
def te7q1:List D := [te7q0,te7q0,D.str []]
def te7q2:List D := ZI Z0 :: te7q1
def te7q3 (p0:List UInt8):D := rawD (scanT p0)
def te7q4 (p0:List UInt8) (p1:Nat) (p2:List Tok):Prop := ScI p0 p1 p2
def te7q5 (p0:List Tok) (p1:Nat):List D := Tok.row (List.getD p0 p1 (Tok.mk Z0 Z0 Z0 Z0 []))
def te7q6:Prop := SM N0∧(∀ (i:Nat),i < N0→eqOf (List D) [] [])∧True
def te7q7 (p0:Nat):Prop := SM p0∧(SM Z0∧SM Z0∧te7q6∧te7q6∧eqOf (List UInt8) [] []∧True)∧True
def te7q8 (p0 p1 p2:Nat):Prop := te7q7 p0∧p1 = p2∧True
def te7q9 (p0:List UInt8) (p1:Nat):Int := (BI p0 (Int.toNat (↑p1:Int)))
def te7q10 (p0:List UInt8) (p1:Nat):Bool := bif bif te7q9 p0 p1 == (32:Int) then true else te7q9 p0 p1 == (9:Int) then true else te7q9 p0 p1 == (13:Int)
def te7q11 (p0:List UInt8) (p1:Nat):Prop := true = te7q10 p0 p1∧True
def te7q12 (p0:List UInt8) (p1:Nat):Prop := SM (D.str p0)∧SM D.unk∧SM (D.ref N0 p1 N0)∧True
def te7q13 (p0 p1:List Tok) (p2 p3:Nat):Prop := (LN p0 = LN p1∧(∀ (i:Nat),i < LN p0→te7q5 p0 i = te7q5 p1 i)∧p2 = p3)∧True
def te7q14 (p0:List UInt8) (p1 p2:Nat):Prop := CmI p0 (Int.toNat (↑p1:Int)) p2
def te7q15 (p0 p1:Nat):Prop := te7q7 p0∧SM p1∧True
def te7q16 (p0:List UInt8) (p1:Nat):Bool := bif decide ((LI p0) ≤ (↑p1:Int)) then true else te7q9 p0 p1 == (10:Int)
def te7q17 (p0:List Tok) (p1:Nat):D := D.sl (5:Nat) (LN p0) (fun (i:Nat) => te7q5 p0 i) (Mode.tok N0 p1)
def te7q18 (p0:Nat) (p1:List UInt8):Lex := lexT (List.drop (Int.toNat (↑p0:Int)) p1)
def te7q19 (p0:Nat) (p1:List UInt8):Int := lxE (te7q18 p0 p1)
def te7q20 (p0:Nat) (p1:List UInt8):Int := lxL (te7q18 p0 p1)
end
theorem rscan_raw (s:List UInt8) (hs:s.length ≤ 140737488355328):ACalls Tryz.prog 6 [.str s] ⟨[],[]⟩ (SpecR (sC [.str s] (rawD (scanT s))) ()) := by
  refine con_of (A := sC _ _) (x := ()) (E := Ers s) (eOk conRs_ok rfl) Tryz.func6 rfl (by kernel_rfl) rfl (by simp [sC,Ers,EC,E0]) ?_
  refine vc_eq (T :=
    ∀ (x:Nat),True→ifB (decide ((65536:Int) < (LI s))) (SM x∧(SM x∧True)∧∃ (y:Unit),True∧weakD (D.tup [te7q0,D.agg (ZI (2:Int) :: te7q2)]) (te7q3 s)∧True∧True) (∀ (t:Nat),(∃ (x_1:Nat × List Tok × Nat),te7q4 s x_1.1 x_1.2.1∧(Z0 = (NI x_1.1)∧(N0 = LN x_1.2.1∧(∀ (i:Nat),i < N0→eqOf (List D) [] (te7q5 x_1.2.1 i))∧t = x_1.2.2)∧True)∧te7q8 x t x_1.2.2)∧∀ (x_1:Nat × List Tok × Nat),te7q4 s x_1.1 x_1.2.1→ifB (decide ((NI x_1.1) < (LI s))) (side (Z0 ≤ (NI x_1.1)∧(NI x_1.1) < (LI s)) (ifB (te7q9 s x_1.1 == (32:Int)) (te7q11 s x_1.1) (side (Z0 ≤ (NI x_1.1)∧(NI x_1.1) < (LI s)) (ifB (te7q9 s x_1.1 == (9:Int)) (te7q11 s x_1.1) (side (Z0 ≤ (NI x_1.1)∧(NI x_1.1) < (LI s)) ((te7q9 s x_1.1 == (13:Int)) = te7q10 s x_1.1∧True)))))∧ifB (te7q10 s x_1.1) (te7q12 s x∧∃ (y:Nat × List Tok × Nat),te7q4 s y.1 y.2.1∧LN s - y.1 < LN s - x_1.1∧(IntKind.wrap IntKind.i64 ((NI x_1.1) + Z1) = (NI y.1)∧te7q13 x_1.2.1 y.2.1 x_1.2.2 y.2.2)∧te7q8 x x_1.2.2 y.2.2) (side (Z0 ≤ (NI x_1.1)∧(NI x_1.1) < (LI s)) (ifB (te7q9 s x_1.1 == (35:Int)) ((∃ (x_2:Nat),te7q14 s x_1.1 x_2∧((NI x_1.1) = (↑x_2:Int)∧True)∧te7q15 x x_1.2.2)∧∀ (x_2:Nat),te7q14 s x_1.1 x_2→ifB (decide ((LI s) ≤ (↑x_2:Int))) (true = te7q16 s x_2∧True) (side (Z0 ≤ (↑x_2:Int)∧(↑x_2:Int) < (LI s)) ((te7q9 s x_2 == (10:Int)) = te7q16 s x_2∧True))∧True∧ifB (!te7q16 s x_2) ((SM (D.str s)∧SM D.unk∧SM (D.ref N0 x N0)∧SM (te7q17 x_1.2.1 x_1.2.2)∧True)∧∃ (y:Nat),te7q14 s x_1.1 y∧LN s - y < LN s - x_2∧(IntKind.wrap IntKind.i64 ((↑x_2:Int) + Z1) = (↑y:Int)∧True)∧te7q15 x x_1.2.2) (te7q12 s x∧∃ (y:Nat × List Tok × Nat),te7q4 s y.1 y.2.1∧LN s - y.1 < LN s - x_1.1∧((↑x_2:Int) = (NI y.1)∧te7q13 x_1.2.1 y.2.1 x_1.2.2 y.2.2)∧te7q8 x x_1.2.2 y.2.2)) ((Z0 ≤ (NI x_1.1)∧(NI x_1.1) < (LI s)∧LN s ≤ (4294967296:Nat))∧∀ (y:Unit),True→∀ (x_2:Nat),x ≠ x_2∧True→SM x_2∧ifB (te7q19 x_1.1 s != Z0) (SM x∧(SM x∧True)∧∃ (y:Unit),True∧weakD (D.tup [te7q0,D.agg (ZI (te7q19 x_1.1 s) :: ZI (lxX (TN x_1.1) (List.getD s (TN x_1.1) U0) (te7q18 x_1.1 s)) :: te7q1)]) (te7q3 s)∧True∧True) (ifB ((LI x_1.2.1) == (16384:Int)) (SM x∧(SM x∧True)∧∃ (y:Unit),True∧weakD (D.tup [te7q0,D.agg (ZI (21:Int) :: ZI (NI x_1.1) :: te7q1)]) (te7q3 s)∧True∧True) (SM x_2∧SM x_1.2.2∧side ((LN x_1.2.1 + N1) * (48:Nat) ≤ (140737488355328:Nat)∧LN x_1.2.1 + N1 ≤ (9223372036854775807:Nat)) (∀ (t:Nat),SM x_2∧te7q12 s x∧∃ (y:Nat × List Tok × Nat),te7q4 s y.1 y.2.1∧LN s - y.1 < LN s - x_1.1∧(IntKind.wrap IntKind.i64 ((NI x_1.1) + te7q20 x_1.1 s) = (NI y.1)∧(LN x_1.2.1 + N1 = LN y.2.1∧(∀ (i:Nat),i < LN x_1.2.1 + N1→appF (LN x_1.2.1) (fun (i:Nat) => te7q5 x_1.2.1 i) (fun (i:Nat) => List.getD [[ZI (lxK (te7q18 x_1.1 s)),ZI (lxI (TN x_1.1) (te7q18 x_1.1 s)),ZI (te7q20 x_1.1 s),ZI (lxN (te7q18 x_1.1 s)),D.str (lxT (te7q18 x_1.1 s))]] i []) i = te7q5 y.2.1 i)∧t = y.2.2)∧True)∧te7q8 x t y.2.2))))))) (SM x∧(SM x∧True)∧∃ (y:Unit),True∧weakD (D.tup [te7q17 x_1.2.1 x_1.2.2,D.agg (ZI Z0 :: te7q2)]) (te7q3 s)∧True∧True))) (by kernel_rfl) ?_
  delta BI LI LN N0 N1 NI SM TN U0 Z0 Z1 ZI te7q0 te7q1 te7q10 te7q11 te7q12 te7q13 te7q14 te7q15 te7q16 te7q17 te7q18 te7q19 te7q2 te7q20 te7q3 te7q4 te7q5 te7q6 te7q7 te7q8 te7q9
  simp only [eq_self,ne_eq,implies_true,Int.toNat_natCast,ifB_iff,side_iff,decide_eq_true_eq,decide_eq_false_iff_not,true_and,and_true,beq_iff_eq,Bool.cond_true_left,Bool.or_eq_true,Bool.or_eq_false_iff,beq_eq_false_iff_ne,exists_const,forall_const]
  have dt:(default:Tok) = { kind := 0,at_ := 0,len := 0,num := 0,text := [] } := rfl
  simp only [← dt]
  have kn:∀ (b:UInt8) (n:Nat),n < 256→((b.toNat:Int) = (n:Int)↔b = UInt8.ofNat n) := fun b n hn => ⟨fun h => b_eq (n := n) h hn,fun h => by rw [h,byteN _ hn]⟩
  have k32:∀ b:UInt8,(b.toNat:Int) = 32↔b = 32 := fun b => kn b 32 (by decide)
  have k9:∀ b:UInt8,(b.toNat:Int) = 9↔b = 9 := fun b => kn b 9 (by decide)
  have k13:∀ b:UInt8,(b.toNat:Int) = 13↔b = 13 := fun b => kn b 13 (by decide)
  have k10:∀ b:UInt8,(b.toNat:Int) = 10↔b = 10 := fun b => kn b 10 (by decide)
  have k35:∀ b:UInt8,(b.toNat:Int) = 35↔b = 35 := fun b => kn b 35 (by decide)
  intro x
  refine ⟨fun h => ?_,fun h t => ⟨⟨(0,[],t),⟨Nat.zero_le _,Nat.zero_le _,s.length + 1,by simp only; omega,?_⟩,⟨rfl,rfl,fun i hi => absurd hi (by omega),rfl⟩,rfl⟩,?_⟩⟩
  · unfold scanT
    rw [if_pos (by omega)]
    exact weakD_refl _
  · unfold scanT
    rw [if_neg (by omega)]
    rfl
  rintro ⟨p,l,t1⟩ hI
  simp only at hI ⊢
  obtain ⟨i1,i2,n,i3,i4⟩ := id hI
  obtain ⟨n,rfl⟩:∃ k,n = k + 1 := ⟨n - 1,by omega⟩
  refine ⟨fun hp => ⟨⟨by omega,fun h => by rw [beq_iff_eq.2 h]; rfl,fun h => ⟨by omega,fun h' => by rw [beq_iff_eq.2 h',Bool.or_true]; rfl,fun h' => ⟨by omega,by rw [beq_eq_false_iff_ne.2 h,beq_eq_false_iff_ne.2 h']; rfl⟩⟩⟩,fun hb => ?_,fun ⟨⟨n32,n9⟩,n13⟩ => ⟨by omega,fun h35 => ?_,fun h35 => ⟨by omega,fun x2 _ => ?_⟩⟩⟩,fun hp => ?_⟩
  · have hbl:blank (s.getD p 0) = true := by
      unfold blank
      rcases hb with (h | h) | h
      · rw [(k32 _).1 h]; rfl
      · rw [(k9 _).1 h]; rfl
      · rw [(k13 _).1 h]; rfl
    have hk := skF_blank (by omega) hbl
    exact ⟨(p + 1,l,t1),sc_to hI (by omega) (by simp only; omega) (by simp only; omega),by simp only; omega,⟨by rw [wrap_i64' (by omega) (by omega)]; rfl,rfl,fun _ _ => rfl,rfl⟩,rfl⟩
  · have h35 := (k35 _).1 h35
    refine ⟨⟨p,⟨Nat.le_refl _,i1,rfl⟩,rfl⟩,fun j ⟨c1,c2,c3⟩ => ⟨⟨fun h => by rw [decide_eq_true h,Bool.true_or],fun h => ⟨by omega,by rw [decide_eq_false h,Bool.false_or]⟩⟩,fun h => ?_,fun h => ?_⟩⟩
    · simp only [Bool.not_eq_true',Bool.or_eq_false_iff,decide_eq_false_iff_not,beq_eq_false_iff_ne,ne_eq,k10] at h
      have hk := skT_step (by omega) h.2
      exact ⟨j + 1,⟨by omega,by omega,by omega⟩,by omega,by rw [wrap_i64' (by omega) (by omega)]; rfl⟩
    · simp only [Bool.not_eq_false',Bool.or_eq_true,decide_eq_true_eq,beq_iff_eq,k10] at h
      obtain ⟨e1,e2⟩ := sk_end (s := s) (p := j) (h.imp (fun h => by omega) id)
      have hk := skF_hash (by omega) h35
      have hlt:p < j := by
        by_cases hj:p < j
        · exact hj
        · have e:j = p := by omega
          subst e
          have := skT_step (s := s) (p := j) (by omega) (by rw [h35]; decide)
          omega
      exact ⟨(j,l,t1),sc_to hI (by omega) c2 (by simp only; omega),by simp only; omega,⟨rfl,rfl,fun _ _ => rfl,rfl⟩,rfl⟩
  · have hbl:blank (s.getD p 0) = false := by
      unfold blank
      rw [beq_eq_false_iff_ne.2 fun e => n32 ((k32 _).2 e),beq_eq_false_iff_ne.2 fun e => n9 ((k9 _).2 e),beq_eq_false_iff_ne.2 fun e => n13 ((k13 _).2 e)]; rfl
    have hk := skF_no (by omega) hbl fun e => h35 ((k35 _).2 e)
    rw [scF_eq,hk,Nat.add_zero] at i4
    unfold scF at i4
    have hne:s.drop p ≠ [] := fun e => by have := List.drop_eq_nil_iff.1 e; omega
    rw [if_neg hne] at i4
    have hlen := lex_len hne
    have herr:∀ (e:Int) (o:Nat),lexT (s.drop p) = .error (e,o)→e ≠ 0 := fun e o h => lex_err h
    revert hlen herr i4
    generalize lexT (s.drop p) = r
    intro i4 hlen herr
    match r,i4,hlen,herr with
    | .error (e,o),i4,_,herr =>
      have he:e ≠ 0 := herr e o rfl
      have hb:(lxE (.error (e,o)) != 0) = true := by simpa [lxE] using he
      refine ⟨fun _ => ?_,fun h => by rw [hb] at h; exact Bool.noConfusion h⟩
      rw [← i4]
      exact weakD_refl _
    | .ok (kd,len,num,text),i4,hlen,_ =>
      refine ⟨fun h => Bool.noConfusion h,fun _ => ⟨fun h => ?_,fun h => ⟨by omega,fun t2 => ?_⟩⟩⟩
      · have h:l.length = 16384 := by omega
        simp only [if_pos h] at i4
        rw [← i4]
        exact weakD_refl _
      · have h:¬ l.length = 16384 := by omega
        simp only [if_neg h] at i4
        have hlen:1 ≤ len∧len ≤ (s.drop p).length := hlen
        rw [List.length_drop] at hlen
        refine ⟨(p + len,l ++ [⟨kd,(p:Int),len,num,text⟩],t2),⟨by simp only; omega,by simp only [List.length_append,List.length_cons,List.length_nil]; omega,n,by simp only; omega,i4⟩,by simp only; omega,⟨?_,?_,?_,rfl⟩,rfl⟩
        · have e:lxL (.ok (kd,len,num,text)) = (len:Int) := rfl
          rw [e,wrap_i64' (by omega) (by omega)]
          simp only
          omega
        · simp
        · intro i hi
          simp only [appF]
          by_cases hl:i < l.length
          · rw [if_pos hl]
            simp [List.getD_eq_getElem?_getD,List.getElem?_append_left hl]
          · have e:i = l.length := by omega
            subst e
            rw [if_neg hl,Nat.sub_self]
            simp [List.getD_eq_getElem?_getD,Tok.row,lxK,lxL,lxN,lxT,lxI]
  · have hnil:s.drop p = [] := List.drop_eq_nil_of_le (by omega)
    have e0:skipM false (s.drop p) = 0 := (sk_end (.inl (by omega))).2
    rw [scF_eq,e0,Nat.add_zero] at i4
    unfold scF at i4
    rw [if_pos hnil] at i4
    rw [← i4]
    exact ⟨chk_iff.2 ⟨rfl,rfl,fun _ _ => rfl,trivial⟩,weakD_refl _,trivial⟩
theorem rscan_ok (s:List UInt8) (hs:s.length ≤ 140737488355328):ACalls Tryz.prog 6 [.str s] ⟨[],[]⟩ (SpecR (sC [.str s] (scanD (scanT s))) ()) := by
  have h := rscan_raw s hs
  cases hr:scanT s with
  | error z =>
    obtain ⟨e,a⟩ := z
    rw [hr] at h
    refine sC_tup (ds' := [tsl [] .any,fltD e (a:Int)]) ?_ h
    simp only [wkL]
    refine ⟨?_,wkD_refl _,trivial⟩
    unfold nilS tsl
    simp only [wkD]
    exact chk_iff.2 ⟨rfl,rfl,fun i hi => absurd hi (by simp),trivial⟩
  | ok l =>
    rw [hr] at h
    exact h
end Go.Proofs.YtfldjfpcefcjdaaGreatDoor
namespace Go.Proofs.YtfldjfpcefcjdaaGreatDoor
open Go Go.Ab
set_option maxRecDepth 100000
def sameL (a b:List Tok):Bool := decide (a = b)
def conSx:Con := fun k ds S => match k with
  | 6 => match ds with
    | [.str s] => some (pC [.str s] (scanD (scanT s)) (s.length ≤ 140737488355328))
    | _ => none
  | 7 => match ds with
    | [.sl 5 n f m,.sl 5 n' f' m'] => some (pC [.sl 5 n f m,.sl 5 n' f' m'] (.bool (sameL (toksOf n f) (toksOf n' f'))) (toksB n f = true∧toksB n' f' = true∧n ≤ 140737488355328∧n' ≤ 140737488355328))
    | _ => none
  | k => conLx k ds S
theorem conSx_ok:ConOk Tryz.prog conSx := by
  intro k ds S A h
  unfold conSx at h
  split at h
  · split at h
    · injection h with h; subst h
      exact pC_ok fun h => ⟨weakL_refl _,rscan_ok _ h⟩
    · cases h
  · split at h
    · injection h with h; subst h
      exact pC_ok fun ⟨h1,h2,h3,h4⟩ => ⟨weakL_refl _,sC_weak (us := [tsl (toksOf _ _) .any,tsl (toksOf _ _) .any]) ⟨tsl_weak h1,tsl_weak h2,trivial⟩ (same_ok _ _ (by rw [tlen]; exact h3) (by rw [tlen]; exact h4))⟩
    · cases h
  · exact conLx_ok _ _ _ _ h
theorem scanGo_cap:∀ (n:Nat) (r:List UInt8) (p:Nat) (l m:List Tok),l.length ≤ 16384→scanGo n r p l = .ok m→m.length ≤ 16384
  | 0,r,p,l,m,hl,h => by
    simp only [scanGo] at h
    injection h with h
    subst h; exact hl
  | n + 1,r,p,l,m,hl,h => by
    simp only [scanGo] at h
    split at h
    · injection h with h
      subst h; exact hl
    · split at h
      · cases h
      · split at h
        · cases h
        · exact scanGo_cap n _ _ _ m (by rw [List.length_append,List.length_cons,List.length_nil]; omega) h
noncomputable def Els:Senv := EC conSx 32 1 [2,3,4,5,6,9] (fun _ => ([],[]))
noncomputable section
def te8q0:Prop := ∃ (_x:Unit),True∧(True∧True)∧True∧∀ (_y:Unit),True→True∧∃ (_y:Unit),True∧SM true∧True∧True
def te8q1 (p0:List UInt8):List Tok := scL (scanT p0)
def te8q2 (p0:List UInt8):Nat := LN (te8q1 p0)
def te8q3 (p0:List UInt8) (p1:Nat):List D := Tok.row (List.getD (te8q1 p0) p1 (Tok.mk Z0 Z0 Z0 Z0 []))
def te8q4 (p0:List UInt8):Prop := (toksB (te8q2 p0) fun (i:Nat) => te8q3 p0 i) = true
def te8q5 (p0:List UInt8):Prop := te8q2 p0 ≤ (140737488355328:Nat)
def te8q6 (p0:List UInt8):List Tok := toksOf (te8q2 p0) fun (i:Nat) => te8q3 p0 i
def te8q7 (p0:List UInt8):Int := scE (scanT p0)
def te8q8 (p0:List UInt8):Int := scA (scanT p0)
def te8q9:Prop := SM N0∧(∀ (i:Nat),i < N0→eqOf (List D) [] [])∧True
def te8q10 (p0:List UInt8):Prop := SM (te8q7 p0)∧SM (te8q8 p0)∧te8q9∧te8q9∧eqOf (List UInt8) [] []∧True
def te8q11:Prop := True∧∃ (_y:Unit),True∧false = true∧True∧True
end
theorem law_scans (s:List UInt8) (hs:s.length ≤ maxB):ACalls Tryz.prog 3 [.str s] ⟨[],[]⟩ (SpecR (sC [.str s] (.bool true)) ()) := by
  refine con_of (A := sC _ _) (x := ()) (E := Els) (eOk conSx_ok rfl) Tryz.func3 rfl (by kernel_rfl) rfl (by simp [sC,Els,EC,E0]) ?_
  refine vc_eq (T :=
    ifB (decide ((2000:Int) < (LI s))) te8q0 (LN s ≤ (140737488355328:Nat)∧∀ (y:Unit),True→∀ (x:Nat),True→SM x∧LN s ≤ (140737488355328:Nat)∧∀ (y:Unit),True→∀ (x_1:Nat),x ≠ x_1∧True→SM x_1∧(te8q4 s∧te8q4 s∧te8q5 s∧te8q5 s)∧∀ (y:Unit),True→ifB (sameL (te8q6 s) (te8q6 s)) (SM x∧SM x_1∧(te8q10 s∧te8q10 s∧True)∧∀ (y:Unit),True→ifB (te8q7 s == te8q7 s && te8q8 s == te8q8 s) te8q0 te8q11) te8q11)) (by kernel_rfl) ?_
  delta LI LN N0 SM Z0 te8q0 te8q1 te8q10 te8q11 te8q2 te8q3 te8q4 te8q5 te8q6 te8q7 te8q8 te8q9
  simp only [eq_self,ne_eq,implies_true,ifB_iff,decide_eq_true_eq,decide_eq_false_iff_not,true_and,and_true,beq_iff_eq,Bool.and_eq_true,Bool.and_eq_false_iff,beq_eq_false_iff_ne,exists_const,forall_const]
  have dt:(default:Tok) = { kind := 0,at_ := 0,len := 0,num := 0,text := [] } := rfl
  simp only [← dt]
  have et:∀ l:List Tok,toksOf l.length (fun i => (l.getD i default).row) = l := fun l => toksOf_eq rfl fun _ _ => rfl
  have eb:∀ l:List Tok,toksB l.length (fun i => (l.getD i default).row) = true := fun l => toksB_eq (l := l) rfl fun _ _ => rfl
  simp only [et,eb]
  unfold maxB at hs
  have hsm:∀ l:List Tok,sameL l l = true := fun l => decide_eq_true rfl
  simp only [hsm]
  have hcap:(scL (scanT s)).length ≤ 140737488355328 := by
    cases hz:scanT s with
    | error e => exact Nat.zero_le _
    | ok m =>
      unfold scanT at hz
      split at hz
      · cases hz
      · have := scanGo_cap _ _ _ _ _ (Nat.zero_le _) hz
        simp only [scL]
        omega
  exact fun h => ⟨by omega,fun x => ⟨by omega,fun y _ => ⟨⟨trivial,trivial,hcap,hcap⟩,fun _ h => by rcases h with h | h <;> exact (h trivial).elim,fun h => Bool.noConfusion h⟩⟩⟩
end Go.Proofs.YtfldjfpcefcjdaaGreatDoor
namespace Go.Proofs.YtfldjfpcefcjdaaGreatDoor
open Go Go.Ab Go.RowKit Go.Lib Go.Shelf
set_option maxRecDepth 100000
theorem own:ownKnob Tryz.prog.godebug = none := by kernel_rfl
theorem laid:laidOutB Tryz.prog = true := by kernel_rfl
theorem gN0 : Tryz.prog.globalNamed "internal/strconv.uint64pow10" = some 4 := by kernel_rfl
theorem tN0:(Tryz.prog.globals[4]?).map (·.type) = some 128 := by kernel_rfl
theorem gN1 : Tryz.prog.globalNamed "math/bits.deBruijn64tab" = some 8 := by kernel_rfl
theorem tN1:(Tryz.prog.globals[8]?).map (·.type) = some 144 := by kernel_rfl
theorem gN2 : Tryz.prog.globalNamed "math/bits.deBruijn32tab" = some 7 := by kernel_rfl
theorem tN2:(Tryz.prog.globals[7]?).map (·.type) = some 143 := by kernel_rfl
theorem u8x:U8Extra Tryz.prog Tryz.lays260_ren := ⟨by kernel_rfl,by kernel_rfl,by kernel_rfl,by kernel_rfl,by kernel_rfl,by kernel_rfl,by kernel_rfl⟩
theorem csx:CaseExtra Tryz.prog Tryz.lays204_ren := ⟨by kernel_rfl,by kernel_rfl,by kernel_rfl,by kernel_rfl,by kernel_rfl,by kernel_rfl⟩
def laidA : List (String × DataW Unit) := [("math/bits.deBruijn32tab", Rows.laid_math_bits_deBruijn32tab), ("math/bits.deBruijn64tab", Rows.laid_math_bits_deBruijn64tab), ("internal/strconv.uint64pow10", Rows.laid_internal_strconv_uint64pow10), ("unicode/utf8.acceptRanges", Rows.laid_unicode_utf8_acceptRanges)]
def laidB : List (String × DataW Unit) := [("strconv.ErrRange", Rows.laid_strconv_ErrRange), ("strconv.ErrSyntax", Rows.laid_strconv_ErrSyntax)]
def laidL : List (String × DataW Unit) := [("math/bits.deBruijn32tab", Rows.laid_math_bits_deBruijn32tab), ("math/bits.deBruijn64tab", Rows.laid_math_bits_deBruijn64tab), ("internal/strconv.uint64pow10", Rows.laid_internal_strconv_uint64pow10), ("unicode/utf8.acceptRanges", Rows.laid_unicode_utf8_acceptRanges), ("strconv.ErrRange", Rows.laid_strconv_ErrRange), ("strconv.ErrSyntax", Rows.laid_strconv_ErrSyntax), ("unicode.CaseRanges", Rows.laid_unicode_CaseRanges), ("unicode/utf8.first", Rows.laid_unicode_utf8_first)]
theorem first_eq:Rows.laid_unicode_utf8_first = firstData := Pinned.utf8First_eq
theorem case_eq:Rows.laid_unicode_CaseRanges = caseData := Pinned.caseRanges_eq
theorem accept_eq:(Rows.laid_unicode_utf8_acceptRanges:DataW Unit) = acceptData := by kernel_rfl
theorem g0_laid {W:World} (h:laidMetH Tryz.prog laidL W):G0 W := by
  have h0:laidMet Tryz.prog laidL W := h
  have m1 : ("unicode/utf8.first", firstData) ∈ laidL := by rw [← first_eq]; simp [laidL]
  have m2 : ("unicode/utf8.acceptRanges", acceptData) ∈ laidL := by rw [← accept_eq]; simp [laidL]
  have hT:Lib.Utf8Tabs (Tryz.lays260_ren.g 3) (Tryz.lays260_ren.g 4) W := utf8Tabs_of_readsT (U8Types.of260 Tryz.lays260) u8x (laidMet.reads h0 m1) (laidMet.reads h0 m2)
  have h1 := laidMet.tail h0
  have h2 := laidMet.tail h1
  exact ⟨Lib.tabIs_of_head gN0 tN0 Tryz.underlying128 Tryz.underlying97 (by kernel_rfl) (by kernel_rfl) h2,
    Lib.tabIs_of_head gN1 tN1 Tryz.underlying144 Tryz.underlying5 (by kernel_rfl) (by kernel_rfl) h1,
    Lib.tabIs_of_head gN2 tN2 Tryz.underlying143 Tryz.underlying5 (by kernel_rfl) (by kernel_rfl) h0,hT⟩
noncomputable def layT (l:Array Value):Obj→Obj
  | .cells _ t frozen => .cells l t frozen
  | o => o
noncomputable abbrev nOld:Nat := (World.settled Tryz.prog default).heap.size
noncomputable def laidWorld (os:Os):World :=
  let N := (World.settled Tryz.prog os).heap.size
  let w0 := World.holding Tryz.prog os ⟨#[.cells Lib.caseCells5 134,.cells #[.string ⟨#[118,97,108,117,101,32,111,117,116,32,111,102,32,114,97,110,103,101]⟩] 142,.cells #[.string ⟨#[105,110,118,97,108,105,100,32,115,121,110,116,97,120]⟩] 142],#[],[]⟩
  let h1 := w0.heap.modify 0 (layT (Lib.firstTab.map fun z => Value.int .u8 z).toArray)
  let h2 := h1.modify 1 (layT ((List.range 16).flatMap fun i => [Value.int .u8 (Lib.accLo i),Value.int .u8 (Lib.accHi i)]).toArray)
  let h3 := h2.modify 3 (layT #[.slice (some ⟨N,0,none⟩) 336 336])
  let h4 := h3.modify 4 (layT (Lib.pow10Tab.map fun z => Value.int .u64 z).toArray)
  let h5 := h4.modify 5 (layT #[.iface 140 (.pointer (some ⟨N + 2,0,none⟩))])
  let h6 := h5.modify 6 (layT #[.iface 140 (.pointer (some ⟨N + 1,0,none⟩))])
  let h7 := h6.modify 7 (layT (Lib.deBruijn32tab.map fun z => Value.int .u8 (Int.ofNat z)).toArray)
  let h8 := h7.modify 8 (layT (Lib.deBruijn64tab.map fun z => Value.int .u8 (Int.ofNat z)).toArray)
  { w0 with heap := h8 }
theorem case_in {w : World} (R : Nat) (hvar : w.heap[3]? = some (.cells #[.slice (some ⟨R, 0, none⟩) 336 336] 110 (0, 0))) (hblk : w.heap[R]? = some (.cells Lib.caseCells5 134 (0, 0))) (hR : ([3, R] : List Nat).Nodup) : LaidIn Tryz.prog w [("unicode.CaseRanges", caseData)] [3, R] := by
  have hT := caseTab_of_block hblk
  have hs:caseA.size = 336 := caseA_size
  have hread := case_slice_reads { Tryz.lays204 with } Tryz.underlying131 csx hT caseA_wf (by rw [hs]; unfold maxLen; omega) 0
  rw [case_rows_data,hs] at hread
  have hv : w.var? Tryz.prog "unicode.CaseRanges" = some #[.slice (some ⟨R, 0, none⟩) 336 336] := by
    unfold World.var?
    have e:Tryz.lays204_ren.g 13 = 3 := rfl
    rw [csx.n13,Option.bind_some,e]
    simp only [hvar]
  have hshape:MemPlace.row ⟨3,0,none⟩ (#[Value.slice (some ⟨R,0,none⟩) 336 336]:Array Value).size ++ MemPlace.row ⟨R,0,none⟩ (336 * 5) = ([((⟨3,0,none⟩:Addr),1),(⟨R,0,none⟩,336 * 5)]:List (Addr × Nat)).flatMap (fun r => MemPlace.row r.1 r.2) := by simp
  refine LaidIn.one (g := 3) _ csx.n13 csx.y13 hv hread ?_ ?_ ?_
  · rw [hshape]
    exact rows_nodup _ hR
  · rw [hshape]
    intro b off hp
    simp only [List.flatMap_cons,List.flatMap_nil,List.append_nil,List.mem_append] at hp
    rcases hp with hp | hp
    · obtain ⟨i,hi,e'⟩ := MemPlace.mem_row.1 hp
      cases e'
      refine ⟨⟨_,_,hvar⟩,fun u v hc' => ?_⟩
      obtain rfl:i = 0 := by omega
      rw [Lib.cell_of_heap hvar] at hc'
      simp at hc'
    · obtain ⟨i,hi,e'⟩ := MemPlace.mem_row.1 hp
      cases e'
      refine ⟨⟨_,_,hblk⟩,fun u v hc' => ?_⟩
      exfalso
      obtain ⟨c0,c1,c2,c3,c4⟩ := hT (i / 5) (by rw [hs]; omega)
      rcases (by omega:i % 5 = 0∨i % 5 = 1∨i % 5 = 2∨i % 5 = 3∨i % 5 = 4) with h | h | h | h | h
      · rw [show 0 + i = 0 + i / 5 * 5 by omega,c0] at hc'; cases hc'
      · rw [show 0 + i = 0 + i / 5 * 5 + 1 by omega,c1] at hc'; cases hc'
      · rw [show 0 + i = 0 + i / 5 * 5 + 2 by omega,c2] at hc'; cases hc'
      · rw [show 0 + i = 0 + i / 5 * 5 + 3 by omega,c3] at hc'; cases hc'
      · rw [show 0 + i = 0 + i / 5 * 5 + 4 by omega,c4] at hc'; cases hc'
  · rw [hshape]
    exact rows_block _
theorem laid_metA (os:Os) (args:Array Value):laidMet Tryz.prog laidL ((laidWorld os).forCall (fun _ _ => 0) ⟨#[],args,[]⟩).memory := by
  have pA:LaidIn Tryz.prog ((laidWorld os).forCall (fun _ _ => 0) ⟨#[],args,[]⟩).memory laidA [7,8,4,1] := LaidIn.of_run [7,8,4,1] 8 (by kernel_rfl) (by kernel_rfl) (by kernel_rfl) (by kernel_rfl)
  have pB:LaidIn Tryz.prog ((laidWorld os).forCall (fun _ _ => 0) ⟨#[],args,[]⟩).memory laidB [6,nOld + 1,5,nOld + 2] := LaidIn.of_run [6,nOld + 1,5,nOld + 2] 8 (by kernel_rfl) (by kernel_rfl) (by kernel_rfl) (by kernel_rfl)
  have pC : LaidIn Tryz.prog ((laidWorld os).forCall (fun _ _ => 0) ⟨#[], args, []⟩).memory [("unicode.CaseRanges", caseData)] [3, nOld] := case_in nOld (by kernel_rfl) (by kernel_rfl) (of_decide_eq_true (by kernel_rfl))
  have pD : LaidIn Tryz.prog ((laidWorld os).forCall (fun _ _ => 0) ⟨#[], args, []⟩).memory [("unicode/utf8.first", firstData)] [0] := LaidIn.of_run [0] 8 (by kernel_rfl) (by kernel_rfl) (by kernel_rfl) (by kernel_rfl)
  have h := (((pA.append pB (by kernel_rfl)).append pC (by kernel_rfl)).append pD (by kernel_rfl)).met
  rw [← first_eq,← case_eq] at h
  exact h
end Go.Proofs.YtfldjfpcefcjdaaGreatDoor
namespace Go.Proofs.YtfldjfpcefcjdaaGreatDoor
open Go Go.Ab Go.RowKit
set_option maxRecDepth 100000
noncomputable def wit1:Array Value := #[.string ⟨#[]⟩]
theorem laid_met1 (os:Os):laidMet Tryz.prog laidL ((laidWorld os).forCall (fun _ _ => 0) ⟨#[],wit1,[]⟩).memory :=
  laid_metA os wit1
theorem reads1 (os:Os) {H:Type} (enc:TypeId × Value→H):∃ x,DataW.whole enc Tryz.prog ((laidWorld os).forCall (fun _ _ => 0) ⟨#[],wit1,[]⟩).memory [9] [] false (wit1).toList 8 = some x :=
  Option.isSome_iff_exists.1 (by kernel_rfl)
theorem contract1 {H : Type} {enc : TypeId × Value → H}
    (W:World) (base:Nat) (args:Array Value) (ds gs:List (DataW H)) (before:List MemPlace)
    (hval:∀ (j:Nat) t v,Tryz.f3.params[j]? = some t→args[j]? = some v→Value.okWide Tryz.prog W .any base t v)
    (hW:DataW.Whole enc Tryz.prog Tryz.f3.params.toList Rows.tokenScansSpec.vars false W args.toList ds gs before)
    (hsz:(DataW.weightsEach Tryz.prog (Tryz.f3.params.toList ++ Rows.tokenScansSpec.plain.varTypes Tryz.prog) (ds ++ gs)).all (· ≤ reachBytes) = true) (hL:laidMetH Tryz.prog laidL W) :
    Calls Tryz.prog 3 args W fun e W' => ∃ v,e = .returned v∧Rows.tokenScansSpec.post enc Tryz.prog Tryz.f3 false true false false W args v W' := by
  refine law_contract (rs := [(9,RStr)]) laid (by rw [Tryz.params3]; kernel_rfl) rfl (fun ds hd => ?_) (rt := 4) rfl Tryz.underlying4 (by rw [Tryz.params3]; rfl) ?_ W (g0_laid hL) base args ds gs before hval hW hsz ?_
  · rw [Tryz.params3] at hd
    match ds,hd with
    | [_],_ => exact ⟨rfl,rfl,rfl⟩
  · intro r hr
    simp only [List.mem_cons,List.not_mem_nil,or_false] at hr
    subst hr
    exact read_string Tryz.underlying9
  · intro Ds h
    obtain ⟨dx,_,rfl,hx,h⟩ := h.flat (by kernel_rfl)
    obtain rfl := h.nil
    obtain ⟨x,ex,hokx⟩ := hx
    injection ex with ex _
    subst ex
    exact (law_scans x hokx).mono fun r S' ⟨_,_,hr,_⟩ => hr
theorem lifted1 (os : Os) (started : os.Started) (H : Type) (enc : TypeId × Value → H) (F : Stop.Interp) :
    ReturnsInHanded {} Tryz.checked os 3 .any ((OpenSpec.ofChange Rows.tokenScansSpec).preRow enc Tryz.prog Tryz.f3 Rows.tokenScansRow.domain false Rows.tokenScansRow.laid) (((OpenSpec.ofChange Rows.tokenScansSpec).at F).post enc Tryz.prog Tryz.f3 false true false false) := by
  obtain ⟨x,hx⟩ := reads1 os enc
  refine returnsInHanded_of_row (C := Tryz.checked) (s := OpenSpec.ofChange Rows.tokenScansSpec) own started (by kernel_rfl) Tryz.func3
    (witness_row_atRef (enc := enc) (C := Tryz.checked) false (laidWorld os) wit1 rfl (by kernel_rfl) (by kernel_rfl) (by kernel_rfl)
      (OpenSpec.preRow_of_cond 8 hx rfl (fun k hk => by cases hk) (by kernel_rfl) (laid_met1 os))) ?_
  intro W base args ds gs before hval hW _ _ hsz hL _ _
  exact contract1 W base args ds gs before hval hW hsz hL
theorem said1:Rows.TokenScansSaid :=
  OpenClaim.holds_of_cond 3 Tryz.f3 rfl rfl rfl rfl rfl rfl rfl ⟨rfl,rfl,rfl,rfl,rfl⟩ rfl rfl rfl rfl rfl (by kernel_rfl) Tryz.func3 (by kernel_rfl)
    (of_decide_eq_true (by kernel_rfl)) (by unfold Func.isWrapper; first | (rw [if_pos (by decide +kernel)]; kernel_rfl) | (rw [if_neg (by decide +kernel)]; exact ⟨rfl,rfl⟩))
    (fun os started H enc _ F => by rw [OpenClaim.pre_eq_preRow]; exact lifted1 os started H enc F)
theorem plain1 (f : FuncId) (fn : Func) (hf : Tryz.pinned.checked.prog.funcNamed "arraylang/arraylanglaw08.TokenScans" = some f) (hfn : Tryz.pinned.checked.prog.funcs[f]? = some fn) :
    true = Tryz.pinned.checked.prog.looks []∧∀ (j:Nat) t,fn.params[j]? = some t→Tryz.pinned.checked.prog.wantsStandIn t = false := by
  obtain rfl : f = 3 := Option.some.inj ((show Tryz.prog.funcNamed "arraylang/arraylanglaw08.TokenScans" = some 3 by kernel_rfl).symm.trans hf) |>.symm
  obtain rfl:fn = Tryz.f3 := (Option.some.inj (Tryz.func3.symm.trans hfn)).symm
  refine ⟨by kernel_rfl,fun j t ht => ?_⟩
  rw [Tryz.params3] at ht
  have hm:t ∈ [9] := by simpa using Array.mem_of_getElem? ht
  simp only [List.mem_cons,List.not_mem_nil,or_false] at hm
  subst hm
  exact (show Tryz.prog.wantsStandIn 9 = false by kernel_rfl)
theorem provedTokenScans:Rows.TokenScansCardSaid :=
  Claim7.holds_tied_plain_at .later [] _ _ _ _ said1 (fun _ h => by cases h) (by kernel_rfl) (fun _ h => by cases h) tokenScans_row_tie rfl ⟨rfl,rfl⟩ (by kernel_rfl) rfl plain1 (by kernel_rfl)
end Go.Proofs.YtfldjfpcefcjdaaGreatDoor
