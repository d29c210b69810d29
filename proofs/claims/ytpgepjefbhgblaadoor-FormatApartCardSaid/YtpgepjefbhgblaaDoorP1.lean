/- Functions of the given program and what each of them computes: lemmas towards the statement, their conditions stated with each of them. -/
import Derived.Test.YtpgepjefbhgblaaDoorAb3
import Derived.Test.YtpgepjefbhgblaaDoorProg
import Derived.KernelRfl
import Derived.Shelf.Strings.Builder1
import Derived.Shelf.Strings.Builder2
import Derived.Shelf.Strings.OnBuilder
import Derived.Shelf.Strings.BuilderF
import Derived.Shelf.Strconv.Itoa0
import Derived.Shelf.Strconv.Itoa1
import Derived.Shelf.LaysM
import Derived.Shelf.Strconv.Itoa2
import Derived.Shelf.Strconv.Itoa3
import Derived.Shelf.Strconv.Itoa4
import Derived.Shelf.Strings.Prefix
import Derived.Shelf.Bits.Mul64
import Derived.Shelf.Strings.Repeat
import Derived.Lib.Repeat
namespace Go.Proofs.YtpgepjefbhgblaaDoor
open Go Go.Ab
noncomputable def tab : List (Nat × TI) := [
  (0, ⟨TypeDesc.tuple #[], 1, 0, [.unk]⟩),
  (1, ⟨TypeDesc.func #[] #[] false, 1, 8, [.nilf]⟩),
  (2, ⟨TypeDesc.int .i64, 1, 8, [.int .i64 0]⟩),
  (3, ⟨TypeDesc.int .i64, 1, 8, [.int .i64 0]⟩),
  (4, ⟨TypeDesc.bool, 1, 1, [.bool false]⟩),
  (5, ⟨TypeDesc.int .u8, 1, 1, [.int .u8 0]⟩),
  (9, ⟨TypeDesc.string, 1, 16, [.str []]⟩),
  (20, ⟨TypeDesc.interface #[], 1, 16, [.nili]⟩),
  (21, ⟨TypeDesc.int .i32, 1, 4, [.int .i32 0]⟩),
  (22, ⟨TypeDesc.int .i64, 1, 8, [.int .i64 0]⟩),
  (23, ⟨TypeDesc.slice 3, 1, 24, [.sl 1 0 (fun _ => []) .nil]⟩),
  (24, ⟨TypeDesc.slice 26, 1, 24, [.sl 1 0 (fun _ => []) .nil]⟩),
  (25, ⟨Tryd.t25.desc, 4, 80, [.int .i64 0, .sl 1 0 (fun _ => []) .nil, .sl 1 0 (fun _ => []) .nil, .sl 1 0 (fun _ => []) .nil]⟩),
  (26, ⟨Tryd.t25.desc, 4, 80, [.int .i64 0, .sl 1 0 (fun _ => []) .nil, .sl 1 0 (fun _ => []) .nil, .sl 1 0 (fun _ => []) .nil]⟩),
  (27, ⟨TypeDesc.func #[26] #[4] false, 1, 8, [.nilf]⟩),
  (28, ⟨TypeDesc.func #[] #[4] false, 1, 8, [.nilf]⟩),
  (29, ⟨TypeDesc.func #[26] #[9] false, 1, 8, [.nilf]⟩),
  (30, ⟨TypeDesc.slice 9, 1, 24, [.sl 1 0 (fun _ => []) .nil]⟩),
  (31, ⟨TypeDesc.func #[26] #[30] false, 1, 8, [.nilf]⟩),
  (32, ⟨TypeDesc.int .i64, 1, 8, [.int .i64 0]⟩),
  (33, ⟨TypeDesc.func #[26] #[32] false, 1, 8, [.nilf]⟩),
  (34, ⟨TypeDesc.func #[26, 26] #[4] false, 1, 8, [.nilf]⟩),
  (35, ⟨TypeDesc.func #[26] #[3] false, 1, 8, [.nilf]⟩),
  (36, ⟨TypeDesc.func #[26, 3] #[9] false, 1, 8, [.nilf]⟩),
  (37, ⟨TypeDesc.func #[26, 3, 3, 3] #[30] false, 1, 8, [.nilf]⟩),
  (38, ⟨TypeDesc.func #[23] #[3] false, 1, 8, [.nilf]⟩),
  (39, ⟨TypeDesc.func #[3, 3] #[30] false, 1, 8, [.nilf]⟩),
  (40, ⟨TypeDesc.func #[26, 3, 23] #[9] false, 1, 8, [.nilf]⟩),
  (41, ⟨TypeDesc.pointer 44, 1, 8, [.nilp]⟩),
  (42, ⟨TypeDesc.slice 5, 1, 24, [.sl 1 0 (fun _ => []) .nil]⟩),
  (43, ⟨Tryd.t43.desc, 2, 32, [.nilp, .sl 1 0 (fun _ => []) .nil]⟩),
  (44, ⟨Tryd.t43.desc, 2, 32, [.nilp, .sl 1 0 (fun _ => []) .nil]⟩),
  (45, ⟨TypeDesc.interface #[("Error", 50)], 1, 16, [.nili]⟩),
  (46, ⟨TypeDesc.interface #[("Error", 50)], 1, 16, [.nili]⟩),
  (47, ⟨TypeDesc.tuple #[3, 46], 1, 0, [.unk]⟩),
  (48, ⟨TypeDesc.func #[9] #[3, 46] false, 1, 8, [.nilf]⟩),
  (49, ⟨TypeDesc.func #[5] #[46] false, 1, 8, [.nilf]⟩),
  (50, ⟨TypeDesc.func #[] #[9] false, 1, 8, [.nilf]⟩),
  (51, ⟨TypeDesc.tuple #[32, 3], 1, 0, [.unk]⟩),
  (52, ⟨TypeDesc.func #[26] #[32, 3] false, 1, 8, [.nilf]⟩),
  (53, ⟨TypeDesc.func #[23, 23] #[4] false, 1, 8, [.nilf]⟩),
  (54, ⟨TypeDesc.func #[26] #[32, 3, 3] false, 1, 8, [.nilf]⟩),
  (55, ⟨TypeDesc.func #[3] #[4] false, 1, 8, [.nilf]⟩),
  (56, ⟨TypeDesc.tuple #[32, 3, 3], 1, 0, [.unk]⟩),
  (57, ⟨TypeDesc.func #[3] #[9] false, 1, 8, [.nilf]⟩),
  (58, ⟨TypeDesc.func #[21, 23] #[9] true, 1, 8, [.nilf]⟩),
  (59, ⟨TypeDesc.func #[30] #[9] true, 1, 8, [.nilf]⟩),
  (60, ⟨TypeDesc.func #[26] #[26] false, 1, 8, [.nilf]⟩),
  (61, ⟨TypeDesc.func #[26, 3] #[26] false, 1, 8, [.nilf]⟩),
  (62, ⟨TypeDesc.func #[23] #[9] false, 1, 8, [.nilf]⟩),
  (63, ⟨TypeDesc.func #[9, 3] #[9] false, 1, 8, [.nilf]⟩),
  (64, ⟨TypeDesc.func #[30, 9] #[9] false, 1, 8, [.nilf]⟩),
  (65, ⟨TypeDesc.func #[23] #[4] false, 1, 8, [.nilf]⟩),
  (66, ⟨TypeDesc.pointer 5, 1, 8, [.nilp]⟩),
  (67, ⟨TypeDesc.func #[23] #[32] false, 1, 8, [.nilf]⟩),
  (68, ⟨TypeDesc.func #[23, 55] #[4] false, 1, 8, [.nilf]⟩),
  (69, ⟨TypeDesc.func #[21, 21] #[9] false, 1, 8, [.nilf]⟩),
  (70, ⟨TypeDesc.func #[3, 3] #[9] false, 1, 8, [.nilf]⟩),
  (71, ⟨TypeDesc.int .u64, 1, 8, [.int .u64 0]⟩),
  (72, ⟨TypeDesc.tuple #[71, 71], 1, 0, [.unk]⟩),
  (73, ⟨TypeDesc.func #[71, 71] #[71, 71] false, 1, 8, [.nilf]⟩),
  (74, ⟨TypeDesc.func #[9, 9] #[4] false, 1, 8, [.nilf]⟩),
  (75, ⟨TypeDesc.func #[3] #[] false, 1, 8, [.nilf]⟩),
  (76, ⟨TypeDesc.func #[] #[3] false, 1, 8, [.nilf]⟩),
  (77, ⟨TypeDesc.func #[23, 3] #[4] false, 1, 8, [.nilf]⟩),
  (78, ⟨TypeDesc.unsafePointer, 1, 8, [.nilp]⟩),
  (79, ⟨TypeDesc.func #[78] #[78] false, 1, 8, [.nilf]⟩),
  (80, ⟨TypeDesc.func #[23, 55] #[3] false, 1, 8, [.nilf]⟩),
  (81, ⟨TypeDesc.func #[2, 3] #[9] false, 1, 8, [.nilf]⟩),
  (82, ⟨TypeDesc.func #[3] #[3] false, 1, 8, [.nilf]⟩),
  (83, ⟨TypeDesc.int .u32, 1, 4, [.int .u32 0]⟩),
  (84, ⟨TypeDesc.tuple #[83, 83], 1, 0, [.unk]⟩),
  (85, ⟨TypeDesc.func #[83, 83] #[83, 83] false, 1, 8, [.nilf]⟩),
  (86, ⟨TypeDesc.int .u64, 1, 8, [.int .u64 0]⟩),
  (87, ⟨TypeDesc.tuple #[86, 86], 1, 0, [.unk]⟩),
  (88, ⟨TypeDesc.func #[86, 86] #[86, 86] false, 1, 8, [.nilf]⟩),
  (89, ⟨TypeDesc.func #[23, 3] #[3] false, 1, 8, [.nilf]⟩),
  (90, ⟨TypeDesc.func #[3] #[42] false, 1, 8, [.nilf]⟩),
  (91, ⟨TypeDesc.array 24 5, 24, 24, [.int .u8 0, .int .u8 0, .int .u8 0, .int .u8 0, .int .u8 0, .int .u8 0, .int .u8 0, .int .u8 0, .int .u8 0, .int .u8 0, .int .u8 0, .int .u8 0, .int .u8 0, .int .u8 0, .int .u8 0, .int .u8 0, .int .u8 0, .int .u8 0, .int .u8 0, .int .u8 0, .int .u8 0, .int .u8 0, .int .u8 0, .int .u8 0]⟩),
  (92, ⟨TypeDesc.func #[86] #[3] false, 1, 8, [.nilf]⟩),
  (93, ⟨TypeDesc.func #[42, 86] #[] false, 1, 8, [.nilf]⟩),
  (94, ⟨TypeDesc.tuple #[42, 9], 1, 0, [.unk]⟩),
  (95, ⟨TypeDesc.func #[42, 86, 3, 4, 4] #[42, 9] false, 1, 8, [.nilf]⟩),
  (96, ⟨TypeDesc.func #[4] #[3] false, 1, 8, [.nilf]⟩),
  (97, ⟨TypeDesc.array 20 86, 20, 160, [.int .u64 0, .int .u64 0, .int .u64 0, .int .u64 0, .int .u64 0, .int .u64 0, .int .u64 0, .int .u64 0, .int .u64 0, .int .u64 0, .int .u64 0, .int .u64 0, .int .u64 0, .int .u64 0, .int .u64 0, .int .u64 0, .int .u64 0, .int .u64 0, .int .u64 0, .int .u64 0]⟩),
  (98, ⟨TypeDesc.array 65 5, 65, 65, List.replicate 65 (.int .u8 0)⟩),
  (99, ⟨TypeDesc.func #[71] #[3] false, 1, 8, [.nilf]⟩),
  (100, ⟨TypeDesc.func #[83] #[3] false, 1, 8, [.nilf]⟩),
  (101, ⟨TypeDesc.array 32 5, 32, 32, [.int .u8 0, .int .u8 0, .int .u8 0, .int .u8 0, .int .u8 0, .int .u8 0, .int .u8 0, .int .u8 0, .int .u8 0, .int .u8 0, .int .u8 0, .int .u8 0, .int .u8 0, .int .u8 0, .int .u8 0, .int .u8 0, .int .u8 0, .int .u8 0, .int .u8 0, .int .u8 0, .int .u8 0, .int .u8 0, .int .u8 0, .int .u8 0, .int .u8 0, .int .u8 0, .int .u8 0, .int .u8 0, .int .u8 0, .int .u8 0, .int .u8 0, .int .u8 0]⟩),
  (102, ⟨TypeDesc.array 64 5, 64, 64, [.int .u8 0, .int .u8 0, .int .u8 0, .int .u8 0, .int .u8 0, .int .u8 0, .int .u8 0, .int .u8 0, .int .u8 0, .int .u8 0, .int .u8 0, .int .u8 0, .int .u8 0, .int .u8 0, .int .u8 0, .int .u8 0, .int .u8 0, .int .u8 0, .int .u8 0, .int .u8 0, .int .u8 0, .int .u8 0, .int .u8 0, .int .u8 0, .int .u8 0, .int .u8 0, .int .u8 0, .int .u8 0, .int .u8 0, .int .u8 0, .int .u8 0, .int .u8 0, .int .u8 0, .int .u8 0, .int .u8 0, .int .u8 0, .int .u8 0, .int .u8 0, .int .u8 0, .int .u8 0, .int .u8 0, .int .u8 0, .int .u8 0, .int .u8 0, .int .u8 0, .int .u8 0, .int .u8 0, .int .u8 0, .int .u8 0, .int .u8 0, .int .u8 0, .int .u8 0, .int .u8 0, .int .u8 0, .int .u8 0, .int .u8 0, .int .u8 0, .int .u8 0, .int .u8 0, .int .u8 0, .int .u8 0, .int .u8 0, .int .u8 0, .int .u8 0]⟩),
  (110, ⟨TypeDesc.func #[78, 78] #[4] false, 1, 8, [.nilf]⟩)]
theorem tab_ok : TabOk Tryd.prog (tabGet tab) :=
  TabOk.cons (ti := ⟨_, _, _, _⟩) Tryd.underlying0 (by kernel_rfl) <|
  TabOk.cons (ti := ⟨_, _, _, _⟩) Tryd.underlying1 (by kernel_rfl) <|
  TabOk.cons (ti := ⟨_, _, _, _⟩) Tryd.underlying2 (by kernel_rfl) <|
  TabOk.cons (ti := ⟨_, _, _, _⟩) Tryd.underlying3 (by kernel_rfl) <|
  TabOk.cons (ti := ⟨_, _, _, _⟩) Tryd.underlying4 (by kernel_rfl) <|
  TabOk.cons (ti := ⟨_, _, _, _⟩) Tryd.underlying5 (by kernel_rfl) <|
  TabOk.cons (ti := ⟨_, _, _, _⟩) Tryd.underlying9 (by kernel_rfl) <|
  TabOk.cons (ti := ⟨_, _, _, _⟩) Tryd.underlying20 (by kernel_rfl) <|
  TabOk.cons (ti := ⟨_, _, _, _⟩) Tryd.underlying21 (by kernel_rfl) <|
  TabOk.cons (ti := ⟨_, _, _, _⟩) Tryd.underlying22 (by kernel_rfl) <|
  TabOk.cons (ti := ⟨_, _, _, _⟩) Tryd.underlying23 (by kernel_rfl) <|
  TabOk.cons (ti := ⟨_, _, _, _⟩) Tryd.underlying24 (by kernel_rfl) <|
  TabOk.cons (ti := ⟨_, _, _, _⟩) Tryd.underlying25 (by kernel_rfl) <|
  TabOk.cons (ti := ⟨_, _, _, _⟩) Tryd.underlying26 (by kernel_rfl) <|
  TabOk.cons (ti := ⟨_, _, _, _⟩) Tryd.underlying27 (by kernel_rfl) <|
  TabOk.cons (ti := ⟨_, _, _, _⟩) Tryd.underlying28 (by kernel_rfl) <|
  TabOk.cons (ti := ⟨_, _, _, _⟩) Tryd.underlying29 (by kernel_rfl) <|
  TabOk.cons (ti := ⟨_, _, _, _⟩) Tryd.underlying30 (by kernel_rfl) <|
  TabOk.cons (ti := ⟨_, _, _, _⟩) Tryd.underlying31 (by kernel_rfl) <|
  TabOk.cons (ti := ⟨_, _, _, _⟩) Tryd.underlying32 (by kernel_rfl) <|
  TabOk.cons (ti := ⟨_, _, _, _⟩) Tryd.underlying33 (by kernel_rfl) <|
  TabOk.cons (ti := ⟨_, _, _, _⟩) Tryd.underlying34 (by kernel_rfl) <|
  TabOk.cons (ti := ⟨_, _, _, _⟩) Tryd.underlying35 (by kernel_rfl) <|
  TabOk.cons (ti := ⟨_, _, _, _⟩) Tryd.underlying36 (by kernel_rfl) <|
  TabOk.cons (ti := ⟨_, _, _, _⟩) Tryd.underlying37 (by kernel_rfl) <|
  TabOk.cons (ti := ⟨_, _, _, _⟩) Tryd.underlying38 (by kernel_rfl) <|
  TabOk.cons (ti := ⟨_, _, _, _⟩) Tryd.underlying39 (by kernel_rfl) <|
  TabOk.cons (ti := ⟨_, _, _, _⟩) Tryd.underlying40 (by kernel_rfl) <|
  TabOk.cons (ti := ⟨_, _, _, _⟩) Tryd.underlying41 (by kernel_rfl) <|
  TabOk.cons (ti := ⟨_, _, _, _⟩) Tryd.underlying42 (by kernel_rfl) <|
  TabOk.cons (ti := ⟨_, _, _, _⟩) Tryd.underlying43 (by kernel_rfl) <|
  TabOk.cons (ti := ⟨_, _, _, _⟩) Tryd.underlying44 (by kernel_rfl) <|
  TabOk.cons (ti := ⟨_, _, _, _⟩) Tryd.underlying45 (by kernel_rfl) <|
  TabOk.cons (ti := ⟨_, _, _, _⟩) Tryd.underlying46 (by kernel_rfl) <|
  TabOk.cons (ti := ⟨_, _, _, _⟩) Tryd.underlying47 (by kernel_rfl) <|
  TabOk.cons (ti := ⟨_, _, _, _⟩) Tryd.underlying48 (by kernel_rfl) <|
  TabOk.cons (ti := ⟨_, _, _, _⟩) Tryd.underlying49 (by kernel_rfl) <|
  TabOk.cons (ti := ⟨_, _, _, _⟩) Tryd.underlying50 (by kernel_rfl) <|
  TabOk.cons (ti := ⟨_, _, _, _⟩) Tryd.underlying51 (by kernel_rfl) <|
  TabOk.cons (ti := ⟨_, _, _, _⟩) Tryd.underlying52 (by kernel_rfl) <|
  TabOk.cons (ti := ⟨_, _, _, _⟩) Tryd.underlying53 (by kernel_rfl) <|
  TabOk.cons (ti := ⟨_, _, _, _⟩) Tryd.underlying54 (by kernel_rfl) <|
  TabOk.cons (ti := ⟨_, _, _, _⟩) Tryd.underlying55 (by kernel_rfl) <|
  TabOk.cons (ti := ⟨_, _, _, _⟩) Tryd.underlying56 (by kernel_rfl) <|
  TabOk.cons (ti := ⟨_, _, _, _⟩) Tryd.underlying57 (by kernel_rfl) <|
  TabOk.cons (ti := ⟨_, _, _, _⟩) Tryd.underlying58 (by kernel_rfl) <|
  TabOk.cons (ti := ⟨_, _, _, _⟩) Tryd.underlying59 (by kernel_rfl) <|
  TabOk.cons (ti := ⟨_, _, _, _⟩) Tryd.underlying60 (by kernel_rfl) <|
  TabOk.cons (ti := ⟨_, _, _, _⟩) Tryd.underlying61 (by kernel_rfl) <|
  TabOk.cons (ti := ⟨_, _, _, _⟩) Tryd.underlying62 (by kernel_rfl) <|
  TabOk.cons (ti := ⟨_, _, _, _⟩) Tryd.underlying63 (by kernel_rfl) <|
  TabOk.cons (ti := ⟨_, _, _, _⟩) Tryd.underlying64 (by kernel_rfl) <|
  TabOk.cons (ti := ⟨_, _, _, _⟩) Tryd.underlying65 (by kernel_rfl) <|
  TabOk.cons (ti := ⟨_, _, _, _⟩) Tryd.underlying66 (by kernel_rfl) <|
  TabOk.cons (ti := ⟨_, _, _, _⟩) Tryd.underlying67 (by kernel_rfl) <|
  TabOk.cons (ti := ⟨_, _, _, _⟩) Tryd.underlying68 (by kernel_rfl) <|
  TabOk.cons (ti := ⟨_, _, _, _⟩) Tryd.underlying69 (by kernel_rfl) <|
  TabOk.cons (ti := ⟨_, _, _, _⟩) Tryd.underlying70 (by kernel_rfl) <|
  TabOk.cons (ti := ⟨_, _, _, _⟩) Tryd.underlying71 (by kernel_rfl) <|
  TabOk.cons (ti := ⟨_, _, _, _⟩) Tryd.underlying72 (by kernel_rfl) <|
  TabOk.cons (ti := ⟨_, _, _, _⟩) Tryd.underlying73 (by kernel_rfl) <|
  TabOk.cons (ti := ⟨_, _, _, _⟩) Tryd.underlying74 (by kernel_rfl) <|
  TabOk.cons (ti := ⟨_, _, _, _⟩) Tryd.underlying75 (by kernel_rfl) <|
  TabOk.cons (ti := ⟨_, _, _, _⟩) Tryd.underlying76 (by kernel_rfl) <|
  TabOk.cons (ti := ⟨_, _, _, _⟩) Tryd.underlying77 (by kernel_rfl) <|
  TabOk.cons (ti := ⟨_, _, _, _⟩) Tryd.underlying78 (by kernel_rfl) <|
  TabOk.cons (ti := ⟨_, _, _, _⟩) Tryd.underlying79 (by kernel_rfl) <|
  TabOk.cons (ti := ⟨_, _, _, _⟩) Tryd.underlying80 (by kernel_rfl) <|
  TabOk.cons (ti := ⟨_, _, _, _⟩) Tryd.underlying81 (by kernel_rfl) <|
  TabOk.cons (ti := ⟨_, _, _, _⟩) Tryd.underlying82 (by kernel_rfl) <|
  TabOk.cons (ti := ⟨_, _, _, _⟩) Tryd.underlying83 (by kernel_rfl) <|
  TabOk.cons (ti := ⟨_, _, _, _⟩) Tryd.underlying84 (by kernel_rfl) <|
  TabOk.cons (ti := ⟨_, _, _, _⟩) Tryd.underlying85 (by kernel_rfl) <|
  TabOk.cons (ti := ⟨_, _, _, _⟩) Tryd.underlying86 (by kernel_rfl) <|
  TabOk.cons (ti := ⟨_, _, _, _⟩) Tryd.underlying87 (by kernel_rfl) <|
  TabOk.cons (ti := ⟨_, _, _, _⟩) Tryd.underlying88 (by kernel_rfl) <|
  TabOk.cons (ti := ⟨_, _, _, _⟩) Tryd.underlying89 (by kernel_rfl) <|
  TabOk.cons (ti := ⟨_, _, _, _⟩) Tryd.underlying90 (by kernel_rfl) <|
  TabOk.cons (ti := ⟨_, _, _, _⟩) Tryd.underlying91 (by kernel_rfl) <|
  TabOk.cons (ti := ⟨_, _, _, _⟩) Tryd.underlying92 (by kernel_rfl) <|
  TabOk.cons (ti := ⟨_, _, _, _⟩) Tryd.underlying93 (by kernel_rfl) <|
  TabOk.cons (ti := ⟨_, _, _, _⟩) Tryd.underlying94 (by kernel_rfl) <|
  TabOk.cons (ti := ⟨_, _, _, _⟩) Tryd.underlying95 (by kernel_rfl) <|
  TabOk.cons (ti := ⟨_, _, _, _⟩) Tryd.underlying96 (by kernel_rfl) <|
  TabOk.cons (ti := ⟨_, _, _, _⟩) Tryd.underlying97 (by kernel_rfl) <|
  TabOk.cons (ti := ⟨_, _, _, _⟩) Tryd.underlying98 (by kernel_rfl) <|
  TabOk.cons (ti := ⟨_, _, _, _⟩) Tryd.underlying99 (by kernel_rfl) <|
  TabOk.cons (ti := ⟨_, _, _, _⟩) Tryd.underlying100 (by kernel_rfl) <|
  TabOk.cons (ti := ⟨_, _, _, _⟩) Tryd.underlying101 (by kernel_rfl) <|
  TabOk.cons (ti := ⟨_, _, _, _⟩) Tryd.underlying102 (by kernel_rfl) <|
  TabOk.cons (ti := ⟨_, _, _, _⟩) Tryd.underlying110 (by kernel_rfl) <|
  TabOk.nil _
end Go.Proofs.YtpgepjefbhgblaaDoor
namespace Go.Proofs.YtpgepjefbhgblaaDoor
open Go Go.Ab
noncomputable def frames : List (Nat × Frm) := [
  (3, { fn := Tryd.f3, n := 15, V := 3, cross := [5], ord := fun id => match id with | 3 => ([0, 2, 1, 3, 4, 5, 6, 7, 8], [1, 3, 6]) | _ => ([], []) }),
  (4, { fn := Tryd.f4, n := 42, V := 6, cross := [8, 18, 22, 33], ord := fun id => match id with | 3 => ([0, 2, 1, 3, 4, 5], [1, 3]) | 9 => ([0, 1, 2, 3, 4, 5, 6, 7, 8], []) | 11 => ([0, 2, 1, 3, 4, 5, 6, 7, 8], [1, 3, 6]) | _ => ([], []) }),
  (5, { fn := Tryd.f5, n := 67, V := 6, cross := [26, 36, 40, 52], ord := fun id => match id with | 10 => ([0, 1, 2, 3, 4, 5, 6, 7, 8, 9], []) | _ => ([], []) }),
  (6, { fn := Tryd.f6, n := 36, V := 5, cross := [22], ord := fun id => match id with | 3 => ([0, 2, 5, 6, 1, 3, 4, 7, 8, 9, 10, 11, 12], [1, 3, 7, 10]) | _ => ([], []) }),
  (7, { fn := Tryd.f7, n := 6, V := 3, cross := [], ord := fun _ => ([], []) }),
  (8, { fn := Tryd.f8, n := 61, V := 4, cross := [11, 44], ord := fun _ => ([], []) }),
  (9, { fn := Tryd.f9, n := 8, V := 3, cross := [5], ord := fun _ => ([], []) }),
  (10, { fn := Tryd.f10, n := 8, V := 3, cross := [5], ord := fun _ => ([], []) }),
  (11, { fn := Tryd.f11, n := 45, V := 7, cross := [9, 14, 19, 29], ord := fun id => match id with | 7 => ([0, 1, 2, 3, 4, 5, 6], [5]) | 10 => ([0, 1, 2, 3, 4, 5, 6, 7, 8, 9, 10, 11, 12, 13, 14, 15], [12, 13, 14, 15]) | _ => ([], []) }),
  (12, { fn := Tryd.f12, n := 59, V := 9, cross := [11, 18, 25, 40, 47], ord := fun id => match id with | 6 => ([0, 1, 2, 3, 4, 5], [2, 3, 4]) | 9 => ([0, 1, 2, 3, 4, 5, 6, 7, 8, 9, 10, 11, 12, 13], []) | _ => ([], []) }),
  (13, { fn := Tryd.f13, n := 18, V := 4, cross := [5, 7, 8, 9, 10], ord := fun _ => ([], []) }),
  (14, { fn := Tryd.f14, n := 26, V := 6, cross := [12], ord := fun _ => ([], []) }),
  (15, { fn := Tryd.f15, n := 11, V := 5, cross := [], ord := fun _ => ([], []) }),
  (16, { fn := Tryd.f16, n := 55, V := 6, cross := [35, 40, 54], ord := fun id => match id with | 6 => ([0, 1, 2, 3, 4, 5, 6, 7, 8, 9, 10, 11], [10]) | _ => ([], []) }),
  (17, { fn := Tryd.f17, n := 33, V := 5, cross := [20], ord := fun _ => ([], []) }),
  (18, { fn := Tryd.f18, n := 16, V := 7, cross := [], ord := fun _ => ([], []) }),
  (19, { fn := Tryd.f19, n := 90, V := 5, cross := [12, 27, 43, 55, 71, 74, 79], ord := fun _ => ([], []) }),
  (20, { fn := Tryd.f20, n := 64, V := 5, cross := [8, 19, 31, 39, 46], ord := fun _ => ([], []) }),
  (21, { fn := Tryd.f21, n := 49, V := 3, cross := [4, 5, 15, 27], ord := fun _ => ([], []) }),
  (22, { fn := Tryd.f22, n := 87, V := 5, cross := [8, 9, 10, 11, 12, 13, 14, 15, 16, 17, 20, 25, 26, 27, 48, 49, 50, 52, 53, 54, 55], ord := fun id => match id with | 8 => ([0, 1, 2, 3, 4, 5, 6, 7, 8, 9, 10, 11, 12, 13, 14, 15, 16, 17, 18], [14, 18]) | _ => ([], []) }),
  (23, { fn := Tryd.f23, n := 8, V := 1, cross := [2, 5], ord := fun _ => ([], []) }),
  (24, { fn := Tryd.f24, n := 52, V := 7, cross := [9, 10, 11, 15, 25, 26, 27, 30], ord := fun id => match id with | 9 => ([0, 1, 2, 3, 4, 5, 6, 7, 8, 9, 10, 11, 12, 13, 14, 15, 16], [11, 14, 15]) | _ => ([], []) }),
  (25, { fn := Tryd.f25, n := 16, V := 3, cross := [4, 5, 11], ord := fun _ => ([], []) }),
  (26, { fn := Tryd.f26, n := 46, V := 4, cross := [6, 7, 8, 9, 14, 23], ord := fun _ => ([], []) }),
  (27, { fn := Tryd.f27, n := 61, V := 5, cross := [8, 9, 10, 11, 12, 13, 18, 23, 46], ord := fun id => match id with | 8 => ([0, 1, 2, 3, 4, 5, 6, 7, 8, 9, 10, 11, 12, 13, 14, 15, 16, 17, 18], [14, 18]) | _ => ([], []) }),
  (28, { fn := Tryd.f28, n := 19, V := 2, cross := [4, 5], ord := fun _ => ([], []) }),
  (29, { fn := Tryd.f29, n := 17, V := 2, cross := [4], ord := fun _ => ([], []) }),
  (30, { fn := Tryd.f30, n := 14, V := 1, cross := [2], ord := fun id => match id with | 1 => ([0, 1, 2, 3, 5, 6, 7, 8, 9, 4, 10, 11], [4, 10]) | _ => ([], []) }),
  (31, { fn := Tryd.f31, n := 107, V := 11, cross := [18, 23, 30, 43, 48, 76, 81, 94, 105], ord := fun id => match id with | 9 => ([0, 2, 3, 1, 4, 5, 6, 7, 8, 9], [1, 4]) | _ => ([], []) }),
  (32, { fn := Tryd.f32, n := 26, V := 2, cross := [4, 5, 10, 14, 25], ord := fun id => match id with | 6 => ([0, 1, 2, 3, 4, 5, 6, 7, 8], []) | _ => ([], []) }),
  (33, { fn := Tryd.f33, n := 87, V := 7, cross := [8, 9, 10, 12, 13, 14, 15, 19, 22, 23, 24, 25, 45, 55, 56, 57, 58, 69, 84], ord := fun id => match id with | 10 => ([0, 1, 2, 3, 4, 5, 6, 7, 8], []) | _ => ([], []) }),
  (34, { fn := Tryd.f34, n := 44, V := 5, cross := [12, 13, 16, 20, 25, 29, 34], ord := fun id => match id with | 1 => ([0, 1, 2, 3, 4, 5, 6, 7], []) | _ => ([], []) }),
  (35, { fn := Tryd.f35, n := 9, V := 1, cross := [2], ord := fun _ => ([], []) }),
  (36, { fn := Tryd.f36, n := 17, V := 1, cross := [2], ord := fun _ => ([], []) }),
  (37, { fn := Tryd.f37, n := 13, V := 1, cross := [2, 3, 8], ord := fun _ => ([], []) }),
  (38, { fn := Tryd.f38, n := 27, V := 2, cross := [4, 5, 7, 10, 11, 12, 13], ord := fun _ => ([], []) }),
  (39, { fn := Tryd.f39, n := 5, V := 1, cross := [2], ord := fun _ => ([], []) }),
  (40, { fn := Tryd.f40, n := 44, V := 4, cross := [5, 7, 10, 15, 16, 17, 18, 28, 29, 30, 31], ord := fun _ => ([], []) }),
  (41, { fn := Tryd.f41, n := 20, V := 3, cross := [4, 5, 9, 13], ord := fun _ => ([], []) }),
  (42, { fn := Tryd.f42, n := 36, V := 3, cross := [4, 12, 16], ord := fun id => match id with | 4 => ([0, 1, 2, 3, 4, 5, 6, 7, 8, 9, 10], [7, 8, 10]) | 5 => ([0, 1, 2, 3, 4, 5, 6, 7, 8, 9], [7, 9]) | _ => ([], []) }),
  (43, { fn := Tryd.f43, n := 28, V := 1, cross := [2, 3, 4, 5, 6, 7, 8, 9, 10, 15, 20], ord := fun _ => ([], []) }),
  (44, { fn := Tryd.f44, n := 27, V := 3, cross := [4, 11, 18], ord := fun _ => ([], []) }),
  (45, { fn := Tryd.f45, n := 25, V := 5, cross := [10], ord := fun _ => ([], []) }),
  (46, { fn := Tryd.f46, n := 36, V := 5, cross := [7, 16, 20], ord := fun _ => ([], []) }),
  (47, { fn := Tryd.f47, n := 26, V := 1, cross := [2, 3, 4, 9, 13], ord := fun _ => ([], []) }),
  (48, { fn := Tryd.f48, n := 20, V := 3, cross := [4, 5, 9, 13], ord := fun _ => ([], []) }),
  (49, { fn := Tryd.f49, n := 34, V := 3, cross := [4, 12, 16], ord := fun id => match id with | 5 => ([0, 1, 2, 3, 4, 5, 6, 7, 8, 9], [7, 9]) | _ => ([], []) }),
  (50, { fn := Tryd.f50, n := 125, V := 2, cross := [4, 5, 6, 7, 8, 9, 10, 11, 12, 14, 18, 34, 40, 42, 43, 49, 58, 67, 76, 85, 96, 104, 113], ord := fun _ => ([], []) }),
  (51, { fn := Tryd.f51, n := 75, V := 2, cross := [4, 5, 7, 8, 10, 12, 13, 15, 22, 29, 39, 40, 41, 42, 49, 63, 64, 65, 66], ord := fun _ => ([], []) }),
  (52, { fn := Tryd.f52, n := 31, V := 1, cross := [2, 3, 5, 8, 9, 10, 11, 12, 15, 22, 29], ord := fun _ => ([], []) }),
  (53, { fn := Tryd.f53, n := 19, V := 1, cross := [2, 3, 5, 7, 8, 9, 10, 11], ord := fun _ => ([], []) }),
  (54, { fn := Tryd.f54, n := 40, V := 3, cross := [4, 5, 7, 16, 24, 36], ord := fun _ => ([], []) }),
  (55, { fn := Tryd.f55, n := 15, V := 1, cross := [2, 3, 7], ord := fun _ => ([], []) }),
  (56, { fn := Tryd.f56, n := 20, V := 1, cross := [6, 19], ord := fun _ => ([], []) }),
  (57, { fn := Tryd.f57, n := 21, V := 1, cross := [2, 3, 6, 10, 17, 20], ord := fun _ => ([], []) }),
  (58, { fn := Tryd.f58, n := 17, V := 1, cross := [2, 3, 7, 14], ord := fun _ => ([], []) }),
  (59, { fn := Tryd.f59, n := 9, V := 1, cross := [2], ord := fun _ => ([], []) }),
  (60, { fn := Tryd.f60, n := 17, V := 1, cross := [2], ord := fun _ => ([], []) }),
  (61, { fn := Tryd.f61, n := 9, V := 2, cross := [4], ord := fun _ => ([], []) }),
  (62, { fn := Tryd.f62, n := 5, V := 1, cross := [2], ord := fun _ => ([], []) }),
  (63, { fn := Tryd.f63, n := 5, V := 1, cross := [2], ord := fun _ => ([], []) }),
  (64, { fn := Tryd.f64, n := 32, V := 2, cross := [4, 5, 6, 8, 10, 12, 24], ord := fun _ => ([], []) }),
  (65, { fn := Tryd.f65, n := 16, V := 3, cross := [4, 5, 11], ord := fun _ => ([], []) }),
  (66, { fn := Tryd.f66, n := 47, V := 6, cross := [32, 33, 34, 35], ord := fun id => match id with | 1 => ([0, 1, 2, 3, 4, 6, 7, 8, 10, 11, 12, 5, 9, 13, 14, 15, 16], [5, 9, 13, 15, 16]) | 7 => ([0, 1, 2, 3, 4, 5, 6], [4, 6]) | _ => ([], []) }),
  (67, { fn := Tryd.f67, n := 41, V := 1, cross := [2, 3, 4, 10, 23], ord := fun id => match id with | 7 => ([0, 1, 3, 4, 5, 6, 7, 2, 8, 9], [2]) | _ => ([], []) }),
  (68, { fn := Tryd.f68, n := 33, V := 2, cross := [4, 5, 6, 8, 10, 12, 25], ord := fun _ => ([], []) }),
  (69, { fn := Tryd.f69, n := 33, V := 5, cross := [18], ord := fun id => match id with | 1 => ([0, 1, 2, 3, 5, 6, 4, 7, 8, 9, 10], [4, 7, 9, 10]) | 5 => ([0, 1, 2, 3, 4, 5, 6, 7, 8, 9, 10, 11], [7, 8, 9, 11]) | _ => ([], []) }),
  (70, { fn := Tryd.f70, n := 30, V := 2, cross := [4, 5, 6, 7, 8, 9], ord := fun _ => ([], []) }),
  (71, { fn := Tryd.f71, n := 8, V := 2, cross := [4], ord := fun _ => ([], []) }),
  (72, { fn := Tryd.f72, n := 25, V := 2, cross := [7, 21], ord := fun id => match id with | 3 => ([0, 1, 2, 3, 5, 6, 7, 8, 9, 11, 4, 10, 12], [4]) | _ => ([], []) }),
  (73, { fn := Tryd.f73, n := 8, V := 1, cross := [2], ord := fun _ => ([], []) }),
  (74, { fn := Tryd.f74, n := 9, V := 2, cross := [4], ord := fun _ => ([], []) }),
  (76, { fn := Tryd.f76, n := 30, V := 1, cross := [2, 3, 4, 8, 15, 20, 28], ord := fun _ => ([], []) }),
  (77, { fn := Tryd.f77, n := 19, V := 2, cross := [4, 5, 7, 8, 9, 16], ord := fun _ => ([], []) }),
  (78, { fn := Tryd.f78, n := 5, V := 1, cross := [2], ord := fun _ => ([], []) }),
  (79, { fn := Tryd.f79, n := 8, V := 2, cross := [4], ord := fun _ => ([], []) }),
  (80, { fn := Tryd.f80, n := 8, V := 1, cross := [2, 4], ord := fun _ => ([], []) }),
  (81, { fn := Tryd.f81, n := 22, V := 1, cross := [2, 3, 5], ord := fun id => match id with | 4 => ([0, 1, 3, 4, 5, 6, 7, 8, 9, 2, 10, 11], [2]) | _ => ([], []) }),
  (82, { fn := Tryd.f82, n := 17, V := 2, cross := [4, 5, 6], ord := fun _ => ([], []) }),
  (83, { fn := Tryd.f83, n := 51, V := 2, cross := [4, 5, 6, 7, 8, 9, 10, 11, 12, 13], ord := fun _ => ([], []) }),
  (84, { fn := Tryd.f84, n := 18, V := 2, cross := [4], ord := fun _ => ([], []) }),
  (85, { fn := Tryd.f85, n := 30, V := 2, cross := [4], ord := fun id => match id with | 0 => ([0, 1, 2, 3, 6, 9, 10, 11, 12, 13, 4, 5, 7, 8, 14, 15], [4, 8]) | _ => ([], []) }),
  (86, { fn := Tryd.f86, n := 19, V := 2, cross := [4, 5, 7, 8, 9, 16], ord := fun _ => ([], []) }),
  (87, { fn := Tryd.f87, n := 54, V := 2, cross := [4, 5, 6, 7, 8, 9, 11, 17, 23, 34], ord := fun _ => ([], []) }),
  (89, { fn := Tryd.f89, n := 15, V := 1, cross := [2, 4], ord := fun _ => ([], []) }),
  (90, { fn := Tryd.f90, n := 15, V := 1, cross := [2, 3], ord := fun _ => ([], []) }),
  (91, { fn := Tryd.f91, n := 167, V := 2, cross := [4, 5, 6, 7, 8, 9, 10, 11, 12, 13, 14, 15, 16, 20, 99, 139, 161], ord := fun id => match id with | 7 => ([0, 1, 2, 3, 4, 5, 6, 7, 8, 9, 10, 11, 12, 13, 14], [12, 14]) | 8 => ([0, 1, 2, 3, 4, 5, 6, 7, 8, 9, 10, 11, 12, 13, 14], [12, 14]) | 9 => ([0, 1, 2, 3, 4, 5, 6, 7, 8, 9, 10, 11, 12, 13, 14], [12, 14]) | 10 => ([0, 1, 2, 3, 4, 5, 6, 7, 8, 9, 10, 11, 12, 13, 14], [12, 14]) | 17 => ([0, 1, 2, 3, 4, 5, 6, 7, 8, 9, 10, 11, 12, 13, 14], [12, 14]) | 18 => ([0, 1, 2, 3, 4, 5, 6, 7, 8, 9, 10, 11, 12, 13, 14], [12, 14]) | 23 => ([0, 1, 2, 3, 4, 5, 6, 7, 8, 9, 10, 11, 12, 13, 14], [12, 14]) | _ => ([], []) }),
  (92, { fn := Tryd.f92, n := 102, V := 5, cross := [10, 11, 12, 13, 14, 15, 16, 17, 18, 28, 30, 34, 46, 68, 89, 94], ord := fun _ => ([], []) }),
  (93, { fn := Tryd.f93, n := 6, V := 1, cross := [2], ord := fun _ => ([], []) }),
  (94, { fn := Tryd.f94, n := 25, V := 1, cross := [2, 4, 8, 14], ord := fun _ => ([], []) }),
  (95, { fn := Tryd.f95, n := 4, V := 1, cross := [2, 3], ord := fun _ => ([], []) }),
  (96, { fn := Tryd.f96, n := 8, V := 1, cross := [2], ord := fun _ => ([], []) }),
  (97, { fn := Tryd.f97, n := 8, V := 1, cross := [2], ord := fun _ => ([], []) }),
  (98, { fn := Tryd.f98, n := 14, V := 1, cross := [2, 4], ord := fun _ => ([], []) }),
  (99, { fn := Tryd.f99, n := 14, V := 1, cross := [2, 4], ord := fun _ => ([], []) })]
abbrev eqs : List Nat := []
theorem eqs_ok : ∀ t, eqs.contains t = true → Tryd.prog.eqGuardType Tryd.prog.depth t = false ∧ Tryd.prog.stoodInHeld t = false := by
  intro t h
  exact absurd h (by simp [eqs])
theorem frames_ok : FrmOk Tryd.prog (frmGet frames) :=
  FrmOk.cons Tryd.func3 rfl (by decide) <|
  FrmOk.cons Tryd.func4 rfl (by decide) <|
  FrmOk.cons Tryd.func5 rfl (by decide) <|
  FrmOk.cons Tryd.func6 rfl (by decide) <|
  FrmOk.cons Tryd.func7 rfl (by decide) <|
  FrmOk.cons Tryd.func8 rfl (by decide) <|
  FrmOk.cons Tryd.func9 rfl (by decide) <|
  FrmOk.cons Tryd.func10 rfl (by decide) <|
  FrmOk.cons Tryd.func11 rfl (by decide) <|
  FrmOk.cons Tryd.func12 rfl (by decide) <|
  FrmOk.cons Tryd.func13 rfl (by decide) <|
  FrmOk.cons Tryd.func14 rfl (by decide) <|
  FrmOk.cons Tryd.func15 rfl (by decide) <|
  FrmOk.cons Tryd.func16 rfl (by decide) <|
  FrmOk.cons Tryd.func17 rfl (by decide) <|
  FrmOk.cons Tryd.func18 rfl (by decide) <|
  FrmOk.cons Tryd.func19 rfl (by decide) <|
  FrmOk.cons Tryd.func20 rfl (by decide) <|
  FrmOk.cons Tryd.func21 rfl (by decide) <|
  FrmOk.cons Tryd.func22 rfl (by decide) <|
  FrmOk.cons Tryd.func23 rfl (by decide) <|
  FrmOk.cons Tryd.func24 rfl (by decide) <|
  FrmOk.cons Tryd.func25 rfl (by decide) <|
  FrmOk.cons Tryd.func26 rfl (by decide) <|
  FrmOk.cons Tryd.func27 rfl (by decide) <|
  FrmOk.cons Tryd.func28 rfl (by decide) <|
  FrmOk.cons Tryd.func29 rfl (by decide) <|
  FrmOk.cons Tryd.func30 rfl (by decide) <|
  FrmOk.cons Tryd.func31 rfl (by decide) <|
  FrmOk.cons Tryd.func32 rfl (by decide) <|
  FrmOk.cons Tryd.func33 rfl (by decide) <|
  FrmOk.cons Tryd.func34 rfl (by decide) <|
  FrmOk.cons Tryd.func35 rfl (by decide) <|
  FrmOk.cons Tryd.func36 rfl (by decide) <|
  FrmOk.cons Tryd.func37 rfl (by decide) <|
  FrmOk.cons Tryd.func38 rfl (by decide) <|
  FrmOk.cons Tryd.func39 rfl (by decide) <|
  FrmOk.cons Tryd.func40 rfl (by decide) <|
  FrmOk.cons Tryd.func41 rfl (by decide) <|
  FrmOk.cons Tryd.func42 rfl (by decide) <|
  FrmOk.cons Tryd.func43 rfl (by decide) <|
  FrmOk.cons Tryd.func44 rfl (by decide) <|
  FrmOk.cons Tryd.func45 rfl (by decide) <|
  FrmOk.cons Tryd.func46 rfl (by decide) <|
  FrmOk.cons Tryd.func47 rfl (by decide) <|
  FrmOk.cons Tryd.func48 rfl (by decide) <|
  FrmOk.cons Tryd.func49 rfl (by decide) <|
  FrmOk.cons Tryd.func50 rfl (by decide) <|
  FrmOk.cons Tryd.func51 rfl (by decide) <|
  FrmOk.cons Tryd.func52 rfl (by decide) <|
  FrmOk.cons Tryd.func53 rfl (by decide) <|
  FrmOk.cons Tryd.func54 rfl (by decide) <|
  FrmOk.cons Tryd.func55 rfl (by decide) <|
  FrmOk.cons Tryd.func56 rfl (by decide) <|
  FrmOk.cons Tryd.func57 rfl (by decide) <|
  FrmOk.cons Tryd.func58 rfl (by decide) <|
  FrmOk.cons Tryd.func59 rfl (by decide) <|
  FrmOk.cons Tryd.func60 rfl (by decide) <|
  FrmOk.cons Tryd.func61 rfl (by decide) <|
  FrmOk.cons Tryd.func62 rfl (by decide) <|
  FrmOk.cons Tryd.func63 rfl (by decide) <|
  FrmOk.cons Tryd.func64 rfl (by decide) <|
  FrmOk.cons Tryd.func65 rfl (by decide) <|
  FrmOk.cons Tryd.func66 rfl (by decide) <|
  FrmOk.cons Tryd.func67 rfl (by decide) <|
  FrmOk.cons Tryd.func68 rfl (by decide) <|
  FrmOk.cons Tryd.func69 rfl (by decide) <|
  FrmOk.cons Tryd.func70 rfl (by decide) <|
  FrmOk.cons Tryd.func71 rfl (by decide) <|
  FrmOk.cons Tryd.func72 rfl (by decide) <|
  FrmOk.cons Tryd.func73 rfl (by decide) <|
  FrmOk.cons Tryd.func74 rfl (by decide) <|
  FrmOk.cons Tryd.func76 rfl (by decide) <|
  FrmOk.cons Tryd.func77 rfl (by decide) <|
  FrmOk.cons Tryd.func78 rfl (by decide) <|
  FrmOk.cons Tryd.func79 rfl (by decide) <|
  FrmOk.cons Tryd.func80 rfl (by decide) <|
  FrmOk.cons Tryd.func81 rfl (by decide) <|
  FrmOk.cons Tryd.func82 rfl (by decide) <|
  FrmOk.cons Tryd.func83 rfl (by decide) <|
  FrmOk.cons Tryd.func84 rfl (by decide) <|
  FrmOk.cons Tryd.func85 rfl (by decide) <|
  FrmOk.cons Tryd.func86 rfl (by decide) <|
  FrmOk.cons Tryd.func87 rfl (by decide) <|
  FrmOk.cons Tryd.func89 rfl (by decide) <|
  FrmOk.cons Tryd.func90 rfl (by decide) <|
  FrmOk.cons Tryd.func91 rfl (by decide) <|
  FrmOk.cons Tryd.func92 rfl (by decide) <|
  FrmOk.cons Tryd.func93 rfl (by decide) <|
  FrmOk.cons Tryd.func94 rfl (by decide) <|
  FrmOk.cons Tryd.func95 rfl (by decide) <|
  FrmOk.cons Tryd.func96 rfl (by decide) <|
  FrmOk.cons Tryd.func97 rfl (by decide) <|
  FrmOk.cons Tryd.func98 rfl (by decide) <|
  FrmOk.cons Tryd.func99 rfl (by decide) <|
  FrmOk.nil _
end Go.Proofs.YtpgepjefbhgblaaDoor
namespace Go.Proofs
open Go.Shelf
def Tryd.lays156_ren : Go.Shelf.Ren := ⟨fun | 156 => 51 | 165 => 72 | 166 => 28 | 169 => 30 | 240 => 56 | 241 => 85 | 276 => 75 | 277 => 88 | n => n, fun | 31 => 30 | 9 => 9 | 3 => 3 | 4 => 4 | 0 => 0 | 20 => 20 | 72 => 44 | 76 => 47 | 70 => 41 | 37 => 42 | 75 => 46 | 127 => 66 | 164 => 78 | 5 => 5 | 80 => 50 | n => n, fun | n => n⟩
theorem Tryd.lays156 : Go.Proofs.Lays.n156 Tryd.prog Tryd.lays156_ren := {
  mixed := by kernel_rfl
  f156 := Tryd.func51.trans (congrArg some (by kernel_rfl))
  f165 := Tryd.func72.trans (congrArg some (by kernel_rfl))
  f166 := Tryd.func28.trans (congrArg some (by kernel_rfl))
  f169 := Tryd.func30.trans (congrArg some (by kernel_rfl))
  f240 := Tryd.func56.trans (congrArg some (by kernel_rfl))
  f241 := Tryd.func85.trans (congrArg some (by kernel_rfl))
  f276 := Tryd.func75.trans (congrArg some (by kernel_rfl))
  f277 := Tryd.func88.trans (congrArg some (by kernel_rfl))
  t0 := Tryd.underlying0
  a0 := Tryd.isAgg0
  z0 := Tryd.sizeOf0
  v0 := Tryd.zeroValue0
  t3 := Tryd.underlying3
  a3 := Tryd.isAgg3
  z3 := Tryd.sizeOf3
  v3 := Tryd.zeroValue3
  t4 := Tryd.underlying4
  a4 := Tryd.isAgg4
  z4 := Tryd.sizeOf4
  v4 := Tryd.zeroValue4
  t9 := Tryd.underlying9
  a9 := Tryd.isAgg9
  z9 := Tryd.sizeOf9
  v9 := Tryd.zeroValue9
  t20 := Tryd.underlying20
  a20 := Tryd.isAgg20
  z20 := Tryd.sizeOf20
  v20 := Tryd.zeroValue20
  t31 := Tryd.underlying30
  a31 := Tryd.isAgg30
  z31 := Tryd.sizeOf30
  v31 := Tryd.zeroValue30
  t37 := Tryd.underlying42
  a37 := Tryd.isAgg42
  z37 := Tryd.sizeOf42
  v37 := Tryd.zeroValue42
  t70 := Tryd.underlying41
  a70 := Tryd.isAgg41
  z70 := Tryd.sizeOf41
  v70 := Tryd.zeroValue41
  t72 := Tryd.underlying44
  a72 := Tryd.isAgg44
  z72 := Tryd.sizeOf44
  v72 := Tryd.zeroValue44
  t75 := Tryd.underlying46
  a75 := Tryd.isAgg46
  z75 := Tryd.sizeOf46
  v75 := Tryd.zeroValue46
  t76 := Tryd.underlying47
  a76 := Tryd.isAgg47
  z76 := Tryd.sizeOf47
  v76 := Tryd.zeroValue47
  t127 := Tryd.underlying66
  a127 := Tryd.isAgg66
  z127 := Tryd.sizeOf66
  v127 := Tryd.zeroValue66
  t164 := Tryd.underlying78
  a164 := Tryd.isAgg78
  z164 := Tryd.sizeOf78
  v164 := Tryd.zeroValue78 }
theorem Tryd.Builder_Extra_156 : Builder.Extra Tryd.prog Tryd.lays156_ren := {
  sizeBuilder := by kernel_rfl
  liesBuilder := by kernel_rfl
  t5 := Tryd.underlying5
  a5 := Tryd.isAgg5
  z5 := Tryd.sizeOf5
  v5 := Tryd.zeroValue5
  infoByte := by kernel_rfl
  cellsByte := by kernel_rfl
  sizeByte := by kernel_rfl
  neB5 := by decide }
open Go.RowKit in
theorem Tryd.strings_Join_none (a : Option Addr) (c : Nat) (sep : ByteArray) (w : World) :
    Calls Tryd.prog 51 #[.slice a 0 c, .string sep] w fun e w' => e = .returned (.string ⟨#[]⟩) ∧ w' = w := Any.strings_Join_none Tryd.lays156 Tryd.Builder_Extra_156 a c sep w
open Go.RowKit in
theorem Tryd.strings_Join (bk o c : Nat) (xs : List ByteArray) (sep : ByteArray) (w : World) (hcells : ∀ (j : Nat) x, xs[j]? = some x → w.cell? ⟨bk, o + j, none⟩ = some (.string x)) (hbk : bk < w.heap.size) (hN : xs.length ≤ 140737488355328) (hcap : xs.length ≤ c) (hlen : (Lib.join (xs.map (·.data.toList)) sep.data.toList).length ≤ 140737488355328) :
    Calls Tryd.prog 51 #[.slice (some ⟨bk, o, none⟩) xs.length c, .string sep] w fun e w' => e = .returned (.string ⟨(Lib.join (xs.map (·.data.toList)) sep.data.toList).toArray⟩) ∧ Below w.heap.size w w' := Any.strings_Join Tryd.lays156 Tryd.Builder_Extra_156 bk o c xs sep w hcells hbk hN hcap hlen
def Tryd.laysM171_ren : Go.Shelf.Ren := ⟨fun | 171 => 63 | 243 => 78 | 246 => 87 | 283 => 89 | 284 => 90 | 285 => 91 | 286 => 92 | 129 => 94 | 317 => 93 | 318 => 95 | 319 => 96 | 320 => 97 | 337 => 98 | 338 => 99 | n => n, fun | 3 => 3 | 9 => 9 | 2 => 2 | 4 => 4 | 171 => 91 | 0 => 0 | 53 => 86 | 37 => 42 | 5 => 5 | 173 => 94 | 212 => 97 | 51 => 83 | 20 => 20 | 213 => 98 | 46 => 71 | 232 => 101 | 233 => 102 | n => n, fun | 17 => 1 | 18 => 2 | 19 => 3 | n => n⟩
theorem Tryd.laysM171 : Go.Proofs.LaysM.n171 Tryd.prog Tryd.laysM171_ren := {
  mixed := by kernel_rfl
  f129 := Tryd.func94.trans (congrArg some (by kernel_rfl))
  f171 := Tryd.func63.trans (congrArg some (by kernel_rfl))
  f243 := Tryd.func78.trans (congrArg some (by kernel_rfl))
  f246 := Tryd.func87.trans (congrArg some (by kernel_rfl))
  f283 := Tryd.func89.trans (congrArg some (by kernel_rfl))
  f284 := Tryd.func90.trans (congrArg some (by kernel_rfl))
  f285 := Tryd.func91.trans (congrArg some (by kernel_rfl))
  f286 := Tryd.func92.trans (congrArg some (by kernel_rfl))
  f317 := Tryd.func93.trans (congrArg some (by kernel_rfl))
  f318 := Tryd.func95.trans (congrArg some (by kernel_rfl))
  f319 := Tryd.func96.trans (congrArg some (by kernel_rfl))
  f320 := Tryd.func97.trans (congrArg some (by kernel_rfl))
  f337 := Tryd.func98.trans (congrArg some (by kernel_rfl))
  f338 := Tryd.func99.trans (congrArg some (by kernel_rfl))
  t0 := Tryd.underlying0
  a0 := Tryd.isAgg0
  z0 := Tryd.sizeOf0
  v0 := Tryd.zeroValue0
  t2 := Tryd.underlying2
  a2 := Tryd.isAgg2
  z2 := Tryd.sizeOf2
  v2 := Tryd.zeroValue2
  t3 := Tryd.underlying3
  a3 := Tryd.isAgg3
  z3 := Tryd.sizeOf3
  v3 := Tryd.zeroValue3
  t4 := Tryd.underlying4
  a4 := Tryd.isAgg4
  z4 := Tryd.sizeOf4
  v4 := Tryd.zeroValue4
  t5 := Tryd.underlying5
  a5 := Tryd.isAgg5
  z5 := Tryd.sizeOf5
  v5 := Tryd.zeroValue5
  t9 := Tryd.underlying9
  a9 := Tryd.isAgg9
  z9 := Tryd.sizeOf9
  v9 := Tryd.zeroValue9
  t20 := Tryd.underlying20
  a20 := Tryd.isAgg20
  z20 := Tryd.sizeOf20
  v20 := Tryd.zeroValue20
  t37 := Tryd.underlying42
  a37 := Tryd.isAgg42
  z37 := Tryd.sizeOf42
  v37 := Tryd.zeroValue42
  t46 := Tryd.underlying71
  a46 := Tryd.isAgg71
  z46 := Tryd.sizeOf71
  v46 := Tryd.zeroValue71
  t51 := Tryd.underlying83
  a51 := Tryd.isAgg83
  z51 := Tryd.sizeOf83
  v51 := Tryd.zeroValue83
  t53 := Tryd.underlying86
  a53 := Tryd.isAgg86
  z53 := Tryd.sizeOf86
  v53 := Tryd.zeroValue86
  t171 := Tryd.underlying91
  a171 := Tryd.isAgg91
  z171 := Tryd.sizeOf91
  v171 := Tryd.zeroValue91
  t173 := Tryd.underlying94
  a173 := Tryd.isAgg94
  z173 := Tryd.sizeOf94
  v173 := Tryd.zeroValue94
  t212 := Tryd.underlying97
  a212 := Tryd.isAgg97
  z212 := Tryd.sizeOf97
  v212 := Tryd.zeroValue97
  t213 := Tryd.underlying98
  a213 := Tryd.isAgg98
  z213 := Tryd.sizeOf98
  t232 := Tryd.underlying101
  a232 := Tryd.isAgg101
  z232 := Tryd.sizeOf101
  v232 := Tryd.zeroValue101
  t233 := Tryd.underlying102
  a233 := Tryd.isAgg102
  z233 := Tryd.sizeOf102
  v233 := Tryd.zeroValue102
  g17 := by kernel_rfl
  g18 := by kernel_rfl
  g19 := by kernel_rfl
  i0 := by kernel_rfl
  i2 := by kernel_rfl
  i3 := by kernel_rfl
  i4 := by kernel_rfl
  i5 := by kernel_rfl
  i9 := by kernel_rfl
  i20 := by kernel_rfl
  i37 := by kernel_rfl
  i46 := by kernel_rfl
  i51 := by kernel_rfl
  i53 := by kernel_rfl
  i171 := by kernel_rfl
  i173 := by kernel_rfl
  i212 := by kernel_rfl
  i232 := by kernel_rfl
  i233 := by kernel_rfl
  m17 := by kernel_rfl
  m18 := by kernel_rfl
  m19 := by kernel_rfl }
open Go.RowKit Go.Sort Go.Lib in
theorem Tryd.strconv_Itoa (n : Int) (h0 : -9223372036854775808 ≤ n) (h1 : n ≤ 9223372036854775807) (w : World) (htab : Lib.TabIs Tryd.prog w "internal/strconv.uint64pow10" .u64 Lib.pow10Tab) :
    Calls Tryd.prog 63 #[.int .i64 n] w fun e w' => e = .returned (.string ⟨(Lib.itoa n).toArray⟩) ∧ ∃ k os, w' = grow (w.drewN k) os := Any.strconv_Itoa Tryd.laysM171 n h0 h1 w htab
def Tryd.lays105_ren : Go.Shelf.Ren := ⟨fun | 105 => 50 | 212 => 70 | 99 => 71 | 165 => 72 | 166 => 28 | 170 => 73 | 169 => 30 | 263 => 82 | 264 => 83 | 206 => 84 | 240 => 56 | 241 => 85 | 276 => 75 | 277 => 88 | n => n, fun | 9 => 9 | 3 => 3 | 4 => 4 | 20 => 20 | 0 => 0 | 46 => 71 | 109 => 72 | 5 => 5 | 72 => 44 | 76 => 47 | 51 => 83 | 146 => 84 | 53 => 86 | 148 => 87 | 70 => 41 | 37 => 42 | 75 => 46 | 127 => 66 | 164 => 78 | 80 => 50 | n => n, fun | n => n⟩
theorem Tryd.lays105 : Go.Proofs.Lays.n105 Tryd.prog Tryd.lays105_ren := {
  mixed := by kernel_rfl
  f99 := Tryd.func71.trans (congrArg some (by kernel_rfl))
  f105 := Tryd.func50.trans (congrArg some (by kernel_rfl))
  f165 := Tryd.func72.trans (congrArg some (by kernel_rfl))
  f166 := Tryd.func28.trans (congrArg some (by kernel_rfl))
  f169 := Tryd.func30.trans (congrArg some (by kernel_rfl))
  f170 := Tryd.func73.trans (congrArg some (by kernel_rfl))
  f206 := Tryd.func84.trans (congrArg some (by kernel_rfl))
  f212 := Tryd.func70.trans (congrArg some (by kernel_rfl))
  f240 := Tryd.func56.trans (congrArg some (by kernel_rfl))
  f241 := Tryd.func85.trans (congrArg some (by kernel_rfl))
  f263 := Tryd.func82.trans (congrArg some (by kernel_rfl))
  f264 := Tryd.func83.trans (congrArg some (by kernel_rfl))
  f276 := Tryd.func75.trans (congrArg some (by kernel_rfl))
  f277 := Tryd.func88.trans (congrArg some (by kernel_rfl))
  t0 := Tryd.underlying0
  a0 := Tryd.isAgg0
  z0 := Tryd.sizeOf0
  v0 := Tryd.zeroValue0
  t3 := Tryd.underlying3
  a3 := Tryd.isAgg3
  z3 := Tryd.sizeOf3
  v3 := Tryd.zeroValue3
  t4 := Tryd.underlying4
  a4 := Tryd.isAgg4
  z4 := Tryd.sizeOf4
  v4 := Tryd.zeroValue4
  t5 := Tryd.underlying5
  a5 := Tryd.isAgg5
  z5 := Tryd.sizeOf5
  v5 := Tryd.zeroValue5
  t9 := Tryd.underlying9
  a9 := Tryd.isAgg9
  z9 := Tryd.sizeOf9
  v9 := Tryd.zeroValue9
  t20 := Tryd.underlying20
  a20 := Tryd.isAgg20
  z20 := Tryd.sizeOf20
  v20 := Tryd.zeroValue20
  t37 := Tryd.underlying42
  a37 := Tryd.isAgg42
  z37 := Tryd.sizeOf42
  v37 := Tryd.zeroValue42
  t46 := Tryd.underlying71
  a46 := Tryd.isAgg71
  z46 := Tryd.sizeOf71
  v46 := Tryd.zeroValue71
  t51 := Tryd.underlying83
  a51 := Tryd.isAgg83
  z51 := Tryd.sizeOf83
  v51 := Tryd.zeroValue83
  t53 := Tryd.underlying86
  a53 := Tryd.isAgg86
  z53 := Tryd.sizeOf86
  v53 := Tryd.zeroValue86
  t70 := Tryd.underlying41
  a70 := Tryd.isAgg41
  z70 := Tryd.sizeOf41
  v70 := Tryd.zeroValue41
  t72 := Tryd.underlying44
  a72 := Tryd.isAgg44
  z72 := Tryd.sizeOf44
  v72 := Tryd.zeroValue44
  t75 := Tryd.underlying46
  a75 := Tryd.isAgg46
  z75 := Tryd.sizeOf46
  v75 := Tryd.zeroValue46
  t76 := Tryd.underlying47
  a76 := Tryd.isAgg47
  z76 := Tryd.sizeOf47
  v76 := Tryd.zeroValue47
  t109 := Tryd.underlying72
  a109 := Tryd.isAgg72
  z109 := Tryd.sizeOf72
  v109 := Tryd.zeroValue72
  t127 := Tryd.underlying66
  a127 := Tryd.isAgg66
  z127 := Tryd.sizeOf66
  v127 := Tryd.zeroValue66
  t146 := Tryd.underlying84
  a146 := Tryd.isAgg84
  z146 := Tryd.sizeOf84
  v146 := Tryd.zeroValue84
  t148 := Tryd.underlying87
  a148 := Tryd.isAgg87
  z148 := Tryd.sizeOf87
  v148 := Tryd.zeroValue87
  t164 := Tryd.underlying78
  a164 := Tryd.isAgg78
  z164 := Tryd.sizeOf78
  v164 := Tryd.zeroValue78 }
theorem Tryd.Builder_Extra_105 : Builder.Extra Tryd.prog Tryd.lays105_ren := {
  sizeBuilder := by kernel_rfl
  liesBuilder := by kernel_rfl
  t5 := Tryd.underlying5
  a5 := Tryd.isAgg5
  z5 := Tryd.sizeOf5
  v5 := Tryd.zeroValue5
  infoByte := by kernel_rfl
  cellsByte := by kernel_rfl
  sizeByte := by kernel_rfl
  neB5 := by decide }
open Go.RowKit Go.Lib in
theorem Tryd.strings_Repeat (s : ByteArray) (c : Nat) (w : World) (hc : c ≤ 9223372036854775807) (hlen : s.size * c ≤ 140737488355328) :
    Calls Tryd.prog 50 #[.string s, .int .i64 c] w fun e w' => e = .returned (.string ⟨(Lib.repeatL s.data.toList c).toArray⟩) ∧ Below w.heap.size w w' := Any.strings_Repeat Tryd.lays105 Tryd.Builder_Extra_105 s c w hc hlen
end Go.Proofs
namespace Go.Proofs.YtpgepjefbhgblaaDoor
open Go Go.Ab
theorem mix : Tryd.prog.follows .mixedOrders = true := by kernel_rfl
def SM {α : Type} (x : α) : Prop := x = x
def Z0 : Int := 0
def Z1 : Int := 1
def N0 : Nat := 0
def N1 : Nat := 1
def N2 : Nat := 2
def N4 : Nat := 4
def N6 : Nat := 6
def U0 : UInt8 := 0
def LN {α : Type} (l : List α) : Nat := List.length l
def LI {α : Type} (l : List α) : Int := (↑(List.length l) : Int)
def BI (l : List UInt8) (i : Nat) : Int := (↑(UInt8.toNat (List.getD l i (0 : UInt8))) : Int)
def NI (x : Nat) : Int := (↑x : Int)
def TN (x : Nat) : Nat := Int.toNat (↑x : Int)
def TL {α : Type} (l : List α) : Nat := Int.toNat (↑(List.length l) : Int)
def GI (l : List Int) (i : Nat) : Int := List.getD l i (0 : Int)
def ZI (a : Int) : D := D.int IntKind.i64 a
def ZB (a : Int) : D := D.int IntKind.u8 a
def SI (l : List Int) : D := D.sl (1 : Nat) (List.length l) (fun (i : Nat) => [D.int IntKind.i64 (List.getD l i (0 : Int))]) Mode.any
abbrev Con := Nat → List D → St → Option FnSpec
noncomputable def E0 (con : Con) (n V : Nat) (cross : List Nat) (ord : Nat → List Nat × List Nat) : Senv where
  P := Tryd.prog
  tt := tabGet tab
  n := n
  dfs := []
  V := V
  cross := cross
  gh := fun _ => []
  gr := []
  unr := fun _ => 0
  cut := fun _ _ _ => none
  ann := fun _ _ _ => none
  ord := ord
  con := con
  eqs := eqs
noncomputable def EC (con : Con) (n V : Nat) (cross : List Nat) (ord : Nat → List Nat × List Nat) : Senv :=
  { E0 con n V cross ord with auto := true, inl := inlD { E0 con 0 0 [] (fun _ => ([], [])) with auto := true } (frmGet frames) 9 }
abbrev con0 : Con := fun _ _ _ => none
theorem con0_ok : ConOk Tryd.prog con0 := fun _ _ _ _ h => nomatch h
theorem eOk {con : Con} (hc : ConOk Tryd.prog con) {E : Senv} (h : E = { EC con E.n E.V E.cross E.ord with gh := E.gh, gr := E.gr, unr := E.unr, cut := E.cut, ann := E.ann, cut2 := E.cut2, ann2 := E.ann2, own := E.own, gz := E.gz, mg := E.mg, pvt := E.pvt, bcut := E.bcut, bd := E.bd }) : EnvOk E := by
  rw [h]
  exact ⟨tab_ok, hc, mix, fun k ds S R h => inlD_ok (E := { E0 con 0 0 [] (fun _ => ([], [])) with auto := true }) tab_ok hc mix frames_ok eqs_ok 9 k ds S R h, eqs_ok⟩
def pC (ds : List D) (d : D) (p : Prop) : FnSpec where
  β := Unit
  α := Unit
  args := fun _ => ds
  st := fun _ => ⟨[], []⟩
  pre := fun _ => p
  post := fun _ _ => True
  res := fun _ _ => .ret d
  out := fun _ _ => ⟨[], []⟩
  fit := some ()
theorem leS_nil (S : St) : leS ⟨[], []⟩ S := by simp [leS, chk_iff, nodupB, leO, leT]
theorem pC_ok {k : Nat} {ds : List D} {S : St} {us : List D} {d : D} {p : Prop} (h : p → weakL ds us ∧ ACalls Tryd.prog k us ⟨[], []⟩ (SpecR (sC us d) ())) :
    (∀ x, (pC us d p).pre x → ACalls Tryd.prog k ((pC us d p).args x) ((pC us d p).st x) (SpecR (pC us d p) x)) ∧ (∀ x, (pC us d p).fit = some x → (pC us d p).pre x → weakL ds ((pC us d p).args x) ∧ leS ((pC us d p).st x) S) ∧ ((pC us d p).all = true → ∀ x, (pC us d p).pre x → weakL ds ((pC us d p).args x) ∧ (pC us d p).st x = S) :=
  ⟨fun _ hp => (h hp).2.mono fun _ _ ⟨_, _h1, h2, h3⟩ => ⟨(), trivial, h2, h3⟩, fun _ _ hp => ⟨(h hp).1, leS_nil S⟩, fun e => nomatch e⟩
theorem drop_step {α : Type} [Inhabited α] {l : List α} {i : Nat} (h : i < l.length) : l.drop i = l.getD i default :: l.drop (i + 1) := by
  rw [List.drop_eq_getElem_cons h]
  simp [List.getD_eq_getElem?_getD, h]
end Go.Proofs.YtpgepjefbhgblaaDoor
namespace Go.Proofs.YtpgepjefbhgblaaDoor
open Go Go.Ab
def bsl (l : List UInt8) (m : Ab.Mode) : D := .sl 1 l.length (fun i => [.int .u8 ((l.getD i 0).toNat : Int)]) m
def isl (l : List Int) (m : Ab.Mode) : D := .sl 1 l.length (fun i => [.int .i64 (l.getD i 0)]) m
inductive Arr where
  | mk (kind : Int) (shape nums : List Int) (items : List Arr)
def inI64 (z : Int) : Prop := -9223372036854775808 ≤ z ∧ z ≤ 9223372036854775807
mutual
def Arr.row : Arr → List D
  | .mk k s n is => [.int .i64 k, isl s .any, isl n .any, .sl 4 (rowsL is).length (fun i => (rowsL is).getD i []) .any]
def rowsL : List Arr → List (List D)
  | [] => []
  | a :: r => a.row :: rowsL r
end
mutual
def Arr.ok : Arr → Prop
  | .mk k s n is => inI64 k ∧ (∀ z ∈ s, inI64 z) ∧ (∀ z ∈ n, inI64 z) ∧ s.length ≤ maxLen ∧ n.length ≤ maxLen ∧ is.length ≤ maxLen ∧ okL is
def okL : List Arr → Prop
  | [] => True
  | a :: r => a.ok ∧ okL r
end
theorem rowsL_map : ∀ (l : List Arr), rowsL l = l.map Arr.row
  | [] => rfl
  | a :: l => by simp only [rowsL, List.map_cons, rowsL_map l]
theorem okL_iff : ∀ (l : List Arr), okL l ↔ ∀ a ∈ l, a.ok
  | [] => by simp [okL]
  | a :: l => by simp only [okL, List.forall_mem_cons, okL_iff l]
def RInts : List D → Prop := fun ds => ∃ l : List Int, (∀ z ∈ l, inI64 z) ∧ l.length ≤ maxLen ∧ ds = [isl l .any]
def RArr : List D → Prop := fun ds => ∃ a : Arr, a.ok ∧ ds = a.row
theorem int_row : ∀ x, RInt .i64 x → ∃ z, inI64 z ∧ x = [.int .i64 z] := by
  rintro x ⟨n, rfl, h1, h2⟩
  simp only [IntKind.min, IntKind.max, IntKind.signed, IntKind.bits] at h1 h2
  exact ⟨n, ⟨by simpa using h1, by simp at h2; omega⟩, rfl⟩
theorem read_ints (W : World) (n : Nat) : ReadAt Tryd.prog W n 23 RInts := by
  cases n with
  | zero => exact .zero _ _
  | succ n =>
    refine (read_sliceA (w := 1) Tryd.underlying23 (by kernel_rfl) (by decide) (read_int Tryd.underlying3 W n)).weak ?_
    rintro _ ds vs ⟨l, h1, h2, rfl⟩ h
    obtain ⟨l', q, rfl⟩ := rows_of int_row l h1
    refine ⟨_, ⟨l', q, by simpa using h2, rfl⟩, weakL_weak _ _ ?_ _ _ h⟩
    simp only [isl, weakL, weakD, chk_iff]
    refine ⟨⟨by simp, by simp, fun i hi => ?_, by simp [weakM]⟩, trivial⟩
    have hi : i < l'.length := by simpa using hi
    simp [List.getD_eq_getElem?_getD, hi]
theorem read_arr (W : World) : ∀ n, ReadAt Tryd.prog W n 26 RArr
  | 0 => .zero _ _
  | n + 1 => by
    have hi : ReadAt Tryd.prog W n 24 (RSliceA 4 RArr) := by
      cases n with
      | zero => exact .zero _ _
      | succ m => exact read_sliceA (w := 4) Tryd.underlying24 (by kernel_rfl) (by decide) (read_arr W m)
    refine (read_struct Tryd.underlying26 (by kernel_rfl) (Rs := [RInt .i64, RInts, RInts, RSliceA 4 RArr]) ⟨read_int (by kernel_rfl) W n, read_ints W n, read_ints W n, hi, trivial⟩).mono ?_
    rintro ds ⟨_, _, h1, ⟨_, _, h2, ⟨_, _, h3, ⟨_, _, h4, h5, rfl⟩, rfl⟩, rfl⟩, rfl⟩
    obtain rfl : _ = [] := h5
    obtain ⟨k, hk, rfl⟩ := int_row _ h1
    obtain ⟨s, s1, s2, rfl⟩ := h2
    obtain ⟨m, m1, m2, rfl⟩ := h3
    obtain ⟨l, l1, l2, rfl⟩ := h4
    obtain ⟨is, q, rfl⟩ := rows_of (g := Arr.row) (Q := Arr.ok) (fun x hx => hx) l l1
    refine ⟨.mk k s m is, ?_, ?_⟩
    · simp only [Arr.ok]
      exact ⟨hk, s1, m1, s2, m2, by simpa using l2, (okL_iff _).2 q⟩
    · simp only [Arr.row, rowsL_map, List.cons_append, List.nil_append]
end Go.Proofs.YtpgepjefbhgblaaDoor
namespace Go.Proofs.YtpgepjefbhgblaaDoor
open Go Go.Ab
def gsl {α : Type} [Inhabited α] (w : Nat) (g : α → List D) (l : List α) : D := .sl w l.length (fun i => g (l.getD i default)) .any
instance : Inhabited Arr := ⟨.mk 0 [] [] []⟩
def DA : Arr := Arr.mk (0 : Int) [] [] []
def GA (l : List Arr) (i : Nat) : Arr := List.getD l i (Arr.mk (0 : Int) [] [] [])
end Go.Proofs.YtpgepjefbhgblaaDoor
namespace Go.Proofs.YtpgepjefbhgblaaDoor
open Go Go.Ab
def intD : List D → Int
  | [.int _ z] => z
  | _ => 0
def intsD (n : Nat) (f : Nat → List D) : List Int := (List.range n).map fun i => intD (f i)
theorem intsD_isl (l : List Int) : intsD l.length (fun i => [D.int .i64 (l.getD i 0)]) = l := by
  apply List.ext_getElem
  · simp [intsD]
  · intro i h1 h2
    simp [intsD, intD, List.getD_eq_getElem?_getD, h2]
def IntsP (n : Nat) (f : Nat → List D) : Prop := ∀ i, i < n → f i = [.int .i64 (intD (f i))]
theorem isl_weak {n : Nat} {f : Nat → List D} {m : Ab.Mode} (h : IntsP n f) : weakL [.sl 1 n f m] [isl (intsD n f) .any] := by
  simp only [isl, weakL, weakD, chk_iff]
  refine ⟨⟨by simp, by simp [intsD], fun i hi => ?_, by simp [weakM]⟩, trivial⟩
  have e : (intsD n f).getD i 0 = intD (f i) := by simp [intsD, List.getD_eq_getElem?_getD, hi]
  rw [e]
  exact h i hi
def goO : List Int → Int → Option Int
  | [], p => some p
  | d :: r, p => if d < 0 ∨ 65536 < d then none else if d = 0 then goO r p else if 65536 < p * d then none else goO r (p * d)
def rightS (s : List Int) : Bool := decide (s.length ≤ 8) && (goO s 1).isSome
def sizeS (s : List Int) : Int := if s.contains 0 then 0 else (goO s 1).getD 0
structure GoHead (l : List Int) (i : Nat) (p : Int) : Prop where
  hi : i ≤ l.length
  h1 : 1 ≤ p
  h2 : p ≤ 65536
  hg : goO (l.drop i) p = goO l 1
theorem GoHead.init (l : List Int) : GoHead l 0 1 := ⟨Nat.zero_le _, by omega, by omega, by simp⟩
theorem drop_stepI {l : List Int} {i : Nat} (h : i < l.length) : l.drop i = l.getD i 0 :: l.drop (i + 1) := drop_step h
theorem GoHead.step {l : List Int} {i : Nat} {p : Int} (h : GoHead l i p) (hlt : i < l.length) :
    (l.getD i 0 < 0 → goO l 1 = none) ∧ (65536 < l.getD i 0 → goO l 1 = none) ∧ (l.getD i 0 = 0 → GoHead l (i + 1) p) ∧
    (¬ l.getD i 0 < 0 → ¬ 65536 < l.getD i 0 → 0 ≤ p * l.getD i 0 ∧ p * l.getD i 0 ≤ 4294967296 ∧ (65536 < p * l.getD i 0 → l.getD i 0 ≠ 0 → goO l 1 = none) ∧ (¬ 65536 < p * l.getD i 0 → l.getD i 0 ≠ 0 → GoHead l (i + 1) (p * l.getD i 0))) := by
  have hg := h.hg
  rw [drop_stepI hlt, goO] at hg
  generalize l.getD i 0 = d at *
  refine ⟨fun h0 => ?_, fun h0 => ?_, fun h0 => ?_, fun h0 h3 => ?_⟩
  · rw [if_pos (.inl h0)] at hg; exact hg.symm
  · rw [if_pos (.inr h0)] at hg; exact hg.symm
  · subst h0
    simp at hg
    exact ⟨by omega, h.h1, h.h2, hg⟩
  · have b1 : 0 ≤ p * d := Int.mul_nonneg (by have := h.h1; omega) (by omega)
    have b2 : p * d ≤ 65536 * 65536 := Int.mul_le_mul h.h2 (by omega) (by omega) (by omega)
    refine ⟨b1, by omega, fun h4 h5 => ?_, fun h4 h5 => ?_⟩
    · rw [if_neg (by omega), if_neg h5, if_pos h4] at hg; exact hg.symm
    · rw [if_neg (by omega), if_neg h5, if_neg h4] at hg
      refine ⟨by omega, ?_, by omega, hg⟩
      have : 0 < p * d := Int.mul_pos (by have := h.h1; omega) (by omega)
      omega
theorem GoHead.done {l : List Int} {i : Nat} {p : Int} (h : GoHead l i p) (hge : ¬ (i : Int) < l.length) : goO l 1 = some p := by
  have hg := h.hg
  have : i = l.length := by have := h.hi; omega
  rw [this, List.drop_length, goO] at hg
  exact hg.symm
noncomputable def Eright (l : List Int) : Senv := { EC con0 31 1 [2, 3, 5, 8, 9, 10, 11, 12, 15, 22, 29] (fun _ => ([], [])) with
  ann := fun b _ _ => match b with
    | 0 => some { slots := [11, 3], keep := [9, 10], α := Nat × Int, st := fun y => ([.int .i64 y.1, .int .i64 y.2], ⟨[], []⟩), inv := fun y => GoHead l y.1 y.2, mu := fun y => l.length - y.1 }
    | _ => none }
noncomputable section
def shq0 (p0 : List Int) : Prop := True ∧ ∃ (_y : Unit), True ∧ false = rightS p0 ∧ True ∧ True
def shq1 (p0 : List Int) (p1 : Nat) : Int := GI p0 (Int.toNat (↑p1 : Int))
def shq2 (p0 : List Int) (p1 : Nat) : Bool := bif decide (shq1 p0 p1 < Z0) then true else decide ((65536 : Int) < shq1 p0 p1)
def shq3 (p0 : List Int) : D := SI p0
def shq4 (p0 : List Int) : Prop := SM (shq3 p0) ∧ SM (ZI (LI p0)) ∧ True
end
theorem right_ok (l : List Int) : ACalls Tryd.prog 52 [isl l .any] ⟨[], []⟩ (SpecR (sC [isl l .any] (.bool (rightS l))) ()) := by
  refine con_of (A := sC _ _) (x := ()) (E := Eright l) (eOk con0_ok rfl) Tryd.func52 rfl (by kernel_rfl) rfl (by simp [sC, Eright, EC, E0]) ?_
  refine vc_eq (T :=
    ifB (decide ((8 : Int) < (LI l))) (shq0 l) ((∃ (x : Nat × Int), GoHead l x.1 x.2 ∧ (Z0 = (NI x.1) ∧ Z1 = x.2 ∧ True) ∧ True ∧ True) ∧ ∀ (x : Nat × Int), GoHead l x.1 x.2 → ifB (decide ((NI x.1) < (LI l))) (side (Z0 ≤ (NI x.1) ∧ (NI x.1) < (LI l)) (ifB (decide (shq1 l x.1 < Z0)) (true = shq2 l x.1 ∧ True) (decide ((65536 : Int) < shq1 l x.1) = shq2 l x.1 ∧ True) ∧ ifB (shq2 l x.1) (shq0 l) (ifB (shq1 l x.1 == Z0) (shq4 l ∧ ∃ (y : Nat × Int), GoHead l y.1 y.2 ∧ LN l - y.1 < LN l - x.1 ∧ (IntKind.wrap IntKind.i64 ((NI x.1) + Z1) = (NI y.1) ∧ x.2 = y.2 ∧ True) ∧ True ∧ True) (ifB (decide ((65536 : Int) < IntKind.wrap IntKind.i64 (x.2 * shq1 l x.1))) (shq0 l) (shq4 l ∧ ∃ (y : Nat × Int), GoHead l y.1 y.2 ∧ LN l - y.1 < LN l - x.1 ∧ (IntKind.wrap IntKind.i64 ((NI x.1) + Z1) = (NI y.1) ∧ IntKind.wrap IntKind.i64 (x.2 * shq1 l x.1) = y.2 ∧ True) ∧ True ∧ True))))) (True ∧ ∃ (y : Unit), True ∧ true = rightS l ∧ True ∧ True))) (by kernel_rfl) ?_
  delta GI LI LN N1 NI SI SM Z0 Z1 ZI shq0 shq1 shq2 shq3 shq4
  simp only [Int.toNat_natCast, ifB_iff, side_iff, decide_eq_true_eq, decide_eq_false_iff_not, true_and, and_true, beq_iff_eq, Bool.cond_true_left, beq_eq_false_iff_ne, ne_eq, exists_const]
  have no : goO l 1 = none → false = rightS l := fun h => by simp [rightS, h]
  refine ⟨fun h => ?_, fun h8 => ⟨⟨(0, 1), GoHead.init l, rfl, rfl⟩, ?_⟩⟩
  · have : ¬ l.length ≤ 8 := by omega
    simp [rightS, this]
  rintro ⟨i, p⟩ hh
  simp only at hh ⊢
  refine ⟨fun hlt => ?_, fun hge => ?_⟩
  rotate_left
  · have : l.length ≤ 8 := by omega
    simp [rightS, hh.done hge, this]
  have hlt' : i < l.length := by omega
  obtain ⟨s1, s2, s3, s4⟩ := hh.step hlt'
  refine ⟨by omega, ⟨fun h => by rw [decide_eq_true h]; rfl, fun h => by rw [decide_eq_false h]; rfl⟩, fun h => no ?_, fun h => ?_⟩
  · rw [Bool.or_eq_true, decide_eq_true_eq, decide_eq_true_eq] at h
    exact h.elim s1 s2
  · rw [Bool.or_eq_false_iff, decide_eq_false_iff_not, decide_eq_false_iff_not] at h
    obtain ⟨b1, b2, s5, s6⟩ := s4 h.1 h.2
    have hw : IntKind.i64.wrap (p * l.getD i 0) = p * l.getD i 0 := wrap_i64' (by omega) (by omega)
    rw [hw]
    exact ⟨fun hd => ⟨(i + 1, p), s3 hd, by simp only; omega, wrap_i64' (by omega) (by omega), rfl⟩, fun hd => ⟨fun h4 => no (s5 h4 hd), fun h4 => ⟨(i + 1, p * l.getD i 0), s6 h4 hd, by simp only; omega, wrap_i64' (by omega) (by omega), rfl⟩⟩⟩
noncomputable def Erprod (l : List Int) : Senv := { EC con0 30 1 [2, 3, 4, 8, 15, 20, 28] (fun _ => ([], [])) with
  ann := fun b _ _ => match b with
    | 0 => some { slots := [4, 3], keep := [0], α := Nat × Int, st := fun y => ([.int .i64 y.1, .int .i64 y.2], ⟨[], []⟩), inv := fun y => GoHead l y.1 y.2, mu := fun y => l.length - y.1 }
    | _ => none }
noncomputable section
def shq5 (p0 : List Int) : Prop := True ∧ ∃ (_y : Unit), True ∧ (65537 : Int) = Option.getD (goO p0 Z1) (65537 : Int) ∧ True ∧ True
def shq6 (p0 : List Int) : D := SI p0
def shq7 (p0 : List Int) : Prop := SM (shq6 p0) ∧ True
end
theorem rprod_ok (l : List Int) (h0 : ∀ z ∈ l, 0 ≤ z) (hl : l.length ≤ maxLen) : ACalls Tryd.prog 76 [isl l .any] ⟨[], []⟩ (SpecR (sC [isl l .any] (.int .i64 ((goO l 1).getD 65537))) ()) := by
  refine con_of (A := sC _ _) (x := ()) (E := Erprod l) (eOk con0_ok rfl) Tryd.func76 rfl (by kernel_rfl) rfl (by simp [sC, Erprod, EC, E0]) ?_
  refine vc_eq (T :=
    (∃ (x : Nat × Int), GoHead l x.1 x.2 ∧ (Z0 = (NI x.1) ∧ Z1 = x.2 ∧ True) ∧ True ∧ True) ∧ ∀ (x : Nat × Int), GoHead l x.1 x.2 → ifB (decide ((NI x.1) < (LI l))) (side (Z0 ≤ (NI x.1) ∧ (NI x.1) < (LI l)) (ifB (decide ((65536 : Int) < GI l (TN x.1))) (shq5 l) (side (Z0 ≤ (NI x.1) ∧ (NI x.1) < (LI l)) (ifB (decide (Z0 < GI l (TN x.1))) (side (Z0 ≤ (NI x.1) ∧ (NI x.1) < (LI l)) (ifB (decide ((65536 : Int) < IntKind.wrap IntKind.i64 (x.2 * GI l (TN x.1)))) (shq5 l) (shq7 l ∧ ∃ (y : Nat × Int), GoHead l y.1 y.2 ∧ LN l - y.1 < LN l - x.1 ∧ (IntKind.wrap IntKind.i64 ((NI x.1) + Z1) = (NI y.1) ∧ IntKind.wrap IntKind.i64 (x.2 * GI l (TN x.1)) = y.2 ∧ True) ∧ True ∧ True))) (ifB (decide ((65536 : Int) < x.2)) (shq5 l) (shq7 l ∧ ∃ (y : Nat × Int), GoHead l y.1 y.2 ∧ LN l - y.1 < LN l - x.1 ∧ (IntKind.wrap IntKind.i64 ((NI x.1) + Z1) = (NI y.1) ∧ x.2 = y.2 ∧ True) ∧ True ∧ True)))))) (True ∧ ∃ (y : Unit), True ∧ x.2 = Option.getD (goO l Z1) (65537 : Int) ∧ True ∧ True)) (by kernel_rfl) ?_
  delta GI LI LN N1 NI SI SM TN Z0 Z1 ZI shq5 shq6 shq7
  simp only [Int.toNat_natCast, ifB_iff, side_iff, decide_eq_true_eq, decide_eq_false_iff_not, true_and, and_true, exists_const]
  have no : goO l 1 = none → (65537 : Int) = (goO l 1).getD 65537 := fun h => by simp [h]
  refine ⟨⟨(0, 1), GoHead.init l, rfl, rfl⟩, ?_⟩
  rintro ⟨i, p⟩ hh
  simp only at hh ⊢
  refine ⟨fun hlt => ?_, fun hge => by simp [hh.done hge]⟩
  have hlt' : i < l.length := by omega
  obtain ⟨s1, s2, s3, s4⟩ := hh.step hlt'
  have hd0 : 0 ≤ l.getD i 0 := h0 _ (by rw [List.getD_eq_getElem?_getD, List.getElem?_eq_getElem hlt']; exact List.getElem_mem hlt')
  simp only [maxLen] at hl
  refine ⟨by omega, fun h => no (s2 h), fun h => ⟨by omega, ?_⟩⟩
  obtain ⟨b1, b2, s5, s6⟩ := s4 (by omega) h
  have hw : IntKind.i64.wrap (p * l.getD i 0) = p * l.getD i 0 := wrap_i64' (by omega) (by omega)
  rw [hw]
  refine ⟨fun hd => ⟨by omega, fun h4 => no (s5 h4 (by omega)), fun h4 => ⟨(i + 1, p * l.getD i 0), s6 h4 (by omega), by simp only; omega, wrap_i64' (by omega) (by omega), rfl⟩⟩, fun hd => ⟨fun h4 => absurd h4 (by have := hh.h2; omega), fun _ => ⟨(i + 1, p), s3 (by omega), by simp only; omega, wrap_i64' (by omega) (by omega), rfl⟩⟩⟩
end Go.Proofs.YtpgepjefbhgblaaDoor
namespace Go.Proofs.YtpgepjefbhgblaaDoor
open Go Go.Ab
theorem repeat_ok (s : List UInt8) (n : Int) (h0 : 0 ≤ n) (hn : n ≤ 9223372036854775807) (hl : s.length * n.toNat ≤ 140737488355328) : ACalls Tryd.prog 50 [.str s, .int .i64 n] ⟨[], []⟩ (SpecR (sC [.str s, .int .i64 n] (.str (Lib.repeatL s n.toNat))) ()) := by
  refine ACalls.of_shelf ⟨_, Tryd.func50, by kernel_rfl, by kernel_rfl⟩ fun C args w ha => ?_
  obtain ⟨u, v, e, hu, hv⟩ := repL_two' ha
  have e2 : args = [u, v].toArray := by rw [← e]
  subst e2
  simp only [Rep] at hu hv; subst hu hv
  have := Tryd.strings_Repeat ⟨s.toArray⟩ n.toNat w (by omega) (by simpa [ByteArray.size] using hl)
  rw [show ((n.toNat : Nat) : Int) = n by omega] at this
  exact this.mono fun e w' ⟨h1, h2⟩ => ⟨⟨_, h1, by simp [Rep]⟩, h2⟩
def conR : Con := fun k ds _ => match k with
  | 50 => match ds with
    | [.str s, .int .i64 n] => some (pC [.str s, .int .i64 n] (.str (Lib.repeatL s n.toNat)) (0 ≤ n ∧ n ≤ 9223372036854775807 ∧ s.length * n.toNat ≤ 140737488355328))
    | _ => none
  | _ => none
theorem conR_ok : ConOk Tryd.prog conR := by
  intro k ds S A h
  unfold conR at h
  split at h
  · split at h
    · injection h with h; subst h
      exact pC_ok fun ⟨h1, h2, h3⟩ => ⟨weakL_refl _, repeat_ok _ _ h1 h2 h3⟩
    · cases h
  · cases h
end Go.Proofs.YtpgepjefbhgblaaDoor
namespace Go.Proofs.YtpgepjefbhgblaaDoor
open Go Go.Ab
def idxB (p : Int → Bool) : List Int → Nat → Int
  | [], _ => -1
  | d :: r, i => if p d then (i : Int) else idxB p r (i + 1)
theorem idxB_any (p : Int → Bool) : ∀ (l : List Int) (i : Nat), decide (0 ≤ idxB p l i) = l.any p
  | [], i => rfl
  | d :: r, i => by
    rw [idxB, List.any_cons]
    split
    · rename_i h; rw [h]; simp
    · rename_i h
      rw [idxB_any p r (i + 1)]
      simp [h]
structure IdxHead (p : Int → Bool) (l : List Int) (i : Nat) : Prop where
  hi : i ≤ l.length
  hg : idxB p (l.drop i) i = idxB p l 0
theorem IdxHead.step {p : Int → Bool} {l : List Int} {i : Nat} (h : IdxHead p l i) (hlt : i < l.length) : (p (l.getD i 0) = true → idxB p l 0 = i) ∧ (p (l.getD i 0) = false → IdxHead p l (i + 1)) := by
  have hg := h.hg
  rw [drop_stepI hlt, idxB] at hg
  refine ⟨fun e => ?_, fun e => ?_⟩
  · rw [if_pos e] at hg; exact hg.symm
  · rw [if_neg (by rw [e]; exact Bool.false_ne_true)] at hg; exact ⟨by omega, hg⟩
theorem IdxHead.done {p : Int → Bool} {l : List Int} {i : Nat} (h : IdxHead p l i) (hge : ¬ (i : Int) < l.length) : idxB p l 0 = -1 := by
  have hg := h.hg
  have : i = l.length := by have := h.hi; omega
  rw [this, List.drop_length, idxB] at hg
  exact hg.symm
def annI (p : Int → Bool) (l : List Int) (keep : List Nat) : LoopAnn := { slots := [8], keep := keep, α := Nat, st := fun i => ([.int .i64 i], ⟨[], []⟩), inv := fun i => IdxHead p l i, mu := fun i => l.length - i }
noncomputable def Eidx (l : List Int) (v : Int) : Senv := { EC con0 19 2 [4, 5, 7, 8, 9, 16] (fun _ => ([], [])) with
  ann := fun b _ _ => match b with
    | 0 => some (annI (fun d => v == d) l [0, 1, 6, 7])
    | _ => none }
noncomputable section
def sh2q0 (p0 : Int) (p1 : List Int) (p2 : Nat) : Prop := IdxHead (fun (d : Int) => p0 == d) p1 p2
def sh2q1 (p0 : List Int) : D := SI p0
end
theorem idx_ok (l : List Int) (v : Int) (hl : l.length ≤ maxLen) : ACalls Tryd.prog 86 [isl l .any, .int .i64 v] ⟨[], []⟩ (SpecR (sC [isl l .any, .int .i64 v] (.int .i64 (idxB (fun d => v == d) l 0))) ()) := by
  refine con_of (A := sC _ _) (x := ()) (E := Eidx l v) (eOk con0_ok rfl) Tryd.func86 rfl (by kernel_rfl) rfl (by simp [sC, Eidx, EC, E0]) ?_
  refine vc_eq (T :=
    (∃ (x : Nat), sh2q0 v l x ∧ (Z0 = (↑x : Int) ∧ True) ∧ True ∧ True) ∧ ∀ (x : Nat), sh2q0 v l x → ifB (decide ((↑x : Int) < (LI l))) (side (Z0 ≤ (↑x : Int) ∧ (↑x : Int) < (LI l)) (ifB (v == GI l (Int.toNat (↑x : Int))) (True ∧ ∃ (y : Unit), True ∧ (↑x : Int) = idxB (fun (d : Int) => v == d) l N0 ∧ True ∧ True) ((SM (sh2q1 l) ∧ SM (ZI v) ∧ SM D.unk ∧ SM (ZI (LI l)) ∧ True) ∧ ∃ (y : Nat), sh2q0 v l y ∧ LN l - y < LN l - x ∧ (IntKind.wrap IntKind.i64 ((↑x : Int) + Z1) = (↑y : Int) ∧ True) ∧ True ∧ True))) (True ∧ ∃ (y : Unit), True ∧ (-1 : Int) = idxB (fun (d : Int) => v == d) l N0 ∧ True ∧ True)) (by kernel_rfl) ?_
  delta GI LI LN N0 N1 SI SM Z0 Z1 ZI sh2q0 sh2q1
  simp only [Int.toNat_natCast, ifB_iff, side_iff, decide_eq_true_eq, decide_eq_false_iff_not, true_and, and_true, exists_const]
  simp only [maxLen] at hl
  refine ⟨⟨0, ⟨Nat.zero_le _, by simp⟩, rfl⟩, fun i hh => ⟨fun hlt => ?_, fun hge => (hh.done hge).symm⟩⟩
  have hlt' : i < l.length := by omega
  obtain ⟨s1, s2⟩ := hh.step hlt'
  exact ⟨by omega, fun h => (s1 h).symm, fun h => ⟨i + 1, s2 h, by omega, wrap_i64' (by omega) (by omega)⟩⟩
noncomputable def Eneg (l : List Int) : Senv := { EC con0 19 2 [4, 5, 7, 8, 9, 16] (fun _ => ([], [])) with
  ann := fun b _ _ => match b with
    | 0 => some (annI (fun d => decide (d < 0)) l [0, 1, 6, 7])
    | _ => none }
noncomputable section
def sh2q2 (p0 : List Int) (p1 : Nat) : Prop := IdxHead (fun (d : Int) => decide (d < Z0)) p0 p1
def sh2q3 (p0 : List Int) : Int := idxB (fun (d : Int) => decide (d < Z0)) p0 N0
def sh2q4 (p0 : List Int) : D := SI p0
end
theorem neg_ok (l : List Int) (hl : l.length ≤ maxLen) : ACalls Tryd.prog 77 [isl l .any, .fn (.func 62) [] []] ⟨[], []⟩ (SpecR (sC [isl l .any, .fn (.func 62) [] []] (.int .i64 (idxB (fun d => decide (d < 0)) l 0))) ()) := by
  refine con_of (A := sC _ _) (x := ()) (E := Eneg l) (eOk con0_ok rfl) Tryd.func77 rfl (by kernel_rfl) rfl (by simp [sC, Eneg, EC, E0]) ?_
  refine vc_eq (T :=
    (∃ (x : Nat), sh2q2 l x ∧ (Z0 = (↑x : Int) ∧ True) ∧ True ∧ True) ∧ ∀ (x : Nat), sh2q2 l x → ifB (decide ((↑x : Int) < (LI l))) (side (Z0 ≤ (↑x : Int) ∧ (↑x : Int) < (LI l)) (True ∧ ifB (decide (GI l (Int.toNat (↑x : Int)) < Z0)) (True ∧ ∃ (y : Unit), True ∧ (↑x : Int) = sh2q3 l ∧ True ∧ True) ((SM (sh2q4 l) ∧ SM (D.fn (Fn.func (62 : Nat)) [] []) ∧ SM D.unk ∧ SM (ZI (LI l)) ∧ True) ∧ ∃ (y : Nat), sh2q2 l y ∧ LN l - y < LN l - x ∧ (IntKind.wrap IntKind.i64 ((↑x : Int) + Z1) = (↑y : Int) ∧ True) ∧ True ∧ True))) (True ∧ ∃ (y : Unit), True ∧ (-1 : Int) = sh2q3 l ∧ True ∧ True)) (by kernel_rfl) ?_
  delta GI LI LN N0 N1 SI SM Z0 Z1 ZI sh2q2 sh2q3 sh2q4
  simp only [Int.toNat_natCast, ifB_iff, side_iff, decide_eq_true_eq, decide_eq_false_iff_not, true_and, and_true, exists_const]
  simp only [maxLen] at hl
  refine ⟨⟨0, ⟨Nat.zero_le _, by simp⟩, rfl⟩, fun i hh => ⟨fun hlt => ?_, fun hge => (hh.done hge).symm⟩⟩
  have hlt' : i < l.length := by omega
  obtain ⟨s1, s2⟩ := hh.step hlt'
  exact ⟨by omega, fun h => (s1 (decide_eq_true h)).symm, fun h => ⟨i + 1, s2 (decide_eq_false h), by omega, wrap_i64' (by omega) (by omega)⟩⟩
theorem intsP_isl (l : List Int) : IntsP l.length (fun i => [D.int .i64 (l.getD i 0)]) := fun _ _ => rfl
def conSh : Con := fun k ds S => match k with
  | 86 => match ds with
    | [.sl 1 n f _, .int .i64 v] => some (pC ds (.int .i64 (idxB (fun d => v == d) (intsD n f) 0)) (IntsP n f ∧ n ≤ maxLen))
    | _ => none
  | 77 => match ds with
    | [.sl 1 n f _, .fn (.func 62) [] []] => some (pC ds (.int .i64 (idxB (fun d => decide (d < 0)) (intsD n f) 0)) (IntsP n f ∧ n ≤ maxLen))
    | _ => none
  | 52 => match ds with
    | [.sl 1 n f _] => some (pC ds (.bool (rightS (intsD n f))) (IntsP n f))
    | _ => none
  | 76 => match ds with
    | [.sl 1 n f _] => some (pC ds (.int .i64 ((goO (intsD n f) 1).getD 65537)) (IntsP n f ∧ (∀ z ∈ intsD n f, 0 ≤ z) ∧ n ≤ maxLen))
    | _ => none
  | k => conR k ds S
theorem intsD_len (n : Nat) (f : Nat → List D) : (intsD n f).length = n := by simp [intsD]
theorem sC_weak {k : Nat} {ds us : List D} {d : D} (hw : weakL ds us) (h : ACalls Tryd.prog k us ⟨[], []⟩ (SpecR (sC us d) ())) : ACalls Tryd.prog k ds ⟨[], []⟩ (SpecR (sC ds d) ()) :=
  (ACalls.weakArgs h hw).mono fun _ _ ⟨_, _h1, h2, h3⟩ => ⟨(), trivial, h2, h3⟩
theorem conSh_ok : ConOk Tryd.prog conSh := by
  intro k ds S A h
  unfold conSh at h
  split at h
  · split at h
    · injection h with h; subst h
      exact pC_ok fun ⟨h1, h2⟩ => ⟨weakL_refl _, sC_weak (us := [isl (intsD _ _) .any, _]) ⟨(isl_weak h1).1, weakD_refl _, trivial⟩ (idx_ok _ _ (by rw [intsD_len]; exact h2))⟩
    · cases h
  · split at h
    · injection h with h; subst h
      exact pC_ok fun ⟨h1, h2⟩ => ⟨weakL_refl _, sC_weak (us := [isl (intsD _ _) .any, _]) ⟨(isl_weak h1).1, weakD_refl _, trivial⟩ (neg_ok _ (by rw [intsD_len]; exact h2))⟩
    · cases h
  · split at h
    · injection h with h; subst h
      exact pC_ok fun h1 => ⟨weakL_refl _, sC_weak (isl_weak h1) (right_ok _)⟩
    · cases h
  · split at h
    · injection h with h; subst h
      exact pC_ok fun ⟨h1, h2, h3⟩ => ⟨weakL_refl _, sC_weak (isl_weak h1) (rprod_ok _ h2 (by rw [intsD_len]; exact h3))⟩
    · cases h
  · exact conR_ok _ _ _ _ h
noncomputable def Eprod (l : List Int) : Senv := { EC conSh 19 1 [2, 3, 5, 7, 8, 9, 10, 11] (fun _ => ([], [])) with
  ann := fun b _ _ => match b with
    | 0 => some { slots := [10, 3], keep := [8, 9], α := Nat × Int, st := fun y => ([.int .i64 y.1, .int .i64 y.2], ⟨[], []⟩), inv := fun y => GoHead l y.1 y.2, mu := fun y => l.length - y.1 }
    | _ => none }
noncomputable section
def sh2q5 (p0 : List Int) : D := SI p0
end
theorem prod_ok (l : List Int) (h : rightS l = true) : ACalls Tryd.prog 53 [isl l .any] ⟨[], []⟩ (SpecR (sC [isl l .any] (.int .i64 (sizeS l))) ()) := by
  refine con_of (A := sC _ _) (x := ()) (E := Eprod l) (eOk conSh_ok rfl) Tryd.func53 rfl (by kernel_rfl) rfl (by simp [sC, Eprod, EC, E0]) ?_
  refine vc_eq (T :=
    ((IntsP (LN l) fun (i : Nat) => [ZI (GI l i)]) ∧ LN l ≤ (9223372036854775807 : Nat)) ∧ ∀ (y : Unit), True → True ∧ ifB (decide (Z0 ≤ idxB (fun (d : Int) => Z0 == d) (intsD (LN l) fun (i : Nat) => [ZI (GI l i)]) N0)) (True ∧ ∃ (y : Unit), True ∧ Z0 = sizeS l ∧ True ∧ True) ((∃ (x : Nat × Int), GoHead l x.1 x.2 ∧ (Z0 = (NI x.1) ∧ Z1 = x.2 ∧ True) ∧ True ∧ True) ∧ ∀ (x : Nat × Int), GoHead l x.1 x.2 → ifB (decide ((NI x.1) < (LI l))) (side (Z0 ≤ (NI x.1) ∧ (NI x.1) < (LI l)) ((SM (sh2q5 l) ∧ SM (ZI (LI l)) ∧ True) ∧ ∃ (y : Nat × Int), GoHead l y.1 y.2 ∧ LN l - y.1 < LN l - x.1 ∧ (IntKind.wrap IntKind.i64 ((NI x.1) + Z1) = (NI y.1) ∧ IntKind.wrap IntKind.i64 (x.2 * GI l (TN x.1)) = y.2 ∧ True) ∧ True ∧ True)) (True ∧ ∃ (y : Unit), True ∧ x.2 = sizeS l ∧ True ∧ True))) (by kernel_rfl) ?_
  delta GI LI LN N0 N1 NI SI SM TN Z0 Z1 ZI sh2q5
  simp only [intsD_isl, idxB_any, Int.toNat_natCast, ifB_iff, side_iff, decide_eq_true_eq, decide_eq_false_iff_not, true_and, and_true, exists_const]
  simp only [rightS, Bool.and_eq_true, decide_eq_true_eq] at h
  have hcon : (l.any fun d => 0 == d) = l.contains 0 := by
    rw [Bool.eq_iff_iff, List.contains_iff_mem, List.any_eq_true]
    constructor
    · rintro ⟨z, hz, e⟩
      have e : 0 = z := by simpa using e
      rw [e]; exact hz
    · exact fun hm => ⟨0, hm, rfl⟩
  rw [hcon]
  refine ⟨⟨intsP_isl l, by omega⟩, fun _ _ => ⟨fun hz => by rw [sizeS, if_pos hz], fun hz => ⟨⟨(0, 1), GoHead.init l, rfl, rfl⟩, ?_⟩⟩⟩
  rintro ⟨i, p⟩ hh
  simp only at hh ⊢
  refine ⟨fun hlt => ?_, fun hge => by rw [sizeS, if_neg (by rw [hz]; exact Bool.false_ne_true), hh.done hge]; rfl⟩
  have hlt' : i < l.length := by omega
  obtain ⟨s1, s2, s3, s4⟩ := hh.step hlt'
  have hne : l.getD i 0 ≠ 0 := by
    intro e
    have : l.contains 0 = true := by
      rw [List.contains_iff_mem, ← e, List.getD_eq_getElem?_getD, List.getElem?_eq_getElem hlt']; exact List.getElem_mem hlt'
    rw [this] at hz; cases hz
  have n1 : ¬ l.getD i 0 < 0 := fun e => by rw [s1 e] at h; exact absurd h.2 (by simp)
  have n2 : ¬ 65536 < l.getD i 0 := fun e => by rw [s2 e] at h; exact absurd h.2 (by simp)
  obtain ⟨b1, b2, s5, s6⟩ := s4 n1 n2
  have n3 : ¬ 65536 < p * l.getD i 0 := fun e => by rw [s5 e hne] at h; exact absurd h.2 (by simp)
  exact ⟨by omega, (i + 1, p * l.getD i 0), s6 n3 hne, by simp only; omega, wrap_i64' (by omega) (by omega), wrap_i64' (by omega) (by omega)⟩
noncomputable def Edims (l : List Int) : Senv := { EC conSh 21 1 [2, 3, 6, 10, 17, 20] (fun _ => ([], [])) with
  ann := fun b _ _ => match b with
    | 0 => some { slots := [3], keep := [0], α := Nat, st := fun i => ([.int .i64 i], ⟨[], []⟩), inv := fun i => i ≤ l.length ∧ ∀ z ∈ l.take i, 0 ≤ z, mu := fun i => l.length - i }
    | _ => none }
theorem goO_le : ∀ (l : List Int) (p : Int), p ≤ 65536 → ∀ q, goO l p = some q → q ≤ 65536
  | [], p, hp, q, h => by rw [goO] at h; injection h with h; omega
  | d :: r, p, hp, q, h => by
    rw [goO] at h
    split at h
    · cases h
    · split at h
      · exact goO_le r p hp q h
      · split at h
        · cases h
        · exact goO_le r _ (by omega) q h
def dimsS (s : List Int) : Int := if 8 < s.length then 15 else if s.any (fun d => decide (d < 0)) then 16 else if (goO s 1).isSome then 0 else 21
noncomputable section
def sh2q6 (p0 : List Int) : Int := dimsS p0
def sh2q7 (p0 : Nat) (p1 : List Int) : Prop := p0 ≤ LN p1 ∧ ∀ (z : Int), z ∈ List.take p0 p1 → Z0 ≤ z
def sh2q8 (p0 : List Int) : D := SI p0
def sh2q9 (p0 : List Int) : List Int := intsD (LN p0) fun (i : Nat) => [ZI (GI p0 i)]
end
theorem dims_ok (l : List Int) : ACalls Tryd.prog 57 [isl l .any] ⟨[], []⟩ (SpecR (sC [isl l .any] (.int .i64 (dimsS l))) ()) := by
  refine con_of (A := sC _ _) (x := ()) (E := Edims l) (eOk conSh_ok rfl) Tryd.func57 rfl (by kernel_rfl) rfl (by simp [sC, Edims, EC, E0]) ?_
  refine vc_eq (T :=
    ifB (decide ((8 : Int) < (LI l))) (True ∧ ∃ (y : Unit), True ∧ (15 : Int) = sh2q6 l ∧ True ∧ True) ((∃ (x : Nat), sh2q7 x l ∧ (Z0 = (↑x : Int) ∧ True) ∧ True ∧ True) ∧ ∀ (x : Nat), sh2q7 x l → ifB (decide ((↑x : Int) < (LI l))) (side (Z0 ≤ (↑x : Int) ∧ (↑x : Int) < (LI l)) (ifB (decide (GI l (Int.toNat (↑x : Int)) < Z0)) (True ∧ ∃ (y : Unit), True ∧ (16 : Int) = sh2q6 l ∧ True ∧ True) ((SM (sh2q8 l) ∧ True) ∧ ∃ (y : Nat), sh2q7 y l ∧ LN l - y < LN l - x ∧ (IntKind.wrap IntKind.i64 ((↑x : Int) + Z1) = (↑y : Int) ∧ True) ∧ True ∧ True))) (((IntsP (LN l) fun (i : Nat) => [ZI (GI l i)]) ∧ (∀ (z : Int), z ∈ sh2q9 l → Z0 ≤ z) ∧ LN l ≤ (9223372036854775807 : Nat)) ∧ ∀ (y : Unit), True → ifB (decide ((65536 : Int) < Option.getD (goO (sh2q9 l) Z1) (65537 : Int))) (True ∧ ∃ (y : Unit), True ∧ (21 : Int) = sh2q6 l ∧ True ∧ True) (True ∧ ∃ (y : Unit), True ∧ Z0 = sh2q6 l ∧ True ∧ True)))) (by kernel_rfl) ?_
  delta GI LI LN N1 SI SM Z0 Z1 ZI sh2q6 sh2q7 sh2q8 sh2q9
  simp only [intsD_isl, Int.toNat_natCast, ifB_iff, side_iff, decide_eq_true_eq, decide_eq_false_iff_not, true_and, and_true, exists_const]
  have tk : ∀ i, i < l.length → ∀ P : Int → Prop, (∀ z ∈ l.take i, P z) → P (l.getD i 0) → ∀ z ∈ l.take (i + 1), P z := fun i hi P h1 h2 z hz => by
    rw [List.take_add_one, List.mem_append] at hz
    rcases hz with hz | hz
    · exact h1 z hz
    · rw [List.getElem?_eq_getElem hi] at hz
      simp at hz
      rw [hz]
      simpa [List.getD_eq_getElem?_getD, hi] using h2
  refine ⟨fun h => ?_, fun h8 => ⟨⟨0, ⟨Nat.zero_le _, by simp⟩, rfl⟩, fun i hh => ⟨fun hlt => ?_, fun hge => ?_⟩⟩⟩
  · have : 8 < l.length := by omega
    simp [dimsS, this]
  · have hlt' : i < l.length := by omega
    have h8' : ¬ 8 < l.length := by omega
    refine ⟨by omega, fun h => ?_, fun h => ⟨i + 1, ⟨by omega, tk i hlt' _ hh.2 (by omega)⟩, by omega, wrap_i64' (by omega) (by omega)⟩⟩
    have : l.any (fun d => decide (d < 0)) = true := by
      rw [List.any_eq_true]
      refine ⟨l.getD i 0, ?_, decide_eq_true h⟩
      rw [List.getD_eq_getElem?_getD, List.getElem?_eq_getElem hlt']; exact List.getElem_mem hlt'
    rw [dimsS, if_neg h8', if_pos this]
  · have hi : i = l.length := by omega
    rw [hi, List.take_length] at hh
    have h8' : ¬ 8 < l.length := by omega
    have hnn : ¬ l.any (fun d => decide (d < 0)) = true := by
      rw [List.any_eq_true]
      rintro ⟨z, hz, h⟩
      have := hh.2 z hz
      simp at h
      omega
    refine ⟨⟨intsP_isl l, hh.2, by omega⟩, fun _ _ => ?_⟩
    rw [dimsS, if_neg h8', if_neg hnn]
    have hb := goO_le l 1 (by omega)
    cases hg : goO l 1 with
    | none => simp
    | some p => have := hb p hg; simp; omega
noncomputable def Ecount (l : List Int) : Senv := { EC conSh 17 1 [2, 3, 7, 14] (fun _ => ([], [])) with
  ann := fun b _ _ => match b with
    | 0 => some { slots := [3], keep := [0], α := Nat, st := fun i => ([.int .i64 i], ⟨[], []⟩), inv := fun i => i ≤ l.length ∧ ∀ z ∈ l.take i, z ≠ 0, mu := fun i => l.length - i }
    | _ => none }
noncomputable section
def sh2q10 (p0 : Nat) (p1 : List Int) : Prop := p0 ≤ LN p1 ∧ ∀ (z : Int), z ∈ List.take p0 p1 → z ≠ Z0
def sh2q11 (p0 : List Int) : D := SI p0
def sh2q12 (p0 : List Int) : List Int := intsD (LN p0) fun (i : Nat) => [ZI (GI p0 i)]
end
theorem count_ok (l : List Int) (h : dimsS l = 0) : ACalls Tryd.prog 58 [isl l .any] ⟨[], []⟩ (SpecR (sC [isl l .any] (.int .i64 (sizeS l))) ()) := by
  refine con_of (A := sC _ _) (x := ()) (E := Ecount l) (eOk conSh_ok rfl) Tryd.func58 rfl (by kernel_rfl) rfl (by simp [sC, Ecount, EC, E0]) ?_
  refine vc_eq (T :=
    (∃ (x : Nat), sh2q10 x l ∧ (Z0 = (↑x : Int) ∧ True) ∧ True ∧ True) ∧ ∀ (x : Nat), sh2q10 x l → ifB (decide ((↑x : Int) < (LI l))) (side (Z0 ≤ (↑x : Int) ∧ (↑x : Int) < (LI l)) (ifB (GI l (Int.toNat (↑x : Int)) == Z0) (True ∧ ∃ (y : Unit), True ∧ Z0 = sizeS l ∧ True ∧ True) ((SM (sh2q11 l) ∧ True) ∧ ∃ (y : Nat), sh2q10 y l ∧ LN l - y < LN l - x ∧ (IntKind.wrap IntKind.i64 ((↑x : Int) + Z1) = (↑y : Int) ∧ True) ∧ True ∧ True))) (((IntsP (LN l) fun (i : Nat) => [ZI (GI l i)]) ∧ (∀ (z : Int), z ∈ sh2q12 l → Z0 ≤ z) ∧ LN l ≤ (9223372036854775807 : Nat)) ∧ ∀ (y : Unit), True → True ∧ ∃ (y : Unit), True ∧ Option.getD (goO (sh2q12 l) Z1) (65537 : Int) = sizeS l ∧ True ∧ True)) (by kernel_rfl) ?_
  delta GI LI LN N1 SI SM Z0 Z1 ZI sh2q10 sh2q11 sh2q12
  simp only [intsD_isl, Int.toNat_natCast, ifB_iff, side_iff, decide_eq_true_eq, decide_eq_false_iff_not, true_and, and_true, exists_const]
  have tk : ∀ i, i < l.length → ∀ P : Int → Prop, (∀ z ∈ l.take i, P z) → P (l.getD i 0) → ∀ z ∈ l.take (i + 1), P z := fun i hi P h1 h2 z hz => by
    rw [List.take_add_one, List.mem_append] at hz
    rcases hz with hz | hz
    · exact h1 z hz
    · rw [List.getElem?_eq_getElem hi] at hz
      simp at hz
      rw [hz]
      simpa [List.getD_eq_getElem?_getD, hi] using h2
  have hl8 : l.length ≤ 8 := by
    unfold dimsS at h
    split at h
    · cases h
    · omega
  have hnn : ∀ z ∈ l, 0 ≤ z := by
    intro z hz
    unfold dimsS at h
    split at h
    · cases h
    · split at h
      · cases h
      · rename_i hn
        rw [List.any_eq_true] at hn
        by_cases h0 : z < 0
        · exact (hn ⟨z, hz, decide_eq_true h0⟩).elim
        · omega
  have hg : (goO l 1).isSome = true := by
    unfold dimsS at h
    (repeat' split at h) <;> first | assumption | (cases h; done)
  refine ⟨⟨0, ⟨Nat.zero_le _, by simp⟩, rfl⟩, fun i hh => ⟨fun hlt => ?_, fun hge => ?_⟩⟩
  · have hlt' : i < l.length := by omega
    refine ⟨by omega, fun h => ?_, fun h => ⟨i + 1, ⟨by omega, tk i hlt' _ hh.2 (by simpa using h)⟩, by omega, wrap_i64' (by omega) (by omega)⟩⟩
    have h0 : l.getD i 0 = 0 := by simpa using h
    have : l.contains 0 = true := by
      rw [List.contains_iff_mem, ← h0, List.getD_eq_getElem?_getD, List.getElem?_eq_getElem hlt']; exact List.getElem_mem hlt'
    rw [sizeS, if_pos this]
  · have hi : i = l.length := by omega
    rw [hi, List.take_length] at hh
    refine ⟨⟨intsP_isl l, hnn, by omega⟩, fun _ _ => ?_⟩
    have : ¬ l.contains 0 = true := by
      rw [List.contains_iff_mem]
      exact fun hm => hh.2 0 hm rfl
    rw [sizeS, if_neg this]
    cases hgo : goO l 1 with
    | none => rw [hgo] at hg; cases hg
    | some p => rfl
end Go.Proofs.YtpgepjefbhgblaaDoor
namespace Go.Proofs.YtpgepjefbhgblaaDoor
open Go Go.Ab
def formS (k : Int) (s : List Int) (nn ni : Nat) : Int :=
  if k = 1 ∨ k = 2 ∨ k = 3 then
    if dimsS s ≠ 0 then dimsS s
    else if ((if k = 3 then (ni : Int) else nn) ≠ sizeS s) ∨ ((if k = 3 then (nn : Int) else ni) ≠ 0) then 16 else 0
  else 14
def conAr : Con := fun k ds S => match k with
  | 53 => match ds with
    | [.sl 1 n f _] => some (pC ds (.int .i64 (sizeS (intsD n f))) (IntsP n f ∧ rightS (intsD n f) = true))
    | _ => none
  | 57 => match ds with
    | [.sl 1 n f _] => some (pC ds (.int .i64 (dimsS (intsD n f))) (IntsP n f))
    | _ => none
  | 58 => match ds with
    | [.sl 1 n f _] => some (pC ds (.int .i64 (sizeS (intsD n f))) (IntsP n f ∧ dimsS (intsD n f) = 0))
    | _ => none
  | k => conSh k ds S
theorem conAr_ok : ConOk Tryd.prog conAr := by
  intro k ds S A h
  unfold conAr at h
  split at h
  · split at h
    · injection h with h; subst h
      exact pC_ok fun ⟨h1, h2⟩ => ⟨weakL_refl _, sC_weak (isl_weak h1) (prod_ok _ h2)⟩
    · cases h
  · split at h
    · injection h with h; subst h
      exact pC_ok fun h1 => ⟨weakL_refl _, sC_weak (isl_weak h1) (dims_ok _)⟩
    · cases h
  · split at h
    · injection h with h; subst h
      exact pC_ok fun ⟨h1, h2⟩ => ⟨weakL_refl _, sC_weak (isl_weak h1) (count_ok _ h2)⟩
    · cases h
  · exact conSh_ok _ _ _ _ h
noncomputable def Eform : Senv := EC conAr 44 5 [12, 13, 16, 20, 25, 29, 34] (fun id => match id with | 1 => ([0, 1, 2, 3, 4, 5, 6, 7], []) | _ => ([], []))
noncomputable section
def ar1q0 (p0 : Int) (p1 : List Int) (p2 p3 : Nat) : Int := formS p0 p1 p2 p3
def ar1q1 (p0 : List Int) : Prop := IntsP (LN p0) fun (i : Nat) => [ZI (GI p0 i)]
def ar1q2 (p0 : List Int) : Prop := ar1q1 p0 ∧ LN p0 ≤ (9223372036854775807 : Nat)
def ar1q3 (p0 : List Int) : List Int := intsD (LN p0) fun (i : Nat) => [ZI (GI p0 i)]
def ar1q4 (p0 : List Int) : Bool := decide (Z0 ≤ idxB (fun (d : Int) => decide (d < Z0)) (ar1q3 p0) N0)
def ar1q5 (p0 : Int) (p1 : List Int) (p2 p3 : Nat) : Prop := True ∧ ∃ (y : Unit), True ∧ (16 : Int) = ar1q0 p0 p1 p2 p3 ∧ True ∧ True
def ar1q6 (p0 : List Int) : Bool := rightS (ar1q3 p0)
def ar1q7 (p0 : List Int) : Bool := !ar1q6 p0
def ar1q8 (p0 : Int) (p1 : List Int) (p2 p3 : Nat) : Prop := True ∧ ar1q5 p0 p1 p2 p3
def ar1q9 (p0 : List Int) : Prop := ar1q1 p0 ∧ ar1q6 p0 = true
def ar1q10 (p0 : Nat) (p1 : List Int) : Bool := (↑p0 : Int) != sizeS (ar1q3 p1)
def ar1q11 (p0 : Nat) (p1 : List Int) (p2 : Int) (p3 p4 : Nat) : Prop := SM p0 ∧ ifB (decide ((8 : Int) < (LI p1))) (True ∧ ∃ (y : Unit), True ∧ (15 : Int) = ar1q0 p2 p1 p3 p4 ∧ True ∧ True) (SM p0 ∧ ar1q2 p1 ∧ ∀ (y : Unit), True → True ∧ ifB (ar1q4 p1) (ar1q5 p2 p1 p3 p4) (SM p0 ∧ ar1q1 p1 ∧ ∀ (y : Unit), True → ifB (ar1q7 p1) (True ∧ ∃ (y : Unit), True ∧ (21 : Int) = ar1q0 p2 p1 p3 p4 ∧ True ∧ True) (SM p0 ∧ ar1q1 p1 ∧ ∀ (y : Unit), True → ifB (ar1q7 p1) (ar1q8 p2 p1 p3 p4) (ar1q9 p1 ∧ ∀ (y : Unit), True → True ∧ ifB (ar1q10 p3 p1) (ar1q5 p2 p1 p3 p4) (ifB ((↑p4 : Int) != Z0) (ar1q5 p2 p1 p3 p4) (True ∧ ∃ (y : Unit), True ∧ Z0 = ar1q0 p2 p1 p3 p4 ∧ True ∧ True))))))
def ar1q12 (p0 : Int) (p1 : Nat) (p2 : List Int) (p3 p4 : Nat) : Prop := ifB (p0 == (3 : Int)) (SM p1 ∧ ifB (decide ((8 : Int) < (LI p2))) (True ∧ ∃ (y : Unit), True ∧ (15 : Int) = ar1q0 p0 p2 p3 p4 ∧ True ∧ True) (SM p1 ∧ ar1q2 p2 ∧ ∀ (y : Unit), True → True ∧ ifB (ar1q4 p2) (ar1q5 p0 p2 p3 p4) (SM p1 ∧ ar1q1 p2 ∧ ∀ (y : Unit), True → ifB (ar1q7 p2) (True ∧ ∃ (y : Unit), True ∧ (21 : Int) = ar1q0 p0 p2 p3 p4 ∧ True ∧ True) (SM p1 ∧ ar1q1 p2 ∧ ∀ (y : Unit), True → ifB (ar1q7 p2) (ar1q8 p0 p2 p3 p4) (ar1q9 p2 ∧ ∀ (y : Unit), True → True ∧ ifB (ar1q10 p4 p2) (ar1q5 p0 p2 p3 p4) (ifB ((↑p3 : Int) != Z0) (ar1q5 p0 p2 p3 p4) (True ∧ ∃ (y : Unit), True ∧ Z0 = ar1q0 p0 p2 p3 p4 ∧ True ∧ True))))))) (True ∧ ∃ (y : Unit), True ∧ (14 : Int) = ar1q0 p0 p2 p3 p4 ∧ True ∧ True)
end
theorem form_ok (k : Int) (s : List Int) (nn ni : Nat) (g h : Nat → List D) (hs : s.length ≤ maxLen) (hn : nn ≤ maxLen) (hi : ni ≤ maxLen) :
    ACalls Tryd.prog 34 [.agg [.int .i64 k, isl s .any, .sl 1 nn g .any, .sl 4 ni h .any]] ⟨[], []⟩ (SpecR (sC [.agg [.int .i64 k, isl s .any, .sl 1 nn g .any, .sl 4 ni h .any]] (.int .i64 (formS k s nn ni))) ()) := by
  refine con_of (A := sC _ _) (x := ()) (E := Eform) (eOk conAr_ok rfl) Tryd.func34 rfl (by kernel_rfl) rfl (by simp [sC, Eform, EC, E0]) ?_
  refine vc_eq (T :=
    ∀ (x : Nat), True → SM x ∧ SM x ∧ SM x ∧ ifB (k == Z1) (ifB (k == Z1) (ar1q11 x s k nn ni) (ar1q12 k x s nn ni)) (ifB (k == (2 : Int)) (ar1q11 x s k nn ni) (ar1q12 k x s nn ni))) (by kernel_rfl) ?_
  delta GI LI LN N0 SM Z0 Z1 ZI ar1q0 ar1q1 ar1q10 ar1q11 ar1q12 ar1q2 ar1q3 ar1q4 ar1q5 ar1q6 ar1q7 ar1q8 ar1q9
  simp only [intsD_isl, idxB_any, Int.toNat_natCast, ifB_iff, side_iff, decide_eq_true_eq, decide_eq_false_iff_not, true_and, and_true, beq_iff_eq, bne_iff_ne, Bool.cond_false_right, Bool.cond_true_left, Bool.and_eq_true, Bool.and_eq_false_iff, beq_eq_false_iff_ne, ne_eq, exists_const, forall_const]
  simp only [maxLen] at hs hn hi
  have n8 : (8 < (s.length : Int)) ↔ 8 < s.length := by omega
  simp only [n8]
  repeat' (first
    | exact intsP_isl s
    | refine And.intro ?_ ?_
    | intro _)
  all_goals first
    | omega
    | (simp_all [formS, dimsS, rightS]; done)
    | grind [formS, dimsS, rightS]
    | skip
  all_goals trace_state
end Go.Proofs.YtpgepjefbhgblaaDoor
namespace Go.Proofs.YtpgepjefbhgblaaDoor
open Go Go.Ab
def Arr.k : Arr → Int | .mk k _ _ _ => k
def Arr.sh : Arr → List Int | .mk _ s _ _ => s
def Arr.nu : Arr → List Int | .mk _ _ n _ => n
def Arr.it : Arr → List Arr | .mk _ _ _ i => i
def Arr.row1 (a : Arr) : List D := [.int .i64 a.k, isl a.sh .any, isl a.nu .any, gsl 4 Arr.row a.it]
def Arr.row2 (a : Arr) : List D := [.int .i64 a.k, isl a.sh .any, isl a.nu .any, gsl 4 Arr.row1 a.it]
theorem row_len (l : List Arr) : (rowsL l).length = l.length := by rw [rowsL_map]; simp
theorem row_wk (a : Arr) : wkL a.row a.row1 := by
  cases a with
  | mk k s n is =>
    simp only [Arr.row, Arr.row1, Arr.k, Arr.sh, Arr.nu, Arr.it, gsl, isl, wkL, wkD, weakD, chk_iff]
    refine ⟨⟨by simp [kEq], trivial⟩, ⟨by simp, trivial, fun i _ => by simp [kEq], by simp [weakM]⟩, ⟨by simp, trivial, fun i _ => by simp [kEq], by simp [weakM]⟩, ⟨by simp, row_len is, fun i hi => ?_, by simp [weakM]⟩, trivial⟩
    rw [row_len] at hi
    have : (rowsL is).getD i [] = (is.getD i default).row := by
      rw [rowsL_map]; simp [List.getD_eq_getElem?_getD, hi]
    rw [this]
    exact wkL_refl _
theorem row1_wk (a : Arr) : wkL a.row1 a.row2 := by
  simp only [Arr.row1, Arr.row2, gsl, isl, wkL, wkD, weakD, chk_iff]
  exact ⟨⟨by simp [kEq], trivial⟩, ⟨by simp, trivial, fun i _ => by simp [kEq], by simp [weakM]⟩, ⟨by simp, trivial, fun i _ => by simp [kEq], by simp [weakM]⟩, ⟨by simp, trivial, fun i _ => row_wk _, by simp [weakM]⟩, trivial⟩
def numB (z : Int) : Bool := decide (-4611686018427387903 ≤ z) && decide (z ≤ 4611686018427387903)
def chrB (z : Int) : Bool := decide (0 ≤ z) && decide (z ≤ 1114111) && (decide (z < 55296) || decide (57343 < z))
def badK (k z : Int) : Bool := (k == 1 && !numB z) || (k == 2 && !chrB z)
mutual
def chkA : Arr → Int × Int × Int
  | .mk k s n is =>
    if formS k s n.length is.length ≠ 0 then (formS k s n.length is.length, 0, 0)
    else if n.any (badK k) then (17, 0, 0)
    else match chkL is 0 ((n.length : Int) + is.length) with
      | none => (17, 0, 0)
      | some r => if 16 < r.1 ∨ 262144 < r.2 then (21, 0, 0) else (0, r.1, r.2)
def chkL : List Arr → Int → Int → Option (Int × Int)
  | [], d, w => some (d, w)
  | x :: r, d, w => if (chkA x).1 ≠ 0 then none else chkL r (if d < (chkA x).2.1 + 1 then (chkA x).2.1 + 1 else d) (if 262145 < w + (chkA x).2.2 then 262145 else w + (chkA x).2.2)
end
theorem chkL_pos : ∀ (l : List Arr) (d w d' w' : Int), chkL l d w = some (d', w') → 0 ≤ d → 0 ≤ w → (∀ x ∈ l, (chkA x).1 = 0 → 0 ≤ (chkA x).2.1 ∧ 0 ≤ (chkA x).2.2) → 0 ≤ d' ∧ 0 ≤ w'
  | [], d, w, d', w', h, h1, h2, _ => by
    rw [chkL] at h; injection h with h; injection h with e1 e2; omega
  | x :: r, d, w, d', w', h, h1, h2, h3 => by
    rw [chkL] at h
    split at h
    · cases h
    · rename_i hx
      have hx : (chkA x).1 = 0 := by simpa using hx
      have := h3 x (by simp) hx
      refine chkL_pos r _ _ d' w' h ?_ ?_ fun y hy => h3 y (by simp [hy])
      · split <;> omega
      · split <;> omega
theorem chkA_bounds : ∀ (a : Arr), (0 ≤ (chkA a).2.1 ∧ (chkA a).2.1 ≤ 16) ∧ 0 ≤ (chkA a).2.2 ∧ (chkA a).2.2 ≤ 262144
  | .mk k s n is => by
    rw [chkA]
    split
    · simp
    · split
      · simp
      · split
        · simp
        · rename_i r hr
          split
          · simp
          · rename_i hb
            have := chkL_pos is 0 _ r.1 r.2 hr (by omega) (by omega) fun x hx _ => by
              have := chkA_bounds x
              omega
            simp only
            omega
termination_by a => SizeOf.sizeOf a
decreasing_by
  have := List.sizeOf_lt_of_mem hx
  simp; omega
end Go.Proofs.YtpgepjefbhgblaaDoor
namespace Go.Proofs.YtpgepjefbhgblaaDoor
open Go Go.Ab
noncomputable def Enum : Senv := EC con0 9 1 [2] (fun _ => ([], []))
noncomputable section
def ar3q0 (p0 : Int) : Bool := bif decide ((-4611686018427387903 : Int) ≤ p0) then decide (p0 ≤ (4611686018427387903 : Int)) else false
end
theorem num_ok (z : Int) : ACalls Tryd.prog 35 [.int .i64 z] ⟨[], []⟩ (SpecR (sC [.int .i64 z] (.bool (numB z))) ()) := by
  refine con_of (A := sC _ _) (x := ()) (E := Enum) (eOk con0_ok rfl) Tryd.func35 rfl (by kernel_rfl) rfl (by simp [sC, Enum, EC, E0]) ?_
  refine vc_eq (T :=
    ifB (decide ((-4611686018427387903 : Int) ≤ z)) (decide (z ≤ (4611686018427387903 : Int)) = ar3q0 z ∧ True) (false = ar3q0 z ∧ True) ∧ True ∧ ∃ (y : Unit), True ∧ ar3q0 z = numB z ∧ True ∧ True) (by kernel_rfl) ?_
  delta ar3q0
  simp only [ifB_iff, decide_eq_true_eq, decide_eq_false_iff_not, true_and, and_true, Bool.cond_false_right, exists_const]
  refine ⟨⟨fun h => by rw [decide_eq_true h]; rfl, fun h => by rw [decide_eq_false h]; rfl⟩, rfl⟩
noncomputable def Echr : Senv := EC con0 17 1 [2] (fun _ => ([], []))
noncomputable section
def ar3q1 (p0 : Int) : Bool := bif bif decide (Z0 ≤ p0) then decide (p0 ≤ (1114111 : Int)) else false then bif decide (p0 < (55296 : Int)) then true else decide ((57343 : Int) < p0) else false
def ar3q2 (p0 : Int) : Prop := false = ar3q1 p0 ∧ True
end
theorem chr_ok (z : Int) : ACalls Tryd.prog 36 [.int .i64 z] ⟨[], []⟩ (SpecR (sC [.int .i64 z] (.bool (chrB z))) ()) := by
  refine con_of (A := sC _ _) (x := ()) (E := Echr) (eOk con0_ok rfl) Tryd.func36 rfl (by kernel_rfl) rfl (by simp [sC, Echr, EC, E0]) ?_
  refine vc_eq (T :=
    ifB (decide (Z0 ≤ z)) (ifB (decide (z ≤ (1114111 : Int))) (ifB (decide (z < (55296 : Int))) (true = ar3q1 z ∧ True) (decide ((57343 : Int) < z) = ar3q1 z ∧ True)) (ar3q2 z)) (ar3q2 z) ∧ True ∧ ∃ (y : Unit), True ∧ ar3q1 z = chrB z ∧ True ∧ True) (by kernel_rfl) ?_
  delta Z0 ar3q1 ar3q2
  simp only [ifB_iff, decide_eq_true_eq, decide_eq_false_iff_not, true_and, and_true, Bool.cond_false_right, Bool.cond_true_left, exists_const]
  refine ⟨⟨fun h1 => ⟨fun h2 => ⟨fun h3 => by simp [h1, h2, h3], fun h3 => by simp [h1, h2, h3]⟩, fun h2 => by simp [h1, h2]⟩, fun h1 => by simp [h1]⟩, rfl⟩
def sVis (row : Arr → List D) (xb : Nat) (q : Arr → Prop) : FnSpec where
  β := Arr
  α := Unit
  args := fun a => [.agg (row a), .ref 1 xb 0]
  st := fun _ => ⟨[(1, xb, .cells [.fn (.func 33) [] [.ref 1 xb 0]])], []⟩
  pre := q
  post := fun _ _ => True
  res := fun a _ => .ret (.tup [.int .i64 (chkA a).1, .int .i64 (chkA a).2.1, .int .i64 (chkA a).2.2])
  out := fun _ _ => ⟨[(1, xb, .cells [.fn (.func 33) [] [.ref 1 xb 0]])], []⟩
def conVis (xb : Nat) (its : List Arr) : Con := fun k ds S => match k with
  | 33 => some (sVis Arr.row1 xb (fun b => b ∈ its))
  | 34 => match ds with
    | [.agg [.int .i64 k, .sl 1 n f _, .sl 1 nn _g _, .sl 4 ni _h _]] => some (pC ds (.int .i64 (formS k (intsD n f) nn ni)) (IntsP n f ∧ n ≤ maxLen ∧ nn ≤ maxLen ∧ ni ≤ maxLen))
    | _ => none
  | 35 => match ds with
    | [.int .i64 z] => some (pC [.int .i64 z] (.bool (numB z)) True)
    | _ => none
  | 36 => match ds with
    | [.int .i64 z] => some (pC [.int .i64 z] (.bool (chrB z)) True)
    | _ => none
  | k => conAr k ds S
theorem conVis_ok {xb : Nat} {its : List Arr} (ih : ∀ b ∈ its, ACalls Tryd.prog 33 ((sVis Arr.row2 xb (fun _ => True)).args b) ((sVis Arr.row2 xb (fun _ => True)).st b) (SpecR (sVis Arr.row2 xb (fun _ => True)) b)) : ConOk Tryd.prog (conVis xb its) := by
  intro k ds S A h
  unfold conVis at h
  split at h
  · injection h with h; subst h
    refine ConOk.plain (fun b hb => ?_) rfl rfl
    refine ((ih b hb).wkArgs ?_).mono fun _ _ ⟨y, h1, h2, h3⟩ => ⟨y, h1, h2, h3⟩
    simp only [sVis, wkL, wkD]
    exact ⟨row1_wk b, by simp [weakD, chk_iff]⟩
  · split at h
    · rename_i k n f _ nn g _ ni g' _
      injection h with h; subst h
      refine pC_ok fun ⟨h1, h2, h3, h4⟩ => ⟨weakL_refl _, sC_weak (us := [.agg [.int .i64 k, isl (intsD n f) .any, .sl 1 nn g .any, .sl 4 ni g' .any]]) ?_ (form_ok _ _ _ _ _ _ (by rw [intsD_len]; exact h2) h3 h4)⟩
      refine ⟨?_, trivial⟩
      simp only [weakD, weakL]
      refine ⟨by simp [chk_iff, kEq], (isl_weak h1).1, ?_, ?_, trivial⟩
      · simp [chk_iff, weakM]
      · simp [chk_iff, weakM]
    · cases h
  · split at h
    · injection h with h; subst h
      exact pC_ok fun _ => ⟨weakL_refl _, num_ok _⟩
    · cases h
  · split at h
    · injection h with h; subst h
      exact pC_ok fun _ => ⟨weakL_refl _, chr_ok _⟩
    · cases h
  · exact conAr_ok _ _ _ _ h
theorem chkA_eq (a : Arr) : chkA a = if formS a.k a.sh a.nu.length a.it.length ≠ 0 then (formS a.k a.sh a.nu.length a.it.length, 0, 0)
    else if a.nu.any (badK a.k) then (17, 0, 0)
    else match chkL a.it 0 ((a.nu.length : Int) + a.it.length) with
      | none => (17, 0, 0)
      | some r => if 16 < r.1 ∨ 262144 < r.2 then (21, 0, 0) else (0, r.1, r.2) := by
  cases a with
  | mk k s n is => rw [chkA]; rfl
theorem sizeS_le {s : List Int} : sizeS s ≤ 65536 := by
  unfold sizeS
  split
  · omega
  · cases hg : goO s 1 with
    | none => simp
    | some p => have := goO_le s 1 (by omega) p hg; simpa using this
theorem form_small {k : Int} {s : List Int} {nn ni : Nat} (h : formS k s nn ni = 0) : nn ≤ 65536 ∧ ni ≤ 65536 := by
  have hs := sizeS_le (s := s)
  unfold formS at h
  by_cases hk : k = 1 ∨ k = 2 ∨ k = 3
  · rw [if_pos hk] at h
    by_cases hd : dimsS s ≠ 0
    · rw [if_pos hd] at h; exact (hd h).elim
    · rw [if_neg hd] at h
      by_cases hc : ((if k = 3 then (ni : Int) else nn) ≠ sizeS s) ∨ ((if k = 3 then (nn : Int) else ni) ≠ 0)
      · rw [if_pos hc] at h; omega
      · simp only [not_or, ne_eq, Decidable.not_not] at hc
        obtain ⟨c1, c2⟩ := hc
        by_cases k3 : k = 3 <;> simp only [k3, if_true, if_false] at c1 c2 <;> omega
  · rw [if_neg hk] at h; omega
theorem mem_getD {α : Type} [Inhabited α] {l : List α} {i : Nat} (h : i < l.length) : l.getD i default ∈ l := by
  rw [List.getD_eq_getElem?_getD, List.getElem?_eq_getElem h]; exact List.getElem_mem h
def cutV (k : Int) (d8 : D) (S : St) : Option LoopAnn :=
  match d8 with
  | .int _ z => some { slots := [45], keep := [], α := Unit, st := fun _ => ([.bool (badK k z)], S), inv := fun _ => True, mu := fun _ => 0 }
  | _ => none
noncomputable def Evis (xb : Nat) (a : Arr) : Senv := { EC (conVis xb a.it) 87 7 [8, 9, 10, 12, 13, 14, 15, 19, 22, 23, 24, 25, 45, 55, 56, 57, 58, 69, 84] (fun id => match id with | 10 => ([0, 1, 2, 3, 4, 5, 6, 7, 8], []) | _ => ([], [])) with
  cut := fun id env S => match id with
    | 7 => cutV a.k (Ab.look env 8) S
    | _ => none
  ann := fun b _ S => match b with
    | 0 => some { slots := [24], keep := [0, 1, 2, 22, 23], α := Nat, st := fun i => ([.int .i64 i], S), inv := fun i => i ≤ a.nu.length ∧ ∀ z ∈ a.nu.take i, badK a.k z = false, mu := fun i => a.nu.length - i }
    | 2 => some { slots := [57, 9, 10], keep := [0, 1, 2, 55, 56], α := Nat × Int × Int, st := fun y => ([.int .i64 y.1, .int .i64 y.2.1, .int .i64 y.2.2], S), inv := fun y => y.1 ≤ a.it.length ∧ 0 ≤ y.2.1 ∧ y.2.1 ≤ 17 ∧ 0 ≤ y.2.2 ∧ y.2.2 ≤ 262145 ∧ chkL (a.it.drop y.1) y.2.1 y.2.2 = chkL a.it 0 ((a.nu.length : Int) + a.it.length), mu := fun y => a.it.length - y.1 }
    | _ => none }
noncomputable section
def ar3q3 (p0 : Arr) : Nat := LN (Arr.sh p0)
def ar3q4 (p0 : Arr) (p1 : Nat) : List D := [ZI (GI (Arr.sh p0) p1)]
def ar3q5 (p0 : Arr) : List Int := Arr.nu p0
def ar3q6 (p0 : Arr) : Nat := LN (ar3q5 p0)
def ar3q7 (p0 : Arr) : List Arr := Arr.it p0
def ar3q8 (p0 : Arr) : Nat := LN (ar3q7 p0)
def ar3q9 (p0 : Arr) : Int := Arr.k p0
def ar3q10 (p0 : Arr) : Int := formS (ar3q9 p0) (intsD (ar3q3 p0) fun (i : Nat) => ar3q4 p0 i) (ar3q6 p0) (ar3q8 p0)
def ar3q11 (p0 : Arr) : Int := Prod.fst (chkA p0)
def ar3q12 (p0 : Arr) : Int := Prod.fst (Prod.snd (chkA p0))
def ar3q13 (p0 : Arr) : Int := Prod.snd (Prod.snd (chkA p0))
def ar3q14 (p0 : Arr) : Prop := Z0 = ar3q12 p0 ∧ Z0 = ar3q13 p0 ∧ True
def ar3q15 (p0 : Nat) : Prop := SM p0 ∧ (SM (D.fn (Fn.func (33 : Nat)) [] [D.ref N1 p0 N0]) ∧ True) ∧ True
def ar3q16 (p0 : Nat) : Prop := ar3q15 p0 ∧ True
def ar3q17 (p0 : Nat) (p1 : Arr) : Prop := p0 ≤ ar3q6 p1 ∧ ∀ (z : Int), z ∈ List.take p0 (ar3q5 p1) → badK (ar3q9 p1) z = false
def ar3q18 (p0 : Arr) (p1 : Nat) : List D := [ZI (GI (ar3q5 p0) p1)]
def ar3q19 : Arr := DA
def ar3q20 (p0 : Arr) (p1 : Nat) : Arr := List.getD (ar3q7 p0) p1 ar3q19
def ar3q21 (p0 : Arr) (p1 : Nat) : List Int := Arr.sh (ar3q20 p0 p1)
def ar3q22 (p0 : Arr) (p1 : Nat) : List Int := Arr.nu (ar3q20 p0 p1)
def ar3q23 (p0 : Arr) (p1 : Nat) : List Arr := Arr.it (ar3q20 p0 p1)
def ar3q24 (p0 : Arr) (p1 : Nat) : List D := [ZI (Arr.k (ar3q20 p0 p1)), SI (ar3q21 p0 p1), SI (ar3q22 p0 p1), D.sl N4 (LN (ar3q23 p0 p1)) (fun (i : Nat) => Arr.row (List.getD (ar3q23 p0 p1) i ar3q19)) Mode.any]
def ar3q25 (p0 : Nat) (p1 : Arr) (p2 : Nat) : Prop := (SM p0 ∧ (SM (ar3q9 p1) ∧ (SM (ar3q3 p1) ∧ (∀ (i : Nat), i < ar3q3 p1 → SM (ar3q4 p1 i)) ∧ True) ∧ (SM (ar3q6 p1) ∧ (∀ (i : Nat), i < ar3q6 p1 → SM (ar3q18 p1 i)) ∧ True) ∧ (SM (ar3q8 p1) ∧ (∀ (i : Nat), i < ar3q8 p1 → SM (ar3q24 p1 i)) ∧ True) ∧ True) ∧ ar3q15 p2) ∧ True
def ar3q26 (p0 : Arr) : Int := (NI (ar3q6 p0))
def ar3q27 (p0 : Arr) (p1 : Nat) : Int := GI (ar3q5 p0) (Int.toNat (↑p1 : Int))
def ar3q28 (p0 : Arr) (p1 : Nat) : Bool := badK (ar3q9 p0) (ar3q27 p0 p1)
def ar3q29 (p0 : Nat) (p1 : Arr) (p2 p3 : Nat) : Prop := SM p0 ∧ ifB (ar3q9 p1 == (2 : Int)) (True ∧ ∀ (_y : Unit), True → ∃ (_x : Unit), True ∧ ((!chrB (ar3q27 p1 p2)) = ar3q28 p1 p2 ∧ True) ∧ ar3q25 p0 p1 p3) (∃ (_x : Unit), True ∧ (false = ar3q28 p1 p2 ∧ True) ∧ ar3q25 p0 p1 p3)
def ar3q30 (p0 : Arr) (p1 : Nat) : Prop := True ∧ ∃ (_y : Unit), True ∧ ((17 : Int) = ar3q11 p0 ∧ ar3q14 p0) ∧ ar3q16 p1
def ar3q31 (p0 : Arr) : D := D.sl N1 (ar3q6 p0) (fun (i : Nat) => ar3q18 p0 i) Mode.any
def ar3q32 (p0 : Arr) : D := D.sl N4 (ar3q8 p0) (fun (i : Nat) => ar3q24 p0 i) Mode.any
def ar3q33 (p0 : Arr) : D := D.agg [ZI (ar3q9 p0), D.sl N1 (ar3q3 p0) (fun (i : Nat) => ar3q4 p0 i) Mode.any, ar3q31 p0, ar3q32 p0]
def ar3q34 (p0 : Arr) : Prop := SM (ar3q33 p0)
def ar3q35 (p0 : Arr) : Int := (NI (ar3q8 p0))
def ar3q36 (p0 : Arr) : Int := ar3q26 p0 + ar3q35 p0
def ar3q37 (p0 : Nat) (p1 : Arr) (p2 p3 : Int) : Prop := p0 ≤ ar3q8 p1 ∧ Z0 ≤ p2 ∧ p2 ≤ (17 : Int) ∧ Z0 ≤ p3 ∧ p3 ≤ (262145 : Int) ∧ chkL (List.drop p0 (ar3q7 p1)) p2 p3 = chkL (ar3q7 p1) Z0 (ar3q36 p1)
def ar3q38 (p0 : Arr) (p1 : Nat) : Arr := List.getD (ar3q7 p0) (Int.toNat (↑p1 : Int)) ar3q19
def ar3q39 (p0 : Arr) (p1 : Nat) : List Int := Arr.sh (ar3q38 p0 p1)
def ar3q40 (p0 : Arr) (p1 : Nat) : Nat := LN (ar3q39 p0 p1)
def ar3q41 (p0 : Arr) (p1 : Nat) : List Int := Arr.nu (ar3q38 p0 p1)
def ar3q42 (p0 : Arr) (p1 : Nat) : Nat := LN (ar3q41 p0 p1)
def ar3q43 (p0 : Arr) (p1 : Nat) : List Arr := Arr.it (ar3q38 p0 p1)
def ar3q44 (p0 : Arr) (p1 : Nat) : Nat := LN (ar3q43 p0 p1)
def ar3q45 (p0 : Arr) : Int := IntKind.wrap IntKind.i64 (ar3q12 p0 + Z1)
def ar3q46 (p0 p1 : Int) : Bool := bif decide ((16 : Int) < p0) then true else decide ((262144 : Int) < p1)
end
theorem vis_step (xb : Nat) (a : Arr) (ha : a.nu.length ≤ maxLen ∧ a.it.length ≤ maxLen ∧ a.sh.length ≤ maxLen) (ih : ∀ b ∈ a.it, ACalls Tryd.prog 33 ((sVis Arr.row2 xb (fun _ => True)).args b) ((sVis Arr.row2 xb (fun _ => True)).st b) (SpecR (sVis Arr.row2 xb (fun _ => True)) b)) :
    ACalls Tryd.prog 33 ((sVis Arr.row2 xb (fun _ => True)).args a) ((sVis Arr.row2 xb (fun _ => True)).st a) (SpecR (sVis Arr.row2 xb (fun _ => True)) a) := by
  refine con_of (A := sVis Arr.row2 xb (fun _ => True)) (x := a) (E := Evis xb a) (eOk (conVis_ok ih) rfl) Tryd.func33 rfl (by kernel_rfl) rfl (by simp [sVis, Evis, EC, E0]) ?_
  refine vc_eq (T :=
    ∀ (x : Nat), xb ≠ x ∧ True → SM x ∧ ((IntsP (ar3q3 a) fun (i : Nat) => ar3q4 a i) ∧ ar3q3 a ≤ (9223372036854775807 : Nat) ∧ ar3q6 a ≤ (9223372036854775807 : Nat) ∧ ar3q8 a ≤ (9223372036854775807 : Nat)) ∧ ∀ (y : Unit), True → ifB (ar3q10 a != Z0) (True ∧ ∃ (y : Unit), True ∧ (ar3q10 a = ar3q11 a ∧ ar3q14 a) ∧ ar3q16 xb) (SM x ∧ (∃ (x_1 : Nat), ar3q17 x_1 a ∧ (Z0 = (↑x_1 : Int) ∧ True) ∧ ar3q25 x a xb) ∧ ∀ (x_1 : Nat), ar3q17 x_1 a → ifB (decide ((↑x_1 : Int) < ar3q26 a)) (side (Z0 ≤ (↑x_1 : Int) ∧ (↑x_1 : Int) < ar3q26 a) ((SM x ∧ ifB (ar3q9 a == Z1) (True ∧ ∀ (y : Unit), True → ifB (!numB (ar3q27 a x_1)) (∃ (x_2 : Unit), True ∧ (true = ar3q28 a x_1 ∧ True) ∧ ar3q25 x a xb) (ar3q29 x a x_1 xb)) (ar3q29 x a x_1 xb)) ∧ ∀ (x_2 : Unit), True → ifB (ar3q28 a x_1) (ar3q30 a xb) ((ar3q34 a ∧ SM (D.ref N1 xb N0) ∧ SM (D.ref N2 x N0) ∧ SM (ar3q31 a) ∧ SM (ZI (ar3q26 a)) ∧ True) ∧ ∃ (y : Nat), ar3q17 y a ∧ ar3q6 a - y < ar3q6 a - x_1 ∧ (IntKind.wrap IntKind.i64 ((↑x_1 : Int) + Z1) = (↑y : Int) ∧ True) ∧ ar3q25 x a xb))) (SM x ∧ SM x ∧ SM x ∧ (∃ (x_2 : Nat × Int × Int), ar3q37 x_2.1 a x_2.2.1 x_2.2.2 ∧ (Z0 = (NI x_2.1) ∧ Z0 = x_2.2.1 ∧ IntKind.wrap IntKind.i64 (ar3q36 a) = x_2.2.2 ∧ True) ∧ ar3q25 x a xb) ∧ ∀ (x_2 : Nat × Int × Int), ar3q37 x_2.1 a x_2.2.1 x_2.2.2 → ifB (decide ((NI x_2.1) < ar3q35 a)) (side (Z0 ≤ (NI x_2.1) ∧ (NI x_2.1) < ar3q35 a) (∀ (x_3 : Nat), x ≠ x_3 ∧ xb ≠ x_3 ∧ True → SM x_3 ∧ SM xb ∧ SM x_3 ∧ ∃ (x_4 : Arr), ((Arr.k (ar3q38 a x_2.1) = ar3q9 x_4 ∧ (ar3q40 a x_2.1 = ar3q3 x_4 ∧ (∀ (i : Nat), i < ar3q40 a x_2.1 → [ZI (GI (ar3q39 a x_2.1) i)] = ar3q4 x_4 i) ∧ True) ∧ (ar3q42 a x_2.1 = ar3q6 x_4 ∧ (∀ (i : Nat), i < ar3q42 a x_2.1 → [ZI (GI (ar3q41 a x_2.1) i)] = ar3q18 x_4 i) ∧ True) ∧ (ar3q44 a x_2.1 = ar3q8 x_4 ∧ (∀ (i : Nat), i < ar3q44 a x_2.1 → Arr.row (List.getD (ar3q43 a x_2.1) i ar3q19) = Arr.row (ar3q20 x_4 i)) ∧ True) ∧ True) ∧ SM xb ∧ True) ∧ ar3q16 xb ∧ x_4 ∈ ar3q7 a ∧ ∀ (y : Unit), True → ifB (ar3q11 x_4 != Z0) (ar3q30 a xb) ((ar3q34 a ∧ SM (D.ref N1 xb N0) ∧ SM (D.ref N2 x N0) ∧ SM (ar3q32 a) ∧ SM (ZI (ar3q35 a)) ∧ True) ∧ ∃ (y : Nat × Int × Int), ar3q37 y.1 a y.2.1 y.2.2 ∧ ar3q8 a - y.1 < ar3q8 a - x_2.1 ∧ (IntKind.wrap IntKind.i64 ((NI x_2.1) + Z1) = (NI y.1) ∧ (if x_2.2.1 < ar3q45 x_4 then ar3q45 x_4 else x_2.2.1) = y.2.1 ∧ (if (262145 : Int) < IntKind.wrap IntKind.i64 (x_2.2.2 + ar3q13 x_4) then (262145 : Int) else IntKind.wrap IntKind.i64 (x_2.2.2 + ar3q13 x_4)) = y.2.2 ∧ True) ∧ ar3q25 x a xb))) (ifB (decide ((16 : Int) < x_2.2.1)) (true = ar3q46 x_2.2.1 x_2.2.2 ∧ True) (decide ((262144 : Int) < x_2.2.2) = ar3q46 x_2.2.1 x_2.2.2 ∧ True) ∧ ifB (ar3q46 x_2.2.1 x_2.2.2) (True ∧ ∃ (y : Unit), True ∧ ((21 : Int) = ar3q11 a ∧ ar3q14 a) ∧ ar3q16 xb) (True ∧ ∃ (y : Unit), True ∧ (Z0 = ar3q11 a ∧ x_2.2.1 = ar3q12 a ∧ x_2.2.2 = ar3q13 a ∧ True) ∧ ar3q16 xb))))) (by kernel_rfl) ?_
  delta DA GI LN N0 N1 N2 N4 NI SI SM Z0 Z1 ZI ar3q10 ar3q11 ar3q12 ar3q13 ar3q14 ar3q15 ar3q16 ar3q17 ar3q18 ar3q19 ar3q20 ar3q21 ar3q22 ar3q23 ar3q24 ar3q25 ar3q26 ar3q27 ar3q28 ar3q29 ar3q3 ar3q30 ar3q31 ar3q32 ar3q33 ar3q34 ar3q35 ar3q36 ar3q37 ar3q38 ar3q39 ar3q4 ar3q40 ar3q41 ar3q42 ar3q43 ar3q44 ar3q45 ar3q46 ar3q5 ar3q6 ar3q7 ar3q8 ar3q9
  have da : (default : Arr) = Arr.mk 0 [] [] [] := rfl
  simp only [← da, intsD_isl, Int.toNat_natCast, ifB_iff, side_iff, decide_eq_true_eq, decide_eq_false_iff_not, true_and, and_true, beq_iff_eq, bne_iff_ne, Bool.cond_true_left, beq_eq_false_iff_ne, ne_eq, exists_const, forall_const]
  intro x _
  have hA := chkA_eq a
  obtain ⟨l1, l2, l3⟩ := ha
  have tt : (∀ i : Nat, i < a.sh.length → True) ∧ (∀ i : Nat, i < a.nu.length → True) ∧ ∀ i : Nat, i < a.it.length → True := ⟨fun _ _ => trivial, fun _ _ => trivial, fun _ _ => trivial⟩
  refine ⟨⟨intsP_isl _, l3, l1, l2⟩, fun h => ?_, fun h => ⟨⟨0, ⟨Nat.zero_le _, by simp⟩, rfl, tt⟩, fun i hi => ⟨fun hlt => ?_, fun hge => ?_⟩⟩⟩
  · rw [hA, if_pos h]; exact ⟨rfl, rfl, rfl⟩
  · have h0 : formS a.k a.sh a.nu.length a.it.length = 0 := by simpa using h
    have hsm := form_small h0
    have hlt' : i < a.nu.length := by omega
    have hmem : a.nu.getD i 0 ∈ a.nu := by rw [List.getD_eq_getElem?_getD, List.getElem?_eq_getElem hlt']; exact List.getElem_mem hlt'
    have htk : a.nu.take (i + 1) = a.nu.take i ++ [a.nu.getD i 0] := by
      rw [List.take_add_one]; simp [List.getD_eq_getElem?_getD, hlt']
    generalize a.nu.getD i 0 = z at *
    refine ⟨by omega, ?_, fun hb => ?_, fun hb => ⟨i + 1, ⟨by omega, fun y hy => ?_⟩, by omega, wrap_i64' (by omega) (by omega), tt⟩⟩
    · refine ⟨fun k1 => ⟨fun hn => ⟨by simp at hn; simp [badK, k1, hn], tt⟩, fun hn => ⟨fun k2 => by omega, fun k2 => ⟨by simp at hn; simp [badK, k1, hn], tt⟩⟩⟩, fun k1 => ⟨fun k2 => ⟨by simp [badK, k2], tt⟩, fun k2 => ⟨by simp [badK, k1, k2], tt⟩⟩⟩
    · have : a.nu.any (badK a.k) = true := List.any_eq_true.2 ⟨z, hmem, hb⟩
      rw [hA, if_neg (by simp [h0]), if_pos this]
      exact ⟨rfl, rfl, rfl⟩
    · rw [htk, List.mem_append] at hy
      rcases hy with hy | hy
      · exact hi.2 y hy
      · simp at hy; rw [hy]; exact hb
  · have h0 : formS a.k a.sh a.nu.length a.it.length = 0 := by simpa using h
    have hsm := form_small h0
    have hii : i = a.nu.length := by omega
    rw [hii, List.take_length] at hi
    have hany : ¬ a.nu.any (badK a.k) = true := by
      rw [List.any_eq_true]
      rintro ⟨z, hz, hb⟩
      rw [hi.2 z hz] at hb
      cases hb
    rw [if_neg (by simp [h0]), if_neg hany] at hA
    refine ⟨⟨(0, 0, (a.nu.length : Int) + a.it.length), ⟨Nat.zero_le _, Int.le_refl _, by simp, by simp only; omega, by simp only; omega, by simp⟩, ⟨rfl, rfl, wrap_i64' (by omega) (by omega)⟩, tt⟩, ?_⟩
    rintro ⟨j, d, w⟩ ⟨b1, b2, b3, b4, b5, hch⟩
    simp only at b1 b2 b3 b4 b5 hch ⊢
    refine ⟨fun hlt => ⟨by omega, fun x3 _ => ?_⟩, fun hge => ?_⟩
    · have hlt' : j < a.it.length := by omega
      have hbd := chkA_bounds (a.it.getD j default)
      rw [drop_step hlt', chkL] at hch
      refine ⟨a.it.getD j default, ⟨rfl, ⟨rfl, fun _ _ => rfl⟩, ⟨rfl, fun _ _ => rfl⟩, rfl, fun _ _ => rfl⟩, mem_getD hlt', fun herr => ?_, fun hok => ?_⟩
      · rw [if_pos herr] at hch
        rw [← hch] at hA
        rw [hA]
        exact ⟨rfl, rfl, rfl⟩
      · have hok : (chkA (a.it.getD j default)).1 = 0 := by simpa using hok
        rw [if_neg (fun hne => hne hok)] at hch
        have w1 : IntKind.i64.wrap ((chkA (a.it.getD j default)).2.1 + 1) = (chkA (a.it.getD j default)).2.1 + 1 := wrap_i64' (by omega) (by omega)
        have w2 : IntKind.i64.wrap (w + (chkA (a.it.getD j default)).2.2) = w + (chkA (a.it.getD j default)).2.2 := wrap_i64' (by omega) (by omega)
        rw [w1, w2]
        refine ⟨(j + 1, (if d < (chkA (a.it.getD j default)).2.1 + 1 then (chkA (a.it.getD j default)).2.1 + 1 else d), (if 262145 < w + (chkA (a.it.getD j default)).2.2 then 262145 else w + (chkA (a.it.getD j default)).2.2)), ⟨by simp only; omega, ?_, ?_, ?_, ?_, hch⟩, by simp only; omega, ⟨wrap_i64' (by omega) (by omega), rfl, rfl⟩, tt⟩
        · simp only; split <;> omega
        · simp only; split <;> omega
        · simp only; split <;> omega
        · simp only; split <;> omega
    · have hj : j = a.it.length := by omega
      rw [hj, List.drop_length, chkL] at hch
      rw [← hch] at hA
      simp only at hA
      refine ⟨⟨fun h1 => by rw [decide_eq_true h1]; rfl, fun h1 => by rw [decide_eq_false h1]; rfl⟩, fun hc => ?_, fun hc => ?_⟩
      · rw [Bool.or_eq_true, decide_eq_true_eq, decide_eq_true_eq] at hc
        rw [if_pos hc] at hA
        rw [hA]; exact ⟨rfl, rfl, rfl⟩
      · rw [Bool.or_eq_false_iff, decide_eq_false_iff_not, decide_eq_false_iff_not] at hc
        rw [if_neg (by omega)] at hA
        rw [hA]; exact ⟨rfl, rfl, rfl⟩
end Go.Proofs.YtpgepjefbhgblaaDoor
namespace Go.Proofs.YtpgepjefbhgblaaDoor
open Go Go.Ab
theorem vis_all : ∀ (a : Arr), a.ok → ∀ xb, ACalls Tryd.prog 33 ((sVis Arr.row2 xb (fun _ => True)).args a) ((sVis Arr.row2 xb (fun _ => True)).st a) (SpecR (sVis Arr.row2 xb (fun _ => True)) a)
  | .mk k s n is, h, xb => by
    have h' := h
    simp only [Arr.ok] at h'
    obtain ⟨_, _, _, h1, h2, h3, h4⟩ := h'
    refine vis_step xb (.mk k s n is) ⟨h2, h3, h1⟩ fun b hb => ?_
    have hb' : b ∈ is := hb
    exact vis_all b ((okL_iff _).1 h4 b hb') xb
termination_by a => SizeOf.sizeOf a
decreasing_by
  have := List.sizeOf_lt_of_mem hb'
  simp; omega
theorem vis1_all (a : Arr) (ha : a.ok) (xb : Nat) (q : Arr → Prop) : ACalls Tryd.prog 33 ((sVis Arr.row1 xb q).args a) ((sVis Arr.row1 xb q).st a) (SpecR (sVis Arr.row1 xb q) a) := by
  refine ((vis_all a ha xb).wkArgs ?_).mono fun _ _ ⟨y, h1, h2, h3⟩ => ⟨y, h1, h2, h3⟩
  simp only [sVis, wkL, wkD]
  exact ⟨row1_wk a, by simp [weakD, chk_iff]⟩
def conRi (a : Arr) : Con := fun k ds _ => match k with
  | 33 => match ds with
    | [_, .ref _ xb _] => some (sVis Arr.row1 xb (fun b => b = a))
    | _ => none
  | _ => none
theorem conRi_ok {a : Arr} (ha : a.ok) : ConOk Tryd.prog (conRi a) := by
  intro k ds S A h
  unfold conRi at h
  split at h
  · split at h
    · injection h with h; subst h
      refine ConOk.plain (fun b hb => ?_) rfl rfl
      have hb : b = a := hb
      rw [hb]
      exact vis1_all a ha _ _
    · cases h
  · cases h
noncomputable def Eri (a : Arr) : Senv := EC (conRi a) 16 7 [] (fun _ => ([], []))
noncomputable section
def ar4q0 (p0 : Arr) : Nat := LN (Arr.sh p0)
def ar4q1 (p0 : Arr) : Nat := LN (Arr.nu p0)
def ar4q2 (p0 : Arr) : Nat := LN (Arr.it p0)
def ar4q3 (p0 : Arr) (p1 : Nat) : List D := Arr.row (GA (Arr.it p0) p1)
end
theorem ri_ok (a : Arr) (ha : a.ok) : ACalls Tryd.prog 18 [.agg a.row1] ⟨[], []⟩ (SpecR (sC [.agg a.row1] (.int .i64 (chkA a).1)) ()) := by
  refine con_of (A := sC _ _) (x := ()) (E := Eri a) (eOk (conRi_ok ha) rfl) Tryd.func18 rfl (by kernel_rfl) rfl (by simp [sC, Eri, EC, E0]) ?_
  refine vc_eq (T :=
    ∀ (x : Nat), True → ∀ (x_1 : Nat), x ≠ x_1 ∧ True → SM x_1 ∧ SM x_1 ∧ SM x ∧ ∃ (x : Arr), ((Arr.k a = Arr.k x ∧ (ar4q0 a = ar4q0 x ∧ (∀ (i : Nat), i < ar4q0 a → [ZI (GI (Arr.sh a) i)] = [ZI (GI (Arr.sh x) i)]) ∧ True) ∧ (ar4q1 a = ar4q1 x ∧ (∀ (i : Nat), i < ar4q1 a → [ZI (GI (Arr.nu a) i)] = [ZI (GI (Arr.nu x) i)]) ∧ True) ∧ (ar4q2 a = ar4q2 x ∧ (∀ (i : Nat), i < ar4q2 a → ar4q3 a i = ar4q3 x i) ∧ True) ∧ True) ∧ SM x_1 ∧ True) ∧ ((SM x_1 ∧ (D.fn (Fn.func (33 : Nat)) [] [D.ref (max (N0 + N1) N0) x_1 N0] = D.fn (Fn.func (33 : Nat)) [] [D.ref N1 x_1 N0] ∧ True) ∧ True) ∧ True) ∧ x = a ∧ ∀ (y : Unit), True → True ∧ ∃ (y : Unit), True ∧ Prod.fst (chkA x) = Prod.fst (chkA a) ∧ True ∧ True) (by kernel_rfl) ?_
  delta DA GA GI LN N0 N1 SM Z0 ZI ar4q0 ar4q1 ar4q2 ar4q3
  intro x _ x1 hx
  exact ⟨rfl, rfl, rfl, a, ⟨⟨rfl, ⟨rfl, fun _ _ => rfl, trivial⟩, ⟨rfl, fun _ _ => rfl, trivial⟩, ⟨rfl, fun _ _ => rfl, trivial⟩, trivial⟩, rfl, trivial⟩, ⟨⟨rfl, ⟨rfl, trivial⟩, trivial⟩, trivial⟩, rfl, fun _ _ => ⟨trivial, (), trivial, rfl, trivial, trivial⟩⟩
end Go.Proofs.YtpgepjefbhgblaaDoor
namespace Go.Proofs.YtpgepjefbhgblaaDoor
open Go Go.Ab
noncomputable def Ernum : Senv := EC con0 9 1 [2] (fun _ => ([], []))
noncomputable section
def ar5q0 (p0 : Int) : Bool := bif decide ((-4611686018427387903 : Int) ≤ p0) then decide (p0 ≤ (4611686018427387903 : Int)) else false
end
theorem rnum_ok (z : Int) : ACalls Tryd.prog 59 [.int .i64 z] ⟨[], []⟩ (SpecR (sC [.int .i64 z] (.bool (numB z))) ()) := by
  refine con_of (A := sC _ _) (x := ()) (E := Ernum) (eOk con0_ok rfl) Tryd.func59 rfl (by kernel_rfl) rfl (by simp [sC, Ernum, EC, E0]) ?_
  refine vc_eq (T :=
    ifB (decide ((-4611686018427387903 : Int) ≤ z)) (decide (z ≤ (4611686018427387903 : Int)) = ar5q0 z ∧ True) (false = ar5q0 z ∧ True) ∧ True ∧ ∃ (y : Unit), True ∧ ar5q0 z = numB z ∧ True ∧ True) (by kernel_rfl) ?_
  delta ar5q0
  simp only [ifB_iff, decide_eq_true_eq, decide_eq_false_iff_not, true_and, and_true, Bool.cond_false_right, exists_const]
  refine ⟨⟨fun h => by rw [decide_eq_true h]; rfl, fun h => by rw [decide_eq_false h]; rfl⟩, rfl⟩
noncomputable def Erchr : Senv := EC con0 17 1 [2] (fun _ => ([], []))
noncomputable section
def ar5q1 (p0 : Int) : Bool := bif bif decide (Z0 ≤ p0) then decide (p0 ≤ (1114111 : Int)) else false then bif decide (p0 < (55296 : Int)) then true else decide ((57343 : Int) < p0) else false
def ar5q2 (p0 : Int) : Prop := false = ar5q1 p0 ∧ True
end
theorem rchr_ok (z : Int) : ACalls Tryd.prog 60 [.int .i64 z] ⟨[], []⟩ (SpecR (sC [.int .i64 z] (.bool (chrB z))) ()) := by
  refine con_of (A := sC _ _) (x := ()) (E := Erchr) (eOk con0_ok rfl) Tryd.func60 rfl (by kernel_rfl) rfl (by simp [sC, Erchr, EC, E0]) ?_
  refine vc_eq (T :=
    ifB (decide (Z0 ≤ z)) (ifB (decide (z ≤ (1114111 : Int))) (ifB (decide (z < (55296 : Int))) (true = ar5q1 z ∧ True) (decide ((57343 : Int) < z) = ar5q1 z ∧ True)) (ar5q2 z)) (ar5q2 z) ∧ True ∧ ∃ (y : Unit), True ∧ ar5q1 z = chrB z ∧ True ∧ True) (by kernel_rfl) ?_
  delta Z0 ar5q1 ar5q2
  simp only [ifB_iff, decide_eq_true_eq, decide_eq_false_iff_not, true_and, and_true, Bool.cond_false_right, Bool.cond_true_left, exists_const]
  refine ⟨⟨fun h1 => ⟨fun h2 => ⟨fun h3 => by simp [h1, h2, h3], fun h3 => by simp [h1, h2, h3]⟩, fun h2 => by simp [h1, h2]⟩, fun h1 => by simp [h1]⟩, rfl⟩
def sizeR (k : Int) (nn ni : Nat) : Int := if k = 1 ∨ k = 2 then nn else if k = 3 then ni else 0
noncomputable def Esz : Senv := EC con0 16 3 [4, 5, 11] (fun _ => ([], []))
noncomputable section
def ar5q3 (p0 p1 : Nat) (p2 : Int) (p3 : Nat) : Prop := SM p0 ∧ True ∧ ∃ (_y : Unit), True ∧ (↑p1 : Int) = sizeR p2 p1 p3 ∧ True ∧ True
def ar5q4 (p0 : Int) (p1 p2 p3 : Nat) : Prop := ifB (p0 == (3 : Int)) (SM p1 ∧ True ∧ ∃ (_y : Unit), True ∧ (↑p2 : Int) = sizeR p0 p3 p2 ∧ True ∧ True) (True ∧ ∃ (_y : Unit), True ∧ Z0 = sizeR p0 p3 p2 ∧ True ∧ True)
end
theorem sz_ok (k : Int) (ns nn ni : Nat) (f g h : Nat → List D) :
    ACalls Tryd.prog 25 [.agg [.int .i64 k, .sl 1 ns f .any, .sl 1 nn g .any, .sl 4 ni h .any]] ⟨[], []⟩ (SpecR (sC [.agg [.int .i64 k, .sl 1 ns f .any, .sl 1 nn g .any, .sl 4 ni h .any]] (.int .i64 (sizeR k nn ni))) ()) := by
  refine con_of (A := sC _ _) (x := ()) (E := Esz) (eOk con0_ok rfl) Tryd.func25 rfl (by kernel_rfl) rfl (by simp [sC, Esz, EC, E0]) ?_
  refine vc_eq (T :=
    ∀ (x : Nat), True → SM x ∧ ifB (k == Z1) (ifB (k == Z1) (ar5q3 x nn k ni) (ar5q4 k x ni nn)) (ifB (k == (2 : Int)) (ar5q3 x nn k ni) (ar5q4 k x ni nn))) (by kernel_rfl) ?_
  delta SM Z0 Z1 ar5q3 ar5q4
  simp only [ifB_iff, true_and, and_true, beq_iff_eq, beq_eq_false_iff_ne, ne_eq, exists_const, forall_const]
  repeat' (first
    | refine And.intro ?_ ?_
    | intro _)
  all_goals first
    | (simp_all [sizeR]; done)
    | grind [sizeR]
    | trace_state
def conRf : Con := fun k ds S => match k with
  | 25 => match ds with
    | [.agg [.int .i64 k, .sl 1 _ _ _, .sl 1 nn _ _, .sl 4 ni _ _]] => some (pC ds (.int .i64 (sizeR k nn ni)) True)
    | _ => none
  | 59 => match ds with
    | [.int .i64 z] => some (pC [.int .i64 z] (.bool (numB z)) True)
    | _ => none
  | 60 => match ds with
    | [.int .i64 z] => some (pC [.int .i64 z] (.bool (chrB z)) True)
    | _ => none
  | k => conAr k ds S
theorem conRf_ok : ConOk Tryd.prog conRf := by
  intro k ds S A h
  unfold conRf at h
  split at h
  · split at h
    · rename_i k ns f _ nn g _ ni g' _
      injection h with h; subst h
      refine pC_ok fun _ => ⟨weakL_refl _, sC_weak (us := [.agg [.int .i64 k, .sl 1 ns f .any, .sl 1 nn g .any, .sl 4 ni g' .any]]) ?_ (sz_ok _ _ _ _ _ _ _)⟩
      refine ⟨?_, trivial⟩
      simp only [weakD, weakL]
      refine ⟨by simp [chk_iff, kEq], ?_, ?_, ?_, trivial⟩
      · simp [chk_iff, weakM]
      · simp [chk_iff, weakM]
      · simp [chk_iff, weakM]
    · cases h
  · split at h
    · injection h with h; subst h
      exact pC_ok fun _ => ⟨weakL_refl _, rnum_ok _⟩
    · cases h
  · split at h
    · injection h with h; subst h
      exact pC_ok fun _ => ⟨weakL_refl _, rchr_ok _⟩
    · cases h
  · exact conAr_ok _ _ _ _ h
mutual
def wtA : Arr → Int
  | .mk k _ n is => min (wtL k is (sizeR k n.length is.length)) 262145
def wtL (k : Int) : List Arr → Int → Int
  | [], n => n
  | x :: r, n => if k = 3 ∧ n ≤ 262144 then wtL k r (n + wtA x) else n
end
theorem wtA_eq (a : Arr) : wtA a = min (wtL a.k a.it (sizeR a.k a.nu.length a.it.length)) 262145 := by
  cases a with
  | mk k s n is => rw [wtA]; rfl
theorem wtL_pos (k : Int) : ∀ (l : List Arr) (n : Int), 0 ≤ n → (∀ x ∈ l, 0 ≤ wtA x) → 0 ≤ wtL k l n
  | [], n, h, _ => by rw [wtL]; exact h
  | x :: r, n, h, h2 => by
    rw [wtL]
    have := h2 x (by simp)
    split
    · exact wtL_pos k r _ (by omega) fun y hy => h2 y (by simp [hy])
    · exact h
theorem wtA_bounds : ∀ (a : Arr), 0 ≤ wtA a ∧ wtA a ≤ 262145
  | .mk k s n is => by
    rw [wtA]
    have hs : 0 ≤ sizeR k n.length is.length := by unfold sizeR; split <;> (try split) <;> omega
    have := wtL_pos k is _ hs fun x hx => (wtA_bounds x).1
    omega
termination_by a => SizeOf.sizeOf a
decreasing_by
  have := List.sizeOf_lt_of_mem hx
  simp; omega
def sRc (row : Arr → List D) (q : Arr → Prop) (r : Arr → D) : FnSpec where
  β := Arr
  α := Unit
  args := fun a => [.agg (row a)]
  st := fun _ => ⟨[], []⟩
  pre := q
  post := fun _ _ => True
  res := fun a _ => .ret (r a)
  out := fun _ _ => ⟨[], []⟩
def conWt (its : List Arr) : Con := fun k ds S => match k with
  | 17 => some (sRc Arr.row1 (fun b => b ∈ its) (fun b => .int .i64 (wtA b)))
  | k => conRf k ds S
theorem sRc_row {k : Nat} {q q' : Arr → Prop} {r : Arr → D} {b : Arr} (h : ACalls Tryd.prog k ((sRc Arr.row2 q r).args b) ⟨[], []⟩ (SpecR (sRc Arr.row2 q r) b)) : ACalls Tryd.prog k ((sRc Arr.row1 q' r).args b) ⟨[], []⟩ (SpecR (sRc Arr.row1 q' r) b) := by
  refine (h.wkArgs ?_).mono fun _ _ ⟨y, h1, h2, h3⟩ => ⟨y, h1, h2, h3⟩
  simp only [sRc, wkL, wkD]
  exact ⟨row1_wk b, trivial⟩
theorem conWt_ok {its : List Arr} (ih : ∀ b ∈ its, ACalls Tryd.prog 17 ((sRc Arr.row2 (fun _ => True) (fun b => .int .i64 (wtA b))).args b) ⟨[], []⟩ (SpecR (sRc Arr.row2 (fun _ => True) (fun b => .int .i64 (wtA b))) b)) : ConOk Tryd.prog (conWt its) := by
  intro k ds S A h
  unfold conWt at h
  split at h
  · injection h with h; subst h
    exact ConOk.plain (fun b hb => sRc_row (ih b hb)) rfl rfl
  · exact conRf_ok _ _ _ _ h
noncomputable def Ewt (a : Arr) : Senv := { EC (conWt a.it) 33 5 [20] (fun _ => ([], [])) with
  ann := fun b _ S => match b with
    | 0 => some { slots := [3, 4], keep := [0, 1, 2], α := Nat × Int, st := fun y => ([.int .i64 y.2, .int .i64 y.1], S), inv := fun y => y.1 ≤ a.it.length ∧ 0 ≤ y.2 ∧ y.2 ≤ maxLen ∧ wtL a.k (a.it.drop y.1) y.2 = wtL a.k a.it (sizeR a.k a.nu.length a.it.length), mu := fun y => a.it.length - y.1 }
    | _ => none }
noncomputable section
def ar5q5 (p0 : Arr) : List Arr := Arr.it p0
def ar5q6 (p0 : Arr) : Nat := LN (ar5q5 p0)
def ar5q7 (p0 : Arr) : Int := Arr.k p0
def ar5q8 (p0 : Arr) : Nat := LN (Arr.nu p0)
def ar5q9 (p0 : Arr) : Int := sizeR (ar5q7 p0) (ar5q8 p0) (ar5q6 p0)
def ar5q10 (p0 : Nat) (p1 : Arr) (p2 : Int) : Prop := p0 ≤ ar5q6 p1 ∧ Z0 ≤ p2 ∧ p2 ≤ (9223372036854775807 : Int) ∧ wtL (ar5q7 p1) (List.drop p0 (ar5q5 p1)) p2 = wtL (ar5q7 p1) (ar5q5 p1) (ar5q9 p1)
def ar5q11 (p0 : Arr) : Nat := LN (Arr.sh p0)
def ar5q12 (p0 : Arr) (p1 : Nat) : List D := [ZI (GI (Arr.sh p0) p1)]
def ar5q13 (p0 : Arr) (p1 : Nat) : List D := [ZI (GI (Arr.nu p0) p1)]
def ar5q14 : Arr := DA
def ar5q15 (p0 : Arr) (p1 : Nat) : Arr := List.getD (ar5q5 p0) p1 ar5q14
def ar5q16 (p0 : Arr) (p1 : Nat) : List Int := Arr.sh (ar5q15 p0 p1)
def ar5q17 (p0 : Arr) (p1 : Nat) : List Int := Arr.nu (ar5q15 p0 p1)
def ar5q18 (p0 : Arr) (p1 : Nat) : List Arr := Arr.it (ar5q15 p0 p1)
def ar5q19 (p0 : Arr) (p1 : Nat) : List D := [ZI (Arr.k (ar5q15 p0 p1)), SI (ar5q16 p0 p1), SI (ar5q17 p0 p1), D.sl N4 (LN (ar5q18 p0 p1)) (fun (i : Nat) => Arr.row (List.getD (ar5q18 p0 p1) i ar5q14)) Mode.any]
def ar5q20 (p0 : Nat) (p1 : Arr) : Prop := (SM p0 ∧ (SM (ar5q7 p1) ∧ (SM (ar5q11 p1) ∧ (∀ (i : Nat), i < ar5q11 p1 → SM (ar5q12 p1 i)) ∧ True) ∧ (SM (ar5q8 p1) ∧ (∀ (i : Nat), i < ar5q8 p1 → SM (ar5q13 p1 i)) ∧ True) ∧ (SM (ar5q6 p1) ∧ (∀ (i : Nat), i < ar5q6 p1 → SM (ar5q19 p1 i)) ∧ True) ∧ True) ∧ True) ∧ True
def ar5q21 (p0 : Nat) (p1 : Arr) : Bool := decide ((↑p0 : Int) < (NI (ar5q6 p1)))
def ar5q22 (p0 : Nat) (p1 : Arr) (p2 : Int) : Bool := bif bif ar5q21 p0 p1 then ar5q7 p1 == (3 : Int) else false then decide (p2 ≤ (262144 : Int)) else false
def ar5q23 (p0 : Nat) (p1 : Arr) (p2 : Int) : Prop := false = ar5q22 p0 p1 p2 ∧ True
def ar5q24 (p0 : Arr) (p1 : Nat) : Arr := List.getD (ar5q5 p0) (Int.toNat (↑p1 : Int)) ar5q14
def ar5q25 (p0 : Arr) (p1 : Nat) : List Int := Arr.sh (ar5q24 p0 p1)
def ar5q26 (p0 : Arr) (p1 : Nat) : Nat := LN (ar5q25 p0 p1)
def ar5q27 (p0 : Arr) (p1 : Nat) : List Int := Arr.nu (ar5q24 p0 p1)
def ar5q28 (p0 : Arr) (p1 : Nat) : Nat := LN (ar5q27 p0 p1)
def ar5q29 (p0 : Arr) (p1 : Nat) : List Arr := Arr.it (ar5q24 p0 p1)
def ar5q30 (p0 : Arr) (p1 : Nat) : Nat := LN (ar5q29 p0 p1)
def ar5q31 (p0 : Arr) : D := D.agg [ZI (ar5q7 p0), D.sl N1 (ar5q11 p0) (fun (i : Nat) => ar5q12 p0 i) Mode.any, D.sl N1 (ar5q8 p0) (fun (i : Nat) => ar5q13 p0 i) Mode.any, D.sl N4 (ar5q6 p0) (fun (i : Nat) => ar5q19 p0 i) Mode.any]
end
theorem wt_step (a : Arr) (ha : a.nu.length ≤ maxLen ∧ a.it.length ≤ maxLen ∧ a.sh.length ≤ maxLen) (ih : ∀ b ∈ a.it, ACalls Tryd.prog 17 ((sRc Arr.row2 (fun _ => True) (fun b => .int .i64 (wtA b))).args b) ⟨[], []⟩ (SpecR (sRc Arr.row2 (fun _ => True) (fun b => .int .i64 (wtA b))) b)) :
    ACalls Tryd.prog 17 ((sRc Arr.row2 (fun _ => True) (fun b => .int .i64 (wtA b))).args a) ⟨[], []⟩ (SpecR (sRc Arr.row2 (fun _ => True) (fun b => .int .i64 (wtA b))) a) := by
  refine con_of (A := sRc Arr.row2 (fun _ => True) (fun b => .int .i64 (wtA b))) (x := a) (E := Ewt a) (eOk (conWt_ok ih) rfl) Tryd.func17 rfl (by kernel_rfl) rfl (by simp [sRc, Ewt, EC, E0]) ?_
  refine vc_eq (T :=
    ∀ (x : Nat), True → SM x ∧ True ∧ ∀ (y : Unit), True → (∃ (x_1 : Nat × Int), ar5q10 x_1.1 a x_1.2 ∧ (ar5q9 a = x_1.2 ∧ Z0 = (NI x_1.1) ∧ True) ∧ ar5q20 x a) ∧ ∀ (x_1 : Nat × Int), ar5q10 x_1.1 a x_1.2 → (SM x ∧ ifB (ar5q21 x_1.1 a) (SM x ∧ ifB (ar5q7 a == (3 : Int)) (decide (x_1.2 ≤ (262144 : Int)) = ar5q22 x_1.1 a x_1.2 ∧ True) (ar5q23 x_1.1 a x_1.2)) (ar5q23 x_1.1 a x_1.2)) ∧ ifB (ar5q22 x_1.1 a x_1.2) (SM x ∧ side (Z0 ≤ (NI x_1.1) ∧ (NI x_1.1) < (NI (ar5q6 a))) (∃ (x_2 : Arr), ((Arr.k (ar5q24 a x_1.1) = ar5q7 x_2 ∧ (ar5q26 a x_1.1 = ar5q11 x_2 ∧ (∀ (i : Nat), i < ar5q26 a x_1.1 → [ZI (GI (ar5q25 a x_1.1) i)] = ar5q12 x_2 i) ∧ True) ∧ (ar5q28 a x_1.1 = ar5q8 x_2 ∧ (∀ (i : Nat), i < ar5q28 a x_1.1 → [ZI (GI (ar5q27 a x_1.1) i)] = ar5q13 x_2 i) ∧ True) ∧ (ar5q30 a x_1.1 = ar5q6 x_2 ∧ (∀ (i : Nat), i < ar5q30 a x_1.1 → Arr.row (List.getD (ar5q29 a x_1.1) i ar5q14) = Arr.row (ar5q15 x_2 i)) ∧ True) ∧ True) ∧ True) ∧ (True ∧ True) ∧ x_2 ∈ ar5q5 a ∧ ∀ (y : Unit), True → (SM (ar5q31 a) ∧ SM (D.ref N0 x N0) ∧ SM (ZI Z0) ∧ True) ∧ ∃ (y : Nat × Int), ar5q10 y.1 a y.2 ∧ ar5q6 a - y.1 < ar5q6 a - x_1.1 ∧ (IntKind.wrap IntKind.i64 (x_1.2 + wtA x_2) = y.2 ∧ IntKind.wrap IntKind.i64 ((NI x_1.1) + Z1) = (NI y.1) ∧ True) ∧ ar5q20 x a)) (True ∧ ∃ (y : Unit), True ∧ (if (262145 : Int) < x_1.2 then (262145 : Int) else x_1.2) = wtA a ∧ True ∧ True)) (by kernel_rfl) ?_
  delta DA GI LN N0 N1 N4 NI SI SM Z0 Z1 ZI ar5q10 ar5q11 ar5q12 ar5q13 ar5q14 ar5q15 ar5q16 ar5q17 ar5q18 ar5q19 ar5q20 ar5q21 ar5q22 ar5q23 ar5q24 ar5q25 ar5q26 ar5q27 ar5q28 ar5q29 ar5q30 ar5q31 ar5q5 ar5q6 ar5q7 ar5q8 ar5q9
  have da : (default : Arr) = Arr.mk 0 [] [] [] := rfl
  simp only [← da, Int.toNat_natCast, ifB_iff, side_iff, decide_eq_true_eq, decide_eq_false_iff_not, true_and, and_true, beq_iff_eq, Bool.cond_false_right, Bool.and_eq_true, Bool.and_eq_false_iff, beq_eq_false_iff_ne, ne_eq, exists_const, forall_const]
  obtain ⟨l1, l2, l3⟩ := ha
  simp only [maxLen] at l1 l2 l3
  have tt : (∀ i : Nat, i < a.sh.length → True) ∧ (∀ i : Nat, i < a.nu.length → True) ∧ ∀ i : Nat, i < a.it.length → True := ⟨fun _ _ => trivial, fun _ _ => trivial, fun _ _ => trivial⟩
  have hsz : 0 ≤ sizeR a.k a.nu.length a.it.length ∧ sizeR a.k a.nu.length a.it.length ≤ 9223372036854775807 := by
    unfold sizeR; split <;> (try split) <;> omega
  refine ⟨⟨(0, sizeR a.k a.nu.length a.it.length), ⟨Nat.zero_le _, hsz.1, hsz.2, rfl⟩, ⟨rfl, rfl⟩, tt⟩, ?_⟩
  rintro ⟨j, n⟩ ⟨b1, b2, b3, hch⟩
  simp only at b1 b2 b3 hch ⊢
  refine ⟨⟨fun h1 => ⟨fun h2 => by simp [h1, h2], fun h2 => by simp [h2]⟩, fun h1 => by simp [h1]⟩, fun ⟨⟨h1, h2⟩, h3⟩ => ⟨by omega, ?_⟩, fun hc => ?_⟩
  · have hlt' : j < a.it.length := by omega
    have hbd := wtA_bounds (a.it.getD j default)
    rw [drop_step hlt', wtL, if_pos ⟨h2, h3⟩] at hch
    refine ⟨a.it.getD j default, ⟨rfl, ⟨rfl, fun _ _ => rfl⟩, ⟨rfl, fun _ _ => rfl⟩, rfl, fun _ _ => rfl⟩, mem_getD hlt', (j + 1, n + wtA (a.it.getD j default)), ⟨by simp only; omega, by simp only; omega, by simp only; omega, hch⟩, by simp only; omega, ⟨wrap_i64' (by omega) (by omega), wrap_i64' (by omega) (by omega)⟩, tt⟩
  · have he : wtL a.k (a.it.drop j) n = n := by
      by_cases hj : j < a.it.length
      · rw [drop_step hj, wtL, if_neg (by rintro ⟨h2, h3⟩; rcases hc with (h | h) | h <;> omega)]
      · rw [List.drop_eq_nil_of_le (by omega), wtL]
    rw [he] at hch
    rw [wtA_eq, ← hch]
    split <;> omega
theorem wt_all : ∀ (a : Arr), a.ok → ACalls Tryd.prog 17 ((sRc Arr.row2 (fun _ => True) (fun b => .int .i64 (wtA b))).args a) ⟨[], []⟩ (SpecR (sRc Arr.row2 (fun _ => True) (fun b => .int .i64 (wtA b))) a)
  | .mk k s n is, h => by
    have h' := h
    simp only [Arr.ok] at h'
    obtain ⟨_, _, _, h1, h2, h3, h4⟩ := h'
    refine wt_step (.mk k s n is) ⟨h2, h3, h1⟩ fun b hb => ?_
    have hb' : b ∈ is := hb
    exact wt_all b ((okL_iff _).1 h4 b hb')
termination_by a => SizeOf.sizeOf a
decreasing_by
  have := List.sizeOf_lt_of_mem hb'
  simp; omega
end Go.Proofs.YtpgepjefbhgblaaDoor
namespace Go.Proofs.YtpgepjefbhgblaaDoor
open Go Go.Ab
theorem chkL_sat : ∀ (l : List Arr) (d d' w' : Int), chkL l d 262145 = some (d', w') → w' = 262145
  | [], d, d', w', h => by rw [chkL] at h; injection h with h; injection h with e1 e2; omega
  | x :: r, d, d', w', h => by
    rw [chkL] at h
    have := chkA_bounds x
    split at h
    · cases h
    · have e : (if (262145 : Int) < 262145 + (chkA x).2.2 then 262145 else 262145 + (chkA x).2.2) = 262145 := by split <;> omega
      rw [e] at h; exact chkL_sat r _ d' w' h
theorem wtL_chk (k : Int) : ∀ (l : List Arr) (d w d' w' : Int), chkL l d w = some (d', w') → (k = 3 ∨ l = []) → (∀ x ∈ l, (chkA x).1 = 0 → wtA x = (chkA x).2.2) → ∀ n, min n 262145 = w → min (wtL k l n) 262145 = w'
  | [], d, w, d', w', h, _, _, n, hn => by
    rw [chkL] at h; injection h with h; injection h with e1 e2; rw [wtL]; omega
  | x :: r, d, w, d', w', h, hk, h3, n, hn => by
    have hk : k = 3 := hk.resolve_right (by simp)
    rw [chkL] at h
    have hb := chkA_bounds x
    split at h
    · cases h
    · rename_i hx
      have hx : (chkA x).1 = 0 := by simpa using hx
      have hwx := h3 x (by simp) hx
      rw [wtL]
      by_cases hn2 : n ≤ 262144
      · rw [if_pos ⟨hk, hn2⟩]
        refine wtL_chk k r _ _ d' w' h (.inl hk) (fun y hy => h3 y (by simp [hy])) _ ?_
        split <;> omega
      · rw [if_neg (fun e => hn2 e.2)]
        have hw : w = 262145 := by omega
        rw [hw] at h
        have : (if (262145 : Int) < 262145 + (chkA x).2.2 then 262145 else 262145 + (chkA x).2.2) = 262145 := by split <;> omega
        rw [this] at h
        have := chkL_sat r _ _ _ h
        omega
theorem form_zero {k : Int} {s : List Int} {nn ni : Nat} (h : formS k s nn ni = 0) : (k = 3 ∧ nn = 0) ∨ ((k = 1 ∨ k = 2) ∧ ni = 0) := by
  unfold formS at h
  by_cases hk : k = 1 ∨ k = 2 ∨ k = 3
  · rw [if_pos hk] at h
    by_cases hd : dimsS s ≠ 0
    · rw [if_pos hd] at h; exact (hd h).elim
    · rw [if_neg hd] at h
      by_cases hc : ((if k = 3 then (ni : Int) else nn) ≠ sizeS s) ∨ ((if k = 3 then (nn : Int) else ni) ≠ 0)
      · rw [if_pos hc] at h; omega
      · simp only [not_or, ne_eq, Decidable.not_not] at hc
        obtain ⟨c1, c2⟩ := hc
        by_cases k3 : k = 3
        · simp only [k3, if_true] at c2; left; omega
        · simp only [k3, if_false] at c2; right; omega
  · rw [if_neg hk] at h; omega
theorem wt_of {a : Arr} {r : Int × Int} (h0 : formS a.k a.sh a.nu.length a.it.length = 0) (hr : chkL a.it 0 ((a.nu.length : Int) + a.it.length) = some r) (h3 : ∀ x ∈ a.it, (chkA x).1 = 0 → wtA x = (chkA x).2.2) : wtA a = r.2 := by
  have hz := form_zero h0
  have hs := form_small h0
  rw [wtA_eq]
  refine wtL_chk a.k a.it 0 _ r.1 r.2 hr ?_ h3 _ ?_
  · rcases hz with ⟨h1, _⟩ | ⟨_, h2⟩
    · exact .inl h1
    · exact .inr (List.length_eq_zero_iff.1 h2)
  · unfold sizeR
    rcases hz with ⟨h1, h2⟩ | ⟨h1, h2⟩
    · rw [if_neg (by omega), if_pos h1]; omega
    · rw [if_pos h1]; omega
theorem wt_chk : ∀ (a : Arr), (chkA a).1 = 0 → wtA a = (chkA a).2.2
  | .mk k s n is, h => by
    have ih : ∀ x ∈ (Arr.mk k s n is).it, (chkA x).1 = 0 → wtA x = (chkA x).2.2 := fun x hx => by
      have hx' : x ∈ is := hx
      exact wt_chk x
    have hA := chkA_eq (Arr.mk k s n is)
    generalize Arr.mk k s n is = a at *
    by_cases h0 : formS a.k a.sh a.nu.length a.it.length = 0
    · rw [if_neg (fun e => e h0)] at hA
      by_cases h1 : a.nu.any (badK a.k) = true
      · rw [if_pos h1] at hA; rw [hA] at h; cases h
      · rw [if_neg h1] at hA
        cases hr : chkL a.it 0 ((a.nu.length : Int) + a.it.length) with
        | none => rw [hr] at hA; simp only at hA; rw [hA] at h; cases h
        | some r =>
          rw [hr] at hA
          simp only at hA
          split at hA
          · rw [hA] at h; cases h
          · rw [hA]; exact wt_of h0 hr ih
    · rw [if_pos h0] at hA; rw [hA] at h; exact (h0 h).elim
termination_by a => SizeOf.sizeOf a
decreasing_by
  have := List.sizeOf_lt_of_mem hx'
  simp; omega
def resC (b : Arr) : D := .tup [.int .i64 (chkA b).1, .int .i64 (chkA b).2.1]
def conCk (a : Arr) : Con := fun k ds S => match k with
  | 31 => some (sRc Arr.row1 (fun b => b ∈ a.it) (fun b => .tup [.int .i64 (chkA b).1, .int .i64 (chkA b).2.1]))
  | 17 => some (sRc Arr.row2 (fun b => b = a) (fun b => .int .i64 (wtA b)))
  | k => conRf k ds S
theorem conCk_ok {a : Arr} (ha : a.ok) (ih : ∀ b ∈ a.it, ACalls Tryd.prog 31 ((sRc Arr.row2 (fun _ => True) resC).args b) ⟨[], []⟩ (SpecR (sRc Arr.row2 (fun _ => True) resC) b)) : ConOk Tryd.prog (conCk a) := by
  intro k ds S A h
  unfold conCk at h
  split at h
  · injection h with h; subst h
    exact ConOk.plain (fun b hb => sRc_row (r := resC) (ih b hb)) rfl rfl
  · injection h with h; subst h
    refine ConOk.plain (fun b hb => ?_) rfl rfl
    have hb : b = a := hb
    rw [hb]
    exact (wt_all a ha).mono fun _ _ ⟨y, h1, h2, h3⟩ => ⟨y, h1, h2, h3⟩
  · exact conRf_ok _ _ _ _ h
def cutW (a : Arr) (d : D) (S : St) : Option LoopAnn :=
  match d with
  | .int _ i => some { slots := [76], keep := [], α := Unit, st := fun _ => ([.bool (badK a.k (a.nu.getD i.toNat 0))], S), inv := fun _ => True, mu := fun _ => 0 }
  | _ => none
noncomputable def Eck (a : Arr) : Senv := { EC (conCk a) 107 11 [18, 23, 30, 43, 48, 76, 81, 94, 105] (fun id => match id with | 9 => ([0, 2, 3, 1, 4, 5, 6, 7, 8, 9], [1, 4]) | _ => ([], [])) with
  cut := fun id env S => match id with
    | 14 => cutW a (Ab.look env 6) S
    | _ => none
  ann := fun b _ S => match b with
    | 0 => some { slots := [6], keep := [0, 1, 2, 3], α := Nat, st := fun i => ([.int .i64 i], S), inv := fun i => i ≤ a.nu.length ∧ ∀ z ∈ a.nu.take i, badK a.k z = false, mu := fun i => a.nu.length - i }
    | 2 => some { slots := [8, 7], keep := [0, 1, 2, 3], α := Nat × Int × Int, st := fun y => ([.int .i64 y.1, .int .i64 y.2.1], S), inv := fun y => y.1 ≤ a.it.length ∧ 0 ≤ y.2.1 ∧ y.2.1 ≤ 17 ∧ 0 ≤ y.2.2 ∧ y.2.2 ≤ 262145 ∧ chkL (a.it.drop y.1) y.2.1 y.2.2 = chkL a.it 0 ((a.nu.length : Int) + a.it.length), mu := fun y => a.it.length - y.1 }
    | _ => none }
noncomputable section
def ar6q0 (p0 : Arr) : Int := Arr.k p0
def ar6q1 (p0 : Arr) : Bool := bif decide (ar6q0 p0 < Z1) then true else decide ((3 : Int) < ar6q0 p0)
def ar6q2 (p0 : Arr) : Int := Prod.fst (chkA p0)
def ar6q3 (p0 : Arr) : Int := Prod.fst (Prod.snd (chkA p0))
def ar6q4 (p0 : Arr) : Prop := Z0 = ar6q3 p0 ∧ True
def ar6q5 (p0 : Arr) : Nat := LN (Arr.sh p0)
def ar6q6 (p0 : Arr) (p1 : Nat) : List D := [ZI (GI (Arr.sh p0) p1)]
def ar6q7 (p0 : Arr) : Prop := IntsP (ar6q5 p0) fun (i : Nat) => ar6q6 p0 i
def ar6q8 (p0 : Arr) : List Int := intsD (ar6q5 p0) fun (i : Nat) => ar6q6 p0 i
def ar6q9 (p0 : Arr) : Int := dimsS (ar6q8 p0)
def ar6q10 (p0 : Arr) : D := D.sl N1 (ar6q5 p0) (fun (i : Nat) => ar6q6 p0 i) Mode.any
def ar6q11 (p0 : Nat) (p1 : Arr) : Prop := SM p0 ∧ SM (ar6q10 p1)
def ar6q12 (p0 : Arr) : Prop := ar6q7 p0 ∧ ar6q9 p0 = Z0
def ar6q13 (p0 : Arr) : List Int := Arr.nu p0
def ar6q14 (p0 : Arr) : Nat := LN (ar6q13 p0)
def ar6q15 (p0 : Arr) : List Arr := Arr.it p0
def ar6q16 (p0 : Arr) : Nat := LN (ar6q15 p0)
def ar6q17 (p0 : Arr) : Bool := sizeR (ar6q0 p0) (ar6q14 p0) (ar6q16 p0) != sizeS (ar6q8 p0)
def ar6q18 (p0 : Arr) : Prop := True ∧ ∃ (_y : Unit), True ∧ ((16 : Int) = ar6q2 p0 ∧ ar6q4 p0) ∧ True ∧ True
def ar6q19 (p0 : Arr) : Int := (NI (ar6q14 p0))
def ar6q20 (p0 : Nat) (p1 : Arr) : Prop := p0 ≤ ar6q14 p1 ∧ ∀ (z : Int), z ∈ List.take p0 (ar6q13 p1) → badK (ar6q0 p1) z = false
def ar6q21 (p0 : Arr) (p1 : Nat) : List D := [ZI (GI (ar6q13 p0) p1)]
def ar6q22 : Arr := DA
def ar6q23 (p0 : Arr) (p1 : Nat) : Arr := List.getD (ar6q15 p0) p1 ar6q22
def ar6q24 (p0 : Arr) (p1 : Nat) : List Int := Arr.sh (ar6q23 p0 p1)
def ar6q25 (p0 : Arr) (p1 : Nat) : List Int := Arr.nu (ar6q23 p0 p1)
def ar6q26 (p0 : Arr) (p1 : Nat) : List Arr := Arr.it (ar6q23 p0 p1)
def ar6q27 (p0 : Arr) (p1 : Nat) : List D := [ZI (Arr.k (ar6q23 p0 p1)), SI (ar6q24 p0 p1), SI (ar6q25 p0 p1), D.sl N4 (LN (ar6q26 p0 p1)) (fun (i : Nat) => Arr.row (List.getD (ar6q26 p0 p1) i ar6q22)) Mode.any]
def ar6q28 (p0 : Nat) (p1 : Arr) : Prop := (SM p0 ∧ (SM (ar6q0 p1) ∧ (SM (ar6q5 p1) ∧ (∀ (i : Nat), i < ar6q5 p1 → SM (ar6q6 p1 i)) ∧ True) ∧ (SM (ar6q14 p1) ∧ (∀ (i : Nat), i < ar6q14 p1 → SM (ar6q21 p1 i)) ∧ True) ∧ (SM (ar6q16 p1) ∧ (∀ (i : Nat), i < ar6q16 p1 → SM (ar6q27 p1 i)) ∧ True) ∧ True) ∧ True) ∧ True
def ar6q29 (p0 : Arr) (p1 : Nat) : Int := GI (ar6q13 p0) (Int.toNat (↑p1 : Int))
def ar6q30 (p0 : Arr) (p1 : Nat) : Bool := badK (ar6q0 p0) (ar6q29 p0 p1)
def ar6q31 (p0 : Nat) (p1 : Arr) (p2 : Nat) : Prop := SM p0 ∧ ifB (ar6q0 p1 == (2 : Int)) (SM p0 ∧ side (Z0 ≤ (↑p2 : Int) ∧ (↑p2 : Int) < ar6q19 p1) (True ∧ ∀ (_y : Unit), True → ∃ (_x : Unit), True ∧ ((!chrB (ar6q29 p1 p2)) = ar6q30 p1 p2 ∧ True) ∧ ar6q28 p0 p1)) (∃ (_x : Unit), True ∧ (false = ar6q30 p1 p2 ∧ True) ∧ ar6q28 p0 p1)
def ar6q32 (p0 : Arr) : Prop := True ∧ ∃ (_y : Unit), True ∧ ((17 : Int) = ar6q2 p0 ∧ ar6q4 p0) ∧ True ∧ True
def ar6q33 (p0 : Arr) : D := D.agg [ZI (ar6q0 p0), ar6q10 p0, D.sl N1 (ar6q14 p0) (fun (i : Nat) => ar6q21 p0 i) Mode.any, D.sl N4 (ar6q16 p0) (fun (i : Nat) => ar6q27 p0 i) Mode.any]
def ar6q34 (p0 : Arr) (p1 : Nat) : Prop := SM (ar6q33 p0) ∧ SM (D.ref N0 p1 N0) ∧ SM (ZI Z0) ∧ SM (ZI Z0) ∧ True
def ar6q35 (p0 : Arr) : Int := (NI (ar6q16 p0))
def ar6q36 (p0 : Nat) (p1 : Arr) (p2 p3 : Int) : Prop := p0 ≤ ar6q16 p1 ∧ Z0 ≤ p2 ∧ p2 ≤ (17 : Int) ∧ Z0 ≤ p3 ∧ p3 ≤ (262145 : Int) ∧ chkL (List.drop p0 (ar6q15 p1)) p2 p3 = chkL (ar6q15 p1) Z0 (ar6q19 p1 + ar6q35 p1)
def ar6q37 (p0 : Arr) (p1 : Nat) : Arr := List.getD (ar6q15 p0) (Int.toNat (↑p1 : Int)) ar6q22
def ar6q38 (p0 : Arr) (p1 : Nat) : List Int := Arr.sh (ar6q37 p0 p1)
def ar6q39 (p0 : Arr) (p1 : Nat) : Nat := LN (ar6q38 p0 p1)
def ar6q40 (p0 : Arr) (p1 : Nat) : List Int := Arr.nu (ar6q37 p0 p1)
def ar6q41 (p0 : Arr) (p1 : Nat) : Nat := LN (ar6q40 p0 p1)
def ar6q42 (p0 : Arr) (p1 : Nat) : List Arr := Arr.it (ar6q37 p0 p1)
def ar6q43 (p0 : Arr) (p1 : Nat) : Nat := LN (ar6q42 p0 p1)
def ar6q44 (p0 : Arr) : Int := IntKind.wrap IntKind.i64 (ar6q3 p0 + Z1)
def ar6q45 (p0 : Arr) : Prop := True ∧ ∃ (_y : Unit), True ∧ ((21 : Int) = ar6q2 p0 ∧ ar6q4 p0) ∧ True ∧ True
def ar6q46 (p0 : Arr) (p1 : Nat) : Prop := (∃ (x : Nat), ar6q20 x p0 ∧ (Z0 = (↑x : Int) ∧ True) ∧ ar6q28 p1 p0) ∧ ∀ (x : Nat), ar6q20 x p0 → SM p1 ∧ ifB (decide ((↑x : Int) < ar6q19 p0)) ((SM p1 ∧ ifB (ar6q0 p0 == Z1) (SM p1 ∧ side (Z0 ≤ (↑x : Int) ∧ (↑x : Int) < ar6q19 p0) (True ∧ ∀ (_y : Unit), True → ifB (!numB (ar6q29 p0 x)) (∃ (_x_1 : Unit), True ∧ (true = ar6q30 p0 x ∧ True) ∧ ar6q28 p1 p0) (ar6q31 p1 p0 x))) (ar6q31 p1 p0 x)) ∧ ∀ (_x_1 : Unit), True → ifB (ar6q30 p0 x) (ar6q32 p0) (ar6q34 p0 p1 ∧ ∃ (y : Nat), ar6q20 y p0 ∧ ar6q14 p0 - y < ar6q14 p0 - x ∧ (IntKind.wrap IntKind.i64 ((↑x : Int) + Z1) = (↑y : Int) ∧ True) ∧ ar6q28 p1 p0)) ((∃ (x : Nat × Int × Int), ar6q36 x.1 p0 x.2.1 x.2.2 ∧ (Z0 = (NI x.1) ∧ Z0 = x.2.1 ∧ True) ∧ ar6q28 p1 p0) ∧ ∀ (x : Nat × Int × Int), ar6q36 x.1 p0 x.2.1 x.2.2 → SM p1 ∧ ifB (decide ((NI x.1) < ar6q35 p0)) (SM p1 ∧ side (Z0 ≤ (NI x.1) ∧ (NI x.1) < ar6q35 p0) (∃ (x_1 : Arr), ((Arr.k (ar6q37 p0 x.1) = ar6q0 x_1 ∧ (ar6q39 p0 x.1 = ar6q5 x_1 ∧ (∀ (i : Nat), i < ar6q39 p0 x.1 → [ZI (GI (ar6q38 p0 x.1) i)] = ar6q6 x_1 i) ∧ True) ∧ (ar6q41 p0 x.1 = ar6q14 x_1 ∧ (∀ (i : Nat), i < ar6q41 p0 x.1 → [ZI (GI (ar6q40 p0 x.1) i)] = ar6q21 x_1 i) ∧ True) ∧ (ar6q43 p0 x.1 = ar6q16 x_1 ∧ (∀ (i : Nat), i < ar6q43 p0 x.1 → Arr.row (List.getD (ar6q42 p0 x.1) i ar6q22) = Arr.row (ar6q23 x_1 i)) ∧ True) ∧ True) ∧ True) ∧ (True ∧ True) ∧ x_1 ∈ ar6q15 p0 ∧ ∀ (_y : Unit), True → ifB (ar6q2 x_1 != Z0) (ar6q32 p0) (ar6q34 p0 p1 ∧ ∃ (y : Nat × Int × Int), ar6q36 y.1 p0 y.2.1 y.2.2 ∧ ar6q16 p0 - y.1 < ar6q16 p0 - x.1 ∧ (IntKind.wrap IntKind.i64 ((NI x.1) + Z1) = (NI y.1) ∧ (if x.2.1 < ar6q44 x_1 then ar6q44 x_1 else x.2.1) = y.2.1 ∧ True) ∧ ar6q28 p1 p0))) (ifB (decide ((16 : Int) < x.2.1)) (ar6q45 p0) (SM p1 ∧ ∃ (x_1 : Arr), ((ar6q0 p0 = ar6q0 x_1 ∧ (ar6q5 p0 = ar6q5 x_1 ∧ (∀ (i : Nat), i < ar6q5 p0 → ar6q6 p0 i = ar6q6 x_1 i) ∧ True) ∧ (ar6q14 p0 = ar6q14 x_1 ∧ (∀ (i : Nat), i < ar6q14 p0 → ar6q21 p0 i = ar6q21 x_1 i) ∧ True) ∧ (ar6q16 p0 = ar6q16 x_1 ∧ (∀ (i : Nat), i < ar6q16 p0 → ar6q27 p0 i = ar6q27 x_1 i) ∧ True) ∧ True) ∧ True) ∧ (True ∧ True) ∧ x_1 = p0 ∧ ∀ (_y : Unit), True → ifB (decide ((262144 : Int) < wtA x_1)) (ar6q45 p0) (True ∧ ∃ (_y : Unit), True ∧ (Z0 = ar6q2 p0 ∧ x.2.1 = ar6q3 p0 ∧ True) ∧ True ∧ True))))
end
theorem ck_step (a : Arr) (hok : a.ok) (ha : a.nu.length ≤ maxLen ∧ a.it.length ≤ maxLen ∧ a.sh.length ≤ maxLen) (ih : ∀ b ∈ a.it, ACalls Tryd.prog 31 ((sRc Arr.row2 (fun _ => True) resC).args b) ⟨[], []⟩ (SpecR (sRc Arr.row2 (fun _ => True) resC) b)) :
    ACalls Tryd.prog 31 ((sRc Arr.row2 (fun _ => True) resC).args a) ⟨[], []⟩ (SpecR (sRc Arr.row2 (fun _ => True) resC) a) := by
  refine con_of (A := sRc Arr.row2 (fun _ => True) resC) (x := a) (E := Eck a) (eOk (conCk_ok hok ih) rfl) Tryd.func31 rfl (by kernel_rfl) rfl (by simp [sRc, Eck, EC, E0]) ?_
  simp only [sRc, resC]
  refine vc_eq (T :=
    ∀ (x : Nat), True → (SM x ∧ ifB (decide (ar6q0 a < Z1)) (true = ar6q1 a ∧ True) (SM x ∧ decide ((3 : Int) < ar6q0 a) = ar6q1 a ∧ True)) ∧ ifB (ar6q1 a) (True ∧ ∃ (y : Unit), True ∧ ((14 : Int) = ar6q2 a ∧ ar6q4 a) ∧ True ∧ True) (SM x ∧ ar6q7 a ∧ ∀ (y : Unit), True → ifB (ar6q9 a != Z0) (True ∧ ∃ (y : Unit), True ∧ (ar6q9 a = ar6q2 a ∧ ar6q4 a) ∧ True ∧ True) (SM x ∧ SM x ∧ ifB (ar6q0 a == (3 : Int)) (SM x ∧ SM x ∧ SM x ∧ True ∧ ∀ (y : Unit), True → ar6q11 x a ∧ ar6q12 a ∧ ∀ (y : Unit), True → ifB (ar6q17 a) (ar6q18 a) (ifB (decide (Z0 < ar6q19 a)) (ar6q18 a) (ar6q46 a x))) (SM x ∧ SM x ∧ True ∧ ∀ (y : Unit), True → ar6q11 x a ∧ ar6q12 a ∧ ∀ (y : Unit), True → ifB (ar6q17 a) (ar6q18 a) (ifB (decide (Z0 < ar6q35 a)) (ar6q18 a) (ar6q46 a x)))))) (by kernel_rfl) ?_
  delta DA GI LN N0 N1 N4 NI SI SM Z0 Z1 ZI ar6q0 ar6q1 ar6q10 ar6q11 ar6q12 ar6q13 ar6q14 ar6q15 ar6q16 ar6q17 ar6q18 ar6q19 ar6q2 ar6q20 ar6q21 ar6q22 ar6q23 ar6q24 ar6q25 ar6q26 ar6q27 ar6q28 ar6q29 ar6q3 ar6q30 ar6q31 ar6q32 ar6q33 ar6q34 ar6q35 ar6q36 ar6q37 ar6q38 ar6q39 ar6q4 ar6q40 ar6q41 ar6q42 ar6q43 ar6q44 ar6q45 ar6q46 ar6q5 ar6q6 ar6q7 ar6q8 ar6q9
  have da : (default : Arr) = Arr.mk 0 [] [] [] := rfl
  simp only [← da, intsD_isl, Int.toNat_natCast, ifB_iff, side_iff, decide_eq_true_eq, decide_eq_false_iff_not, true_and, and_true, beq_iff_eq, bne_iff_ne, Bool.cond_true_left, beq_eq_false_iff_ne, ne_eq, exists_const, forall_const]
  have hA := chkA_eq a
  obtain ⟨l1, l2, l3⟩ := ha
  simp only [maxLen] at l1 l2 l3
  have tt : (∀ i : Nat, i < a.sh.length → True) ∧ (∀ i : Nat, i < a.nu.length → True) ∧ ∀ i : Nat, i < a.it.length → True := ⟨fun _ _ => trivial, fun _ _ => trivial, fun _ _ => trivial⟩
  have bad : ∀ e, formS a.k a.sh a.nu.length a.it.length = e → e ≠ 0 → e = (chkA a).1 ∧ 0 = (chkA a).2.1 := fun e h1 h2 => by
    rw [if_pos (by rw [h1]; exact h2), h1] at hA
    rw [hA]; exact ⟨rfl, rfl⟩
  refine ⟨⟨fun h => by simp [h], fun h => by simp [h]⟩, fun h => bad 14 ?_ (by decide), fun h => ⟨intsP_isl _, fun hd => bad _ ?_ hd, fun hd => ?_⟩⟩
  · rw [Bool.or_eq_true, decide_eq_true_eq, decide_eq_true_eq] at h
    unfold formS; rw [if_neg (by omega)]
  · rw [Bool.or_eq_false_iff, decide_eq_false_iff_not, decide_eq_false_iff_not] at h
    unfold formS; rw [if_pos (by omega), if_pos hd]
  rw [Bool.or_eq_false_iff, decide_eq_false_iff_not, decide_eq_false_iff_not] at h
  have hd0 : dimsS a.sh = 0 := by simpa using hd
  have hk : a.k = 1 ∨ a.k = 2 ∨ a.k = 3 := by omega
  have hf : formS a.k a.sh a.nu.length a.it.length = if ((if a.k = 3 then (a.it.length : Int) else a.nu.length) ≠ sizeS a.sh) ∨ ((if a.k = 3 then (a.nu.length : Int) else a.it.length) ≠ 0) then 16 else 0 := by
    unfold formS; rw [if_pos hk, if_neg (fun e => e hd0)]
  have hsz : sizeR a.k a.nu.length a.it.length = if a.k = 3 then (a.it.length : Int) else a.nu.length := by
    unfold sizeR
    by_cases k3 : a.k = 3
    · rw [if_neg (by omega), if_pos k3, if_pos k3]
    · rw [if_pos (by omega), if_neg k3]
  rw [← hsz] at hf
  refine ⟨fun k3 => ⟨⟨intsP_isl _, hd0⟩, fun hs => bad 16 (by rw [hf, if_pos (.inl hs)]) (by decide), fun hs => ⟨fun ho => bad 16 (by rw [hf, if_pos (.inr (by rw [if_pos k3]; omega))]) (by decide), fun ho => ?_⟩⟩,
    fun k3 => ⟨⟨intsP_isl _, hd0⟩, fun hs => bad 16 (by rw [hf, if_pos (.inl hs)]) (by decide), fun hs => ⟨fun ho => bad 16 (by rw [hf, if_pos (.inr (by rw [if_neg k3]; omega))]) (by decide), fun ho => ?_⟩⟩⟩
  all_goals
    have hs' : sizeR a.k a.nu.length a.it.length = sizeS a.sh := by simpa using hs
    have h0 : formS a.k a.sh a.nu.length a.it.length = 0 := by
      rw [hf, if_neg]
      rintro (h1 | h1)
      · exact h1 hs'
      · simp only [k3, if_true, if_false] at h1; omega
    clear hf hs hsz
    have hsm := form_small h0
    refine ⟨⟨0, ⟨Nat.zero_le _, by simp⟩, rfl, tt⟩, fun i hi => ⟨fun hlt => ?_, fun hge => ?_⟩⟩
    · have hlt' : i < a.nu.length := by omega
      have hmem : a.nu.getD i 0 ∈ a.nu := by rw [List.getD_eq_getElem?_getD, List.getElem?_eq_getElem hlt']; exact List.getElem_mem hlt'
      have htk : a.nu.take (i + 1) = a.nu.take i ++ [a.nu.getD i 0] := by
        rw [List.take_add_one]; simp [List.getD_eq_getElem?_getD, hlt']
      generalize a.nu.getD i 0 = z at *
      refine ⟨⟨fun k1 => ⟨⟨by omega, hlt⟩, fun hn => ⟨by simp at hn; simp [badK, k1, hn], tt⟩, fun hn => ⟨fun k2 => by omega, fun k2 => ⟨by simp at hn; simp [badK, k1, hn], tt⟩⟩⟩, fun k1 => ⟨fun k2 => ⟨⟨by omega, hlt⟩, by simp [badK, k2], tt⟩, fun k2 => ⟨by simp [badK, k1, k2], tt⟩⟩⟩, fun hb => ?_, fun hb => ⟨i + 1, ⟨by omega, fun y hy => ?_⟩, by omega, wrap_i64' (by omega) (by omega), tt⟩⟩
      · have : a.nu.any (badK a.k) = true := List.any_eq_true.2 ⟨z, hmem, hb⟩
        rw [if_neg (fun e => e h0), if_pos this] at hA
        rw [hA]
        exact ⟨rfl, rfl⟩
      · rw [htk, List.mem_append] at hy
        rcases hy with hy | hy
        · exact hi.2 y hy
        · simp at hy; rw [hy]; exact hb
    · have hii : i = a.nu.length := by omega
      rw [hii, List.take_length] at hi
      have hany : ¬ a.nu.any (badK a.k) = true := by
        rw [List.any_eq_true]
        rintro ⟨z, hz, hb⟩
        rw [hi.2 z hz] at hb
        cases hb
      rw [if_neg (fun e => e h0), if_neg hany] at hA
      refine ⟨⟨(0, 0, (a.nu.length : Int) + a.it.length), ⟨Nat.zero_le _, Int.le_refl _, by simp, by simp only; omega, by simp only; omega, by simp⟩, ⟨rfl, rfl⟩, tt⟩, ?_⟩
      rintro ⟨j, d, w⟩ ⟨b1, b2, b3, b4, b5, hch⟩
      simp only at b1 b2 b3 b4 b5 hch ⊢
      refine ⟨fun hlt => ⟨⟨by omega, hlt⟩, ?_⟩, fun hge => ?_⟩
      · have hlt' : j < a.it.length := by omega
        have hbd := chkA_bounds (a.it.getD j default)
        rw [drop_step hlt', chkL] at hch
        refine ⟨a.it.getD j default, ⟨rfl, ⟨rfl, fun _ _ => rfl⟩, ⟨rfl, fun _ _ => rfl⟩, rfl, fun _ _ => rfl⟩, mem_getD hlt', fun herr => ?_, fun hok => ?_⟩
        · rw [if_pos herr] at hch
          rw [← hch] at hA
          rw [hA]
          exact ⟨rfl, rfl⟩
        · have hok : (chkA (a.it.getD j default)).1 = 0 := by simpa using hok
          rw [if_neg (fun hne => hne hok)] at hch
          have w1 : IntKind.i64.wrap ((chkA (a.it.getD j default)).2.1 + 1) = (chkA (a.it.getD j default)).2.1 + 1 := wrap_i64' (by omega) (by omega)
          rw [w1]
          refine ⟨(j + 1, (if d < (chkA (a.it.getD j default)).2.1 + 1 then (chkA (a.it.getD j default)).2.1 + 1 else d), (if 262145 < w + (chkA (a.it.getD j default)).2.2 then 262145 else w + (chkA (a.it.getD j default)).2.2)), ⟨by simp only; omega, ?_, ?_, ?_, ?_, hch⟩, by simp only; omega, ⟨wrap_i64' (by omega) (by omega), rfl⟩, tt⟩
          · simp only; split <;> omega
          · simp only; split <;> omega
          · simp only; split <;> omega
          · simp only; split <;> omega
      · have hj : j = a.it.length := by omega
        rw [hj, List.drop_length, chkL] at hch
        have hw := wt_of h0 hch.symm fun x _ hx => wt_chk x hx
        rw [← hch] at hA
        simp only at hA hw
        refine ⟨fun hc => ?_, fun hc => ⟨a, ⟨rfl, ⟨rfl, fun _ _ => rfl⟩, ⟨rfl, fun _ _ => rfl⟩, rfl, fun _ _ => rfl⟩, rfl, fun hq => ?_, fun hq => ?_⟩⟩
        · rw [if_pos (.inl hc)] at hA
          rw [hA]; exact ⟨rfl, rfl⟩
        · rw [if_pos (.inr (by omega))] at hA
          rw [hA]; exact ⟨rfl, rfl⟩
        · rw [if_neg (by omega)] at hA
          rw [hA]; exact ⟨rfl, rfl⟩
theorem ck_all : ∀ (a : Arr), a.ok → ACalls Tryd.prog 31 ((sRc Arr.row2 (fun _ => True) resC).args a) ⟨[], []⟩ (SpecR (sRc Arr.row2 (fun _ => True) resC) a)
  | .mk k s n is, h => by
    have h' := h
    simp only [Arr.ok] at h'
    obtain ⟨_, _, _, h1, h2, h3, h4⟩ := h'
    refine ck_step (.mk k s n is) h ⟨h2, h3, h1⟩ fun b hb => ?_
    have hb' : b ∈ is := hb
    exact ck_all b ((okL_iff _).1 h4 b hb')
termination_by a => SizeOf.sizeOf a
decreasing_by
  have := List.sizeOf_lt_of_mem hb'
  simp; omega
end Go.Proofs.YtpgepjefbhgblaaDoor
namespace Go.Proofs.YtpgepjefbhgblaaDoor
open Go Go.Ab
theorem sRc_q {k : Nat} {row : Arr → List D} {q q' : Arr → Prop} {r : Arr → D} {b : Arr} (h : ACalls Tryd.prog k ((sRc row q r).args b) ⟨[], []⟩ (SpecR (sRc row q r) b)) : ACalls Tryd.prog k ((sRc row q' r).args b) ⟨[], []⟩ (SpecR (sRc row q' r) b) :=
  h.mono fun _ _ ⟨y, h1, h2, h3⟩ => ⟨y, h1, h2, h3⟩
def errA (a : Arr) : D := .int .i64 (chkA a).1
def conRr (a : Arr) : Con := fun k _ _ => match k with
  | 31 => some (sRc Arr.row2 (fun b => b = a) (fun b => .tup [.int .i64 (chkA b).1, .int .i64 (chkA b).2.1]))
  | 18 => some (sRc Arr.row1 (fun b => b = a) (fun b => .int .i64 (chkA b).1))
  | _ => none
theorem conRr_ok {a : Arr} (ha : a.ok) : ConOk Tryd.prog (conRr a) := by
  intro k ds S A h
  unfold conRr at h
  split at h
  · injection h with h; subst h
    refine ConOk.plain (fun b hb => ?_) rfl rfl
    have hb : b = a := hb
    rw [hb]
    exact sRc_q (r := resC) (ck_all a ha)
  · injection h with h; subst h
    refine ConOk.plain (fun b hb => ?_) rfl rfl
    have hb : b = a := hb
    rw [hb]
    exact (ri_ok a ha).mono fun _ _ ⟨y, h1, h2, h3⟩ => ⟨(), trivial, h2, h3⟩
  · cases h
noncomputable def Err (a : Arr) : Senv := EC (conRr a) 11 5 [] (fun _ => ([], []))
noncomputable section
def ar7q0 (p0 : Arr) : Nat := LN (Arr.sh p0)
def ar7q1 (p0 : Arr) : Nat := LN (Arr.nu p0)
def ar7q2 (p0 : Arr) : Nat := LN (Arr.it p0)
def ar7q3 : Arr := DA
def ar7q4 (p0 : Arr) (p1 : Nat) : Arr := List.getD (Arr.it p0) p1 ar7q3
def ar7q5 (p0 : Arr) (p1 : Nat) : List Int := Arr.sh (ar7q4 p0 p1)
def ar7q6 (p0 : Arr) (p1 : Nat) : List Int := Arr.nu (ar7q4 p0 p1)
def ar7q7 (p0 : Arr) (p1 : Nat) : List Arr := Arr.it (ar7q4 p0 p1)
def ar7q8 (p0 : Arr) (p1 : Nat) : List D := [ZI (Arr.k (ar7q4 p0 p1)), SI (ar7q5 p0 p1), SI (ar7q6 p0 p1), D.sl N4 (LN (ar7q7 p0 p1)) (fun (i : Nat) => Arr.row (List.getD (ar7q7 p0 p1) i ar7q3)) Mode.any]
end
theorem rri_ok (a : Arr) (ha : a.ok) : ACalls Tryd.prog 15 ((sRc Arr.row2 (fun _ => True) errA).args a) ⟨[], []⟩ (SpecR (sRc Arr.row2 (fun _ => True) errA) a) := by
  refine con_of (A := sRc Arr.row2 (fun _ => True) errA) (x := a) (E := Err a) (eOk (conRr_ok ha) rfl) Tryd.func15 rfl (by kernel_rfl) rfl (by simp [sRc, Err, EC, E0]) ?_
  simp only [sRc, errA]
  refine vc_eq (T :=
    ∀ (x : Nat), True → SM x ∧ ∃ (x : Arr), ((Arr.k a = Arr.k x ∧ (ar7q0 a = ar7q0 x ∧ (∀ (i : Nat), i < ar7q0 a → [ZI (GI (Arr.sh a) i)] = [ZI (GI (Arr.sh x) i)]) ∧ True) ∧ (ar7q1 a = ar7q1 x ∧ (∀ (i : Nat), i < ar7q1 a → [ZI (GI (Arr.nu a) i)] = [ZI (GI (Arr.nu x) i)]) ∧ True) ∧ (ar7q2 a = ar7q2 x ∧ (∀ (i : Nat), i < ar7q2 a → ar7q8 a i = ar7q8 x i) ∧ True) ∧ True) ∧ True) ∧ (True ∧ True) ∧ x = a ∧ ∀ (y : Unit), True → True ∧ ∃ (y : Unit), True ∧ Prod.fst (chkA x) = Prod.fst (chkA a) ∧ True ∧ True) (by kernel_rfl) ?_
  delta DA GI LN N1 N4 SI SM Z0 ZI ar7q0 ar7q1 ar7q2 ar7q3 ar7q4 ar7q5 ar7q6 ar7q7 ar7q8
  simp only [and_true, exists_const]
  intro x _
  exact ⟨trivial, a, ⟨rfl, ⟨rfl, fun _ _ => rfl⟩, ⟨rfl, fun _ _ => rfl⟩, rfl, fun _ _ => rfl⟩, trivial, rfl, fun _ _ => ⟨trivial, trivial, rfl⟩⟩
end Go.Proofs.YtpgepjefbhgblaaDoor
namespace Go.Proofs.YtpgepjefbhgblaaDoor
open Go Go.Ab
set_option maxRecDepth 100000
def _root_.Go.Ab.cellsO (os : List (Nat × Nat × AObj)) (k : Nat) : List D := match getO os k with
  | some (_, .cells ds) => ds
  | _ => []
theorem ACalls.wkEnd {P : Program} {k : FuncId} {ds : List D} {S : St} {R R' : AEnd → St → Prop} (h : ACalls P k ds S R) (hr : ∀ r S', R r S' → ∃ r', (∀ C e, RepEnd C r e → RepEnd C r' e) ∧ R' r' S') : ACalls P k ds S R' :=
  ⟨h.1, fun C F args w ha hs => (h.2 C F args w ha hs).mono fun _ _ ⟨C', _r, S', h1, h2, h3, h4⟩ => let ⟨r', q0, q2⟩ := hr _ _ h4; ⟨C', r', S', h1, h2, q0 _ _ h3, q2⟩⟩
theorem row1_row (a : Arr) : wkL a.row1 a.row := by
  cases a with
  | mk k s n is =>
    simp only [Arr.row, Arr.row1, Arr.k, Arr.sh, Arr.nu, Arr.it, gsl, isl, wkL, wkD, weakD, chk_iff]
    refine ⟨⟨by simp [kEq], trivial⟩, ⟨by simp, trivial, fun i _ => by simp [kEq], by simp [weakM]⟩, ⟨by simp, trivial, fun i _ => by simp [kEq], by simp [weakM]⟩, ⟨by simp, by simp [rowsL_map], fun i hi => ?_, by simp [weakM]⟩, trivial⟩
    have : (rowsL is).getD i [] = (is.getD i default).row := by
      rw [rowsL_map]; simp [List.getD_eq_getElem?_getD, hi]
    rw [this]
    exact wkL_refl _
theorem form_len {k : Int} {s : List Int} {nn ni : Nat} (h : formS k s nn ni = 0) : s.length ≤ 8 := by
  unfold formS at h
  by_cases hk : k = 1 ∨ k = 2 ∨ k = 3
  · rw [if_pos hk] at h
    by_cases hd : dimsS s ≠ 0
    · rw [if_pos hd] at h; exact (hd h).elim
    · have hd : dimsS s = 0 := by simpa using hd
      unfold dimsS at hd
      by_cases h8 : 8 < s.length
      · rw [if_pos h8] at hd; omega
      · omega
  · rw [if_neg hk] at h; omega
def _root_.Go.Ab.refKey : D → Nat
  | .ref k _ _ => k
  | _ => 0
def _root_.Go.Ab.vkey (os : List (Nat × Nat × AObj)) (k : Nat) : Nat := match cellsO os k with
  | [_, _, _, .vs kv _ _ _ _] => kv
  | _ => 0
def zrow : List D := [.int .i64 0, .sl 1 0 (fun _ => []) .nil, .sl 1 0 (fun _ => []) .nil, .sl 1 0 (fun _ => []) .nil]
def clR (its : List Arr) (i j : Nat) : List D := match Nat.blt j i with
  | true => (its.getD j default).row1
  | false => zrow
def sCl (row row' : Arr → List D) (q : Arr → Prop) : FnSpec where
  β := Arr
  α := Unit
  args := fun a => [.agg (row a)]
  st := fun _ => ⟨[], []⟩
  pre := q
  post := fun _ _ => True
  res := fun a _ => .ret (.agg (row' a))
  out := fun _ _ => ⟨[], []⟩
def conCl (its : List Arr) : Con := fun k _ _ => match k with
  | 66 => some (sCl Arr.row1 Arr.row1 (fun b => b ∈ its))
  | _ => none
theorem clR_lt {its : List Arr} {i j : Nat} (h : j < i) : clR its i j = (its.getD j default).row1 := by
  unfold clR
  have : Nat.blt j i = true := by simpa using h
  rw [this]
theorem clR_ge {its : List Arr} {i j : Nat} (h : ¬ j < i) : clR its i j = zrow := by
  unfold clR
  cases hb : Nat.blt j i with
  | false => rfl
  | true => exact (h (by simpa using hb)).elim
noncomputable def Ecl (a : Arr) : Senv := { EC (conCl a.it) 47 6 [32, 33, 34, 35] (fun id => match id with | 1 => ([0, 1, 2, 3, 4, 6, 7, 8, 10, 11, 12, 5, 9, 13, 14, 15, 16], [5, 9, 13, 15, 16]) | 7 => ([0, 1, 2, 3, 4, 5, 6], [4, 6]) | _ => ([], [])) with
  gz := fun r => match r with
    | 9 => [.cell 17 1, .cell 17 2, .cell 17 3]
    | _ => []
  cut := fun id _ S => match id with
    | 1 => some { slots := [3], keep := [], α := (Nat × Nat) × Nat × Nat, st := fun y => ([.ref 17 y.2.2 0], ⟨[(17, y.2.2, .cells [.int .i64 a.k, .vs 7 y.1.1 a.sh.length a.sh.length 1, .vs 11 y.1.2 a.nu.length a.nu.length 1, .vs 15 y.2.1 a.it.length a.it.length 4]), (15, y.2.1, .vec 4 a.it.length a.it.length (clR a.it 0)), (11, y.1.2, .vec 1 a.nu.length a.nu.length (fun _ => [.int .i64 0])), (7, y.1.1, .vec 1 a.sh.length a.sh.length (fun _ => [.int .i64 0]))] ++ S.objs, []⟩), inv := fun _ => True, mu := fun _ => 0 }
    | _ => none
  ann := fun b env S => match b with
    | 0 => some { slots := [34], keep := [1, 2, 3, 32, 33], α := Nat, st := fun i => ([.int .i64 i], ⟨setO S.objs (vkey S.objs (refKey (Ab.look env 3))) (.vec 4 a.it.length a.it.length (clR a.it i)), S.toks⟩), inv := fun i => i ≤ a.it.length, mu := fun i => a.it.length - i }
    | _ => none }
noncomputable section
def cl1q0 (p0 : Arr) : Nat := LN (Arr.sh p0)
def cl1q1 (p0 : Arr) : Int := (NI (cl1q0 p0))
def cl1q2 (p0 : Arr) : Int := (8 : Int) * cl1q1 p0
def cl1q3 (p0 : Arr) : List Arr := Arr.it p0
def cl1q4 (p0 : Arr) : Nat := LN (cl1q3 p0)
def cl1q5 : Arr := DA
def cl1q6 (p0 : Arr) (p1 : Nat) : Arr := List.getD (cl1q3 p0) p1 cl1q5
def cl1q7 (p0 : Arr) (p1 : Nat) : List Int := Arr.sh (cl1q6 p0 p1)
def cl1q8 (p0 : Arr) (p1 : Nat) : List Int := Arr.nu (cl1q6 p0 p1)
def cl1q9 (p0 : Arr) (p1 : Nat) : List Arr := Arr.it (cl1q6 p0 p1)
def cl1q10 (p0 : Arr) (p1 : Nat) : List D := [ZI (Arr.k (cl1q6 p0 p1)), SI (cl1q7 p0 p1), SI (cl1q8 p0 p1), D.sl N4 (LN (cl1q9 p0 p1)) (fun (i : Nat) => Arr.row (List.getD (cl1q9 p0 p1) i cl1q5)) Mode.any]
def cl1q11 (p0 : Arr) : D := D.sl N4 (cl1q4 p0) (fun (i : Nat) => cl1q10 p0 i) Mode.any
def cl1q12 (p0 : Arr) : Prop := SM (cl1q11 p0)
def cl1q13 (p0 : Nat) (p1 : Arr) : Prop := SM p0 ∧ cl1q12 p1
def cl1q14 (p0 : Arr) : Nat := LN (Arr.nu p0)
def cl1q15 (p0 : Arr) (p1 : Nat) : List D := [ZI (GI (Arr.nu p0) p1)]
def cl1q16 (p0 : Arr) : D := D.sl N1 (cl1q14 p0) (fun (i : Nat) => cl1q15 p0 i) Mode.any
def cl1q17 (p0 : Nat) (p1 : Arr) : Prop := SM p0 ∧ SM (cl1q16 p1)
def cl1q18 (p0 : Arr) : Int := Arr.k p0
def cl1q19 (p0 : Arr) : D := ZI (cl1q18 p0)
def cl1q20 (p0 : Nat) (p1 : Arr) : Prop := SM p0 ∧ SM (cl1q19 p1)
def cl1q21 (p0 : Arr) : Int := (NI (cl1q14 p0))
def cl1q22 (p0 : Arr) : Int := (8 : Int) * cl1q21 p0
def cl1q23 (p0 p1 p2 p3 : Nat) : Prop := p0 ≠ p1 ∧ p2 ≠ p1 ∧ p3 ≠ p1 ∧ True
def cl1q24 (p0 : Arr) : Int := (NI (cl1q4 p0))
def cl1q25 (p0 : Arr) : Int := (80 : Int) * cl1q24 p0
def cl1q26 (p0 p1 p2 p3 p4 : Nat) : Prop := p0 ≠ p1 ∧ cl1q23 p2 p1 p3 p4
def cl1q27 (p0 p1 p2 p3 p4 p5 : Nat) : Prop := p0 ≠ p1 ∧ cl1q26 p2 p1 p3 p4 p5
def cl1q28 (p0 : Arr) : Prop := SM (cl1q18 p0)
def cl1q29 (p0 : Arr) : Prop := Int.toNat (cl1q1 p0) = cl1q0 p0
def cl1q30 (p0 : Arr) : Prop := Int.toNat (cl1q21 p0) = cl1q14 p0
def cl1q31 (p0 : Arr) : Prop := Int.toNat (cl1q24 p0) = cl1q4 p0
def cl1q32 : D := D.sl N1 N0 (fun (_x : Nat) => []) Mode.nil
def cl1q33 : Prop := SM [ZI Z0]
def cl1q34 : Prop := SM N0 ∧ (∀ (i : Nat), i < N0 → eqOf (List D) [] []) ∧ True
def cl1q35 (p0 : Arr) : Prop := SM (cl1q0 p0)
def cl1q36 (p0 : Arr) (p1 : Nat) : List D := [ZI (GI (Arr.sh p0) p1)]
def cl1q37 (p0 : Arr) : Prop := ∀ (i : Nat), i < cl1q0 p0 → SM (cl1q36 p0 i)
def cl1q38 (p0 : Arr) : Prop := cl1q35 p0 ∧ cl1q37 p0 ∧ True
def cl1q39 (p0 : Arr) : Prop := SM (cl1q14 p0)
def cl1q40 (p0 : Arr) : Prop := ∀ (i : Nat), i < cl1q14 p0 → SM (cl1q15 p0 i)
def cl1q41 (p0 : Arr) : Prop := cl1q39 p0 ∧ cl1q40 p0 ∧ True
def cl1q42 (p0 : Arr) : Prop := SM (cl1q4 p0)
def cl1q43 (p0 : Nat) (p1 : Arr) : Prop := p0 < cl1q4 p1
def cl1q44 (p0 p1 : Nat) (p2 : Arr) : Prop := SM p0 ∧ (SM Z0 ∧ cl1q34 ∧ cl1q34 ∧ cl1q34 ∧ True) ∧ SM p1 ∧ (cl1q28 p2 ∧ cl1q38 p2 ∧ cl1q41 p2 ∧ (cl1q42 p2 ∧ (∀ (i : Nat), cl1q43 i p2 → SM (cl1q10 p2 i)) ∧ True) ∧ True) ∧ True
def cl1q45 (p0 : Nat) (p1 : Arr) (p2 p3 p4 p5 p6 : Nat) : Prop := cl1q20 p0 p1 ∧ SM p2 ∧ ∃ (x : (Nat × Nat) × Nat × Nat), True ∧ (p2 = x.2.2 ∧ True) ∧ (p2 = x.2.2 ∧ (cl1q28 p1 ∧ (p3 = x.1.1 ∧ cl1q29 p1 ∧ cl1q29 p1) ∧ (p4 = x.1.2 ∧ cl1q30 p1 ∧ cl1q30 p1) ∧ (p5 = x.2.1 ∧ cl1q31 p1 ∧ cl1q31 p1) ∧ True) ∧ p5 = x.2.1 ∧ (cl1q31 p1 ∧ cl1q31 p1 ∧ ∀ (i : Nat), i < Int.toNat (cl1q24 p1) → [ZI Z0, cl1q32, cl1q32, cl1q32] = clR (cl1q3 p1) N0 i) ∧ p4 = x.1.2 ∧ (cl1q30 p1 ∧ cl1q30 p1 ∧ ∀ (i : Nat), i < Int.toNat (cl1q21 p1) → cl1q33) ∧ p3 = x.1.1 ∧ (cl1q29 p1 ∧ cl1q29 p1 ∧ ∀ (i : Nat), i < Int.toNat (cl1q1 p1) → cl1q33) ∧ cl1q44 p6 p0 p1) ∧ True
def cl1q46 (p0 : Arr) : D := D.sl N1 (cl1q0 p0) (fun (i : Nat) => cl1q36 p0 i) Mode.any
def cl1q47 (p0 : Nat) (p1 : Arr) : Prop := SM p0 ∧ SM (cl1q46 p1)
def cl1q48 (p0 : Nat) (p1 : Arr) : Prop := p0 ≤ cl1q4 p1
def cl1q49 (p0 : Arr) (p1 p2 p3 : Nat) : Prop := cl1q28 p0 ∧ (SM p1 ∧ cl1q35 p0 ∧ cl1q35 p0) ∧ (SM p2 ∧ cl1q39 p0 ∧ cl1q39 p0) ∧ (SM p3 ∧ cl1q42 p0 ∧ cl1q42 p0) ∧ True
def cl1q50 (p0 : Arr) (p1 p2 : Nat) : List D := clR (cl1q3 p0) p1 p2
def cl1q51 (p0 : Nat) (p1 : Arr) (p2 p3 p4 : Nat) : Prop := SM p0 ∧ (cl1q39 p1 ∧ cl1q39 p1 ∧ cl1q40 p1) ∧ SM p2 ∧ (cl1q35 p1 ∧ cl1q35 p1 ∧ cl1q37 p1) ∧ cl1q44 p3 p4 p1
def cl1q52 (p0 : Arr) (p1 : Nat) : Arr := List.getD (cl1q3 p0) (Int.toNat (↑p1 : Int)) cl1q5
def cl1q53 (p0 : Arr) (p1 : Nat) : List Int := Arr.sh (cl1q52 p0 p1)
def cl1q54 (p0 : Arr) (p1 : Nat) : Nat := LN (cl1q53 p0 p1)
def cl1q55 (p0 : Arr) (p1 : Nat) : List Int := Arr.nu (cl1q52 p0 p1)
def cl1q56 (p0 : Arr) (p1 : Nat) : Nat := LN (cl1q55 p0 p1)
def cl1q57 (p0 : Arr) (p1 : Nat) : List Arr := Arr.it (cl1q52 p0 p1)
def cl1q58 (p0 : Arr) (p1 : Nat) : Nat := LN (cl1q57 p0 p1)
def cl1q59 (p0 : Arr) (p1 : Nat) : List D := Arr.row (cl1q6 p0 p1)
def cl1q60 (p0 : Nat) (p1 : Arr) : D := D.vs (15 : Nat) p0 (cl1q4 p1) (cl1q4 p1) N4
def cl1q61 (p0 : D) : Bool := match p0 with | D.unk => false | D.agg _cs => false | D.tup _ds => false | _x => true
end
theorem cl_step (a : Arr) (ha : a.nu.length ≤ 1000000 ∧ a.it.length ≤ 1000000 ∧ a.sh.length ≤ 1000000) (hc : ConOk Tryd.prog (conCl a.it)) :
    ACalls Tryd.prog 66 ((sCl Arr.row2 Arr.row2 (fun _ => True)).args a) ⟨[], []⟩ (SpecR (sCl Arr.row2 Arr.row2 (fun _ => True)) a) := by
  refine con_of (A := sCl Arr.row2 Arr.row2 (fun _ => True)) (x := a) (E := Ecl a) (eOk hc rfl) Tryd.func66 rfl (by kernel_rfl) rfl (by simp [sCl, Ecl, EC, E0]) ?_
  refine vc_eq (T :=
    ∀ (x : Nat), True → ∀ (x_1 : Nat), x ≠ x_1 ∧ True → (SM x ∧ SM x ∧ SM x ∧ SM x ∧ side (Z0 ≤ cl1q1 a ∧ cl1q1 a ≤ cl1q1 a ∧ cl1q2 a ≤ (281474976710656 : Int) ∧ cl1q1 a ≤ (9223372036854775807 : Int)) (∀ (x_2 : Nat), x_1 ≠ x_2 ∧ x ≠ x_2 ∧ True → cl1q13 x a ∧ cl1q17 x a ∧ cl1q20 x a ∧ side (Z0 ≤ cl1q21 a ∧ cl1q21 a ≤ cl1q21 a ∧ cl1q22 a ≤ (281474976710656 : Int) ∧ cl1q21 a ≤ (9223372036854775807 : Int)) (∀ (x_3 : Nat), cl1q23 x_2 x_3 x_1 x → cl1q13 x a ∧ cl1q20 x a ∧ side (Z0 ≤ cl1q24 a ∧ cl1q24 a ≤ cl1q24 a ∧ cl1q25 a ≤ (281474976710656 : Int) ∧ cl1q24 a ≤ (9223372036854775807 : Int)) (∀ (x_4 : Nat), cl1q26 x_3 x_4 x_2 x_1 x → cl1q20 x a ∧ ∀ (x_5 : Nat), cl1q27 x_4 x_5 x_3 x_2 x_1 x → cl1q45 x a x_5 x_2 x_3 x_4 x_1) ∧ ∀ (x_4 : Nat), cl1q26 x_3 x_4 x_2 x_1 x → cl1q13 x a ∧ cl1q20 x a ∧ side (Z0 ≤ cl1q24 a ∧ cl1q24 a ≤ cl1q24 a ∧ cl1q25 a ≤ (281474976710656 : Int) ∧ cl1q24 a ≤ (9223372036854775807 : Int)) (∀ (x_5 : Nat), cl1q27 x_4 x_5 x_3 x_2 x_1 x → cl1q45 x a x_4 x_2 x_3 x_5 x_1)) ∧ side (Z0 ≤ cl1q24 a ∧ cl1q24 a ≤ cl1q24 a ∧ cl1q25 a ≤ (281474976710656 : Int) ∧ cl1q24 a ≤ (9223372036854775807 : Int)) (∀ (x_3 : Nat), cl1q23 x_2 x_3 x_1 x → cl1q17 x a ∧ cl1q20 x a ∧ side (Z0 ≤ cl1q21 a ∧ cl1q21 a ≤ cl1q21 a ∧ cl1q22 a ≤ (281474976710656 : Int) ∧ cl1q21 a ≤ (9223372036854775807 : Int)) (∀ (x_4 : Nat), cl1q26 x_3 x_4 x_2 x_1 x → cl1q20 x a ∧ ∀ (x_5 : Nat), cl1q27 x_4 x_5 x_3 x_2 x_1 x → cl1q45 x a x_5 x_2 x_4 x_3 x_1) ∧ ∀ (x_4 : Nat), cl1q26 x_3 x_4 x_2 x_1 x → cl1q17 x a ∧ cl1q20 x a ∧ side (Z0 ≤ cl1q21 a ∧ cl1q21 a ≤ cl1q21 a ∧ cl1q22 a ≤ (281474976710656 : Int) ∧ cl1q21 a ≤ (9223372036854775807 : Int)) (∀ (x_5 : Nat), cl1q27 x_4 x_5 x_3 x_2 x_1 x → cl1q45 x a x_4 x_2 x_5 x_3 x_1)) ∧ ∀ (x_3 : Nat), cl1q23 x_2 x_3 x_1 x → cl1q13 x a ∧ cl1q17 x a ∧ cl1q20 x a ∧ side (Z0 ≤ cl1q21 a ∧ cl1q21 a ≤ cl1q21 a ∧ cl1q22 a ≤ (281474976710656 : Int) ∧ cl1q21 a ≤ (9223372036854775807 : Int)) (∀ (x_4 : Nat), cl1q26 x_3 x_4 x_2 x_1 x → cl1q13 x a ∧ cl1q20 x a ∧ side (Z0 ≤ cl1q24 a ∧ cl1q24 a ≤ cl1q24 a ∧ cl1q25 a ≤ (281474976710656 : Int) ∧ cl1q24 a ≤ (9223372036854775807 : Int)) (∀ (x_5 : Nat), cl1q27 x_4 x_5 x_3 x_2 x_1 x → cl1q45 x a x_3 x_2 x_4 x_5 x_1)) ∧ side (Z0 ≤ cl1q24 a ∧ cl1q24 a ≤ cl1q24 a ∧ cl1q25 a ≤ (281474976710656 : Int) ∧ cl1q24 a ≤ (9223372036854775807 : Int)) (∀ (x_4 : Nat), cl1q26 x_3 x_4 x_2 x_1 x → cl1q17 x a ∧ cl1q20 x a ∧ side (Z0 ≤ cl1q21 a ∧ cl1q21 a ≤ cl1q21 a ∧ cl1q22 a ≤ (281474976710656 : Int) ∧ cl1q21 a ≤ (9223372036854775807 : Int)) (∀ (x_5 : Nat), cl1q27 x_4 x_5 x_3 x_2 x_1 x → cl1q45 x a x_3 x_2 x_5 x_4 x_1))) ∧ side (Z0 ≤ cl1q21 a ∧ cl1q21 a ≤ cl1q21 a ∧ cl1q22 a ≤ (281474976710656 : Int) ∧ cl1q21 a ≤ (9223372036854775807 : Int)) (∀ (x_2 : Nat), x_1 ≠ x_2 ∧ x ≠ x_2 ∧ True → cl1q13 x a ∧ cl1q47 x a ∧ cl1q20 x a ∧ side (Z0 ≤ cl1q1 a ∧ cl1q1 a ≤ cl1q1 a ∧ cl1q2 a ≤ (281474976710656 : Int) ∧ cl1q1 a ≤ (9223372036854775807 : Int)) (∀ (x_3 : Nat), cl1q23 x_2 x_3 x_1 x → cl1q13 x a ∧ cl1q20 x a ∧ side (Z0 ≤ cl1q24 a ∧ cl1q24 a ≤ cl1q24 a ∧ cl1q25 a ≤ (281474976710656 : Int) ∧ cl1q24 a ≤ (9223372036854775807 : Int)) (∀ (x_4 : Nat), cl1q26 x_3 x_4 x_2 x_1 x → cl1q20 x a ∧ ∀ (x_5 : Nat), cl1q27 x_4 x_5 x_3 x_2 x_1 x → cl1q45 x a x_5 x_3 x_2 x_4 x_1) ∧ ∀ (x_4 : Nat), cl1q26 x_3 x_4 x_2 x_1 x → cl1q13 x a ∧ cl1q20 x a ∧ side (Z0 ≤ cl1q24 a ∧ cl1q24 a ≤ cl1q24 a ∧ cl1q25 a ≤ (281474976710656 : Int) ∧ cl1q24 a ≤ (9223372036854775807 : Int)) (∀ (x_5 : Nat), cl1q27 x_4 x_5 x_3 x_2 x_1 x → cl1q45 x a x_4 x_3 x_2 x_5 x_1)) ∧ side (Z0 ≤ cl1q24 a ∧ cl1q24 a ≤ cl1q24 a ∧ cl1q25 a ≤ (281474976710656 : Int) ∧ cl1q24 a ≤ (9223372036854775807 : Int)) (∀ (x_3 : Nat), cl1q23 x_2 x_3 x_1 x → cl1q47 x a ∧ cl1q20 x a ∧ side (Z0 ≤ cl1q1 a ∧ cl1q1 a ≤ cl1q1 a ∧ cl1q2 a ≤ (281474976710656 : Int) ∧ cl1q1 a ≤ (9223372036854775807 : Int)) (∀ (x_4 : Nat), cl1q26 x_3 x_4 x_2 x_1 x → cl1q20 x a ∧ ∀ (x_5 : Nat), cl1q27 x_4 x_5 x_3 x_2 x_1 x → cl1q45 x a x_5 x_4 x_2 x_3 x_1) ∧ ∀ (x_4 : Nat), cl1q26 x_3 x_4 x_2 x_1 x → cl1q47 x a ∧ cl1q20 x a ∧ side (Z0 ≤ cl1q1 a ∧ cl1q1 a ≤ cl1q1 a ∧ cl1q2 a ≤ (281474976710656 : Int) ∧ cl1q1 a ≤ (9223372036854775807 : Int)) (∀ (x_5 : Nat), cl1q27 x_4 x_5 x_3 x_2 x_1 x → cl1q45 x a x_4 x_5 x_2 x_3 x_1)) ∧ ∀ (x_3 : Nat), cl1q23 x_2 x_3 x_1 x → cl1q13 x a ∧ cl1q47 x a ∧ cl1q20 x a ∧ side (Z0 ≤ cl1q1 a ∧ cl1q1 a ≤ cl1q1 a ∧ cl1q2 a ≤ (281474976710656 : Int) ∧ cl1q1 a ≤ (9223372036854775807 : Int)) (∀ (x_4 : Nat), cl1q26 x_3 x_4 x_2 x_1 x → cl1q13 x a ∧ cl1q20 x a ∧ side (Z0 ≤ cl1q24 a ∧ cl1q24 a ≤ cl1q24 a ∧ cl1q25 a ≤ (281474976710656 : Int) ∧ cl1q24 a ≤ (9223372036854775807 : Int)) (∀ (x_5 : Nat), cl1q27 x_4 x_5 x_3 x_2 x_1 x → cl1q45 x a x_3 x_4 x_2 x_5 x_1)) ∧ side (Z0 ≤ cl1q24 a ∧ cl1q24 a ≤ cl1q24 a ∧ cl1q25 a ≤ (281474976710656 : Int) ∧ cl1q24 a ≤ (9223372036854775807 : Int)) (∀ (x_4 : Nat), cl1q26 x_3 x_4 x_2 x_1 x → cl1q47 x a ∧ cl1q20 x a ∧ side (Z0 ≤ cl1q1 a ∧ cl1q1 a ≤ cl1q1 a ∧ cl1q2 a ≤ (281474976710656 : Int) ∧ cl1q1 a ≤ (9223372036854775807 : Int)) (∀ (x_5 : Nat), cl1q27 x_4 x_5 x_3 x_2 x_1 x → cl1q45 x a x_3 x_5 x_2 x_4 x_1))) ∧ side (Z0 ≤ cl1q24 a ∧ cl1q24 a ≤ cl1q24 a ∧ cl1q25 a ≤ (281474976710656 : Int) ∧ cl1q24 a ≤ (9223372036854775807 : Int)) (∀ (x_2 : Nat), x_1 ≠ x_2 ∧ x ≠ x_2 ∧ True → cl1q17 x a ∧ cl1q47 x a ∧ cl1q20 x a ∧ side (Z0 ≤ cl1q1 a ∧ cl1q1 a ≤ cl1q1 a ∧ cl1q2 a ≤ (281474976710656 : Int) ∧ cl1q1 a ≤ (9223372036854775807 : Int)) (∀ (x_3 : Nat), cl1q23 x_2 x_3 x_1 x → cl1q17 x a ∧ cl1q20 x a ∧ side (Z0 ≤ cl1q21 a ∧ cl1q21 a ≤ cl1q21 a ∧ cl1q22 a ≤ (281474976710656 : Int) ∧ cl1q21 a ≤ (9223372036854775807 : Int)) (∀ (x_4 : Nat), cl1q26 x_3 x_4 x_2 x_1 x → cl1q20 x a ∧ ∀ (x_5 : Nat), cl1q27 x_4 x_5 x_3 x_2 x_1 x → cl1q45 x a x_5 x_3 x_4 x_2 x_1) ∧ ∀ (x_4 : Nat), cl1q26 x_3 x_4 x_2 x_1 x → cl1q17 x a ∧ cl1q20 x a ∧ side (Z0 ≤ cl1q21 a ∧ cl1q21 a ≤ cl1q21 a ∧ cl1q22 a ≤ (281474976710656 : Int) ∧ cl1q21 a ≤ (9223372036854775807 : Int)) (∀ (x_5 : Nat), cl1q27 x_4 x_5 x_3 x_2 x_1 x → cl1q45 x a x_4 x_3 x_5 x_2 x_1)) ∧ side (Z0 ≤ cl1q21 a ∧ cl1q21 a ≤ cl1q21 a ∧ cl1q22 a ≤ (281474976710656 : Int) ∧ cl1q21 a ≤ (9223372036854775807 : Int)) (∀ (x_3 : Nat), cl1q23 x_2 x_3 x_1 x → cl1q47 x a ∧ cl1q20 x a ∧ side (Z0 ≤ cl1q1 a ∧ cl1q1 a ≤ cl1q1 a ∧ cl1q2 a ≤ (281474976710656 : Int) ∧ cl1q1 a ≤ (9223372036854775807 : Int)) (∀ (x_4 : Nat), cl1q26 x_3 x_4 x_2 x_1 x → cl1q20 x a ∧ ∀ (x_5 : Nat), cl1q27 x_4 x_5 x_3 x_2 x_1 x → cl1q45 x a x_5 x_4 x_3 x_2 x_1) ∧ ∀ (x_4 : Nat), cl1q26 x_3 x_4 x_2 x_1 x → cl1q47 x a ∧ cl1q20 x a ∧ side (Z0 ≤ cl1q1 a ∧ cl1q1 a ≤ cl1q1 a ∧ cl1q2 a ≤ (281474976710656 : Int) ∧ cl1q1 a ≤ (9223372036854775807 : Int)) (∀ (x_5 : Nat), cl1q27 x_4 x_5 x_3 x_2 x_1 x → cl1q45 x a x_4 x_5 x_3 x_2 x_1)) ∧ ∀ (x_3 : Nat), cl1q23 x_2 x_3 x_1 x → cl1q17 x a ∧ cl1q47 x a ∧ cl1q20 x a ∧ side (Z0 ≤ cl1q1 a ∧ cl1q1 a ≤ cl1q1 a ∧ cl1q2 a ≤ (281474976710656 : Int) ∧ cl1q1 a ≤ (9223372036854775807 : Int)) (∀ (x_4 : Nat), cl1q26 x_3 x_4 x_2 x_1 x → cl1q17 x a ∧ cl1q20 x a ∧ side (Z0 ≤ cl1q21 a ∧ cl1q21 a ≤ cl1q21 a ∧ cl1q22 a ≤ (281474976710656 : Int) ∧ cl1q21 a ≤ (9223372036854775807 : Int)) (∀ (x_5 : Nat), cl1q27 x_4 x_5 x_3 x_2 x_1 x → cl1q45 x a x_3 x_4 x_5 x_2 x_1)) ∧ side (Z0 ≤ cl1q21 a ∧ cl1q21 a ≤ cl1q21 a ∧ cl1q22 a ≤ (281474976710656 : Int) ∧ cl1q21 a ≤ (9223372036854775807 : Int)) (∀ (x_4 : Nat), cl1q26 x_3 x_4 x_2 x_1 x → cl1q47 x a ∧ cl1q20 x a ∧ side (Z0 ≤ cl1q1 a ∧ cl1q1 a ≤ cl1q1 a ∧ cl1q2 a ≤ (281474976710656 : Int) ∧ cl1q1 a ≤ (9223372036854775807 : Int)) (∀ (x_5 : Nat), cl1q27 x_4 x_5 x_3 x_2 x_1 x → cl1q45 x a x_3 x_5 x_4 x_2 x_1))) ∧ ∀ (x_2 : Nat), x_1 ≠ x_2 ∧ x ≠ x_2 ∧ True → cl1q13 x a ∧ cl1q17 x a ∧ cl1q47 x a ∧ cl1q20 x a ∧ side (Z0 ≤ cl1q1 a ∧ cl1q1 a ≤ cl1q1 a ∧ cl1q2 a ≤ (281474976710656 : Int) ∧ cl1q1 a ≤ (9223372036854775807 : Int)) (∀ (x_3 : Nat), cl1q23 x_2 x_3 x_1 x → cl1q13 x a ∧ cl1q17 x a ∧ cl1q20 x a ∧ side (Z0 ≤ cl1q21 a ∧ cl1q21 a ≤ cl1q21 a ∧ cl1q22 a ≤ (281474976710656 : Int) ∧ cl1q21 a ≤ (9223372036854775807 : Int)) (∀ (x_4 : Nat), cl1q26 x_3 x_4 x_2 x_1 x → cl1q13 x a ∧ cl1q20 x a ∧ side (Z0 ≤ cl1q24 a ∧ cl1q24 a ≤ cl1q24 a ∧ cl1q25 a ≤ (281474976710656 : Int) ∧ cl1q24 a ≤ (9223372036854775807 : Int)) (∀ (x_5 : Nat), cl1q27 x_4 x_5 x_3 x_2 x_1 x → cl1q45 x a x_2 x_3 x_4 x_5 x_1)) ∧ side (Z0 ≤ cl1q24 a ∧ cl1q24 a ≤ cl1q24 a ∧ cl1q25 a ≤ (281474976710656 : Int) ∧ cl1q24 a ≤ (9223372036854775807 : Int)) (∀ (x_4 : Nat), cl1q26 x_3 x_4 x_2 x_1 x → cl1q17 x a ∧ cl1q20 x a ∧ side (Z0 ≤ cl1q21 a ∧ cl1q21 a ≤ cl1q21 a ∧ cl1q22 a ≤ (281474976710656 : Int) ∧ cl1q21 a ≤ (9223372036854775807 : Int)) (∀ (x_5 : Nat), cl1q27 x_4 x_5 x_3 x_2 x_1 x → cl1q45 x a x_2 x_3 x_5 x_4 x_1))) ∧ side (Z0 ≤ cl1q21 a ∧ cl1q21 a ≤ cl1q21 a ∧ cl1q22 a ≤ (281474976710656 : Int) ∧ cl1q21 a ≤ (9223372036854775807 : Int)) (∀ (x_3 : Nat), cl1q23 x_2 x_3 x_1 x → cl1q13 x a ∧ cl1q47 x a ∧ cl1q20 x a ∧ side (Z0 ≤ cl1q1 a ∧ cl1q1 a ≤ cl1q1 a ∧ cl1q2 a ≤ (281474976710656 : Int) ∧ cl1q1 a ≤ (9223372036854775807 : Int)) (∀ (x_4 : Nat), cl1q26 x_3 x_4 x_2 x_1 x → cl1q13 x a ∧ cl1q20 x a ∧ side (Z0 ≤ cl1q24 a ∧ cl1q24 a ≤ cl1q24 a ∧ cl1q25 a ≤ (281474976710656 : Int) ∧ cl1q24 a ≤ (9223372036854775807 : Int)) (∀ (x_5 : Nat), cl1q27 x_4 x_5 x_3 x_2 x_1 x → cl1q45 x a x_2 x_4 x_3 x_5 x_1)) ∧ side (Z0 ≤ cl1q24 a ∧ cl1q24 a ≤ cl1q24 a ∧ cl1q25 a ≤ (281474976710656 : Int) ∧ cl1q24 a ≤ (9223372036854775807 : Int)) (∀ (x_4 : Nat), cl1q26 x_3 x_4 x_2 x_1 x → cl1q47 x a ∧ cl1q20 x a ∧ side (Z0 ≤ cl1q1 a ∧ cl1q1 a ≤ cl1q1 a ∧ cl1q2 a ≤ (281474976710656 : Int) ∧ cl1q1 a ≤ (9223372036854775807 : Int)) (∀ (x_5 : Nat), cl1q27 x_4 x_5 x_3 x_2 x_1 x → cl1q45 x a x_2 x_5 x_3 x_4 x_1))) ∧ side (Z0 ≤ cl1q24 a ∧ cl1q24 a ≤ cl1q24 a ∧ cl1q25 a ≤ (281474976710656 : Int) ∧ cl1q24 a ≤ (9223372036854775807 : Int)) (∀ (x_3 : Nat), cl1q23 x_2 x_3 x_1 x → cl1q17 x a ∧ cl1q47 x a ∧ cl1q20 x a ∧ side (Z0 ≤ cl1q1 a ∧ cl1q1 a ≤ cl1q1 a ∧ cl1q2 a ≤ (281474976710656 : Int) ∧ cl1q1 a ≤ (9223372036854775807 : Int)) (∀ (x_4 : Nat), cl1q26 x_3 x_4 x_2 x_1 x → cl1q17 x a ∧ cl1q20 x a ∧ side (Z0 ≤ cl1q21 a ∧ cl1q21 a ≤ cl1q21 a ∧ cl1q22 a ≤ (281474976710656 : Int) ∧ cl1q21 a ≤ (9223372036854775807 : Int)) (∀ (x_5 : Nat), cl1q27 x_4 x_5 x_3 x_2 x_1 x → cl1q45 x a x_2 x_4 x_5 x_3 x_1)) ∧ side (Z0 ≤ cl1q21 a ∧ cl1q21 a ≤ cl1q21 a ∧ cl1q22 a ≤ (281474976710656 : Int) ∧ cl1q21 a ≤ (9223372036854775807 : Int)) (∀ (x_4 : Nat), cl1q26 x_3 x_4 x_2 x_1 x → cl1q47 x a ∧ cl1q20 x a ∧ side (Z0 ≤ cl1q1 a ∧ cl1q1 a ≤ cl1q1 a ∧ cl1q2 a ≤ (281474976710656 : Int) ∧ cl1q1 a ≤ (9223372036854775807 : Int)) (∀ (x_5 : Nat), cl1q27 x_4 x_5 x_3 x_2 x_1 x → cl1q45 x a x_2 x_5 x_4 x_3 x_1)))) ∧ ∀ (x_2 : (Nat × Nat) × Nat × Nat), True → SM x_2.2.2 ∧ SM x ∧ SM x_2.1.1 ∧ cl1q35 a ∧ cl1q35 a ∧ SM x_2.2.2 ∧ SM x ∧ SM x_2.1.2 ∧ cl1q39 a ∧ cl1q39 a ∧ SM x ∧ (∃ (x_3 : Nat), cl1q48 x_3 a ∧ (Z0 = (↑x_3 : Int) ∧ True) ∧ (SM x_2.2.2 ∧ cl1q49 a x_2.1.1 x_2.1.2 x_2.2.1 ∧ SM x_2.2.1 ∧ (cl1q42 a ∧ cl1q42 a ∧ ∀ (i : Nat), cl1q43 i a → clR (cl1q3 a) N0 i = cl1q50 a x_3 i) ∧ cl1q51 x_2.1.2 a x_2.1.1 x_1 x) ∧ True) ∧ ∀ (x_3 : Nat), cl1q48 x_3 a → ifB (decide ((↑x_3 : Int) < cl1q24 a)) (side (Z0 ≤ (↑x_3 : Int) ∧ (↑x_3 : Int) < cl1q24 a) (∀ (x_4 : Nat), x_2.2.2 ≠ x_4 ∧ cl1q27 x_2.2.1 x_4 x_2.1.2 x_2.1.1 x_1 x → SM x_4 ∧ SM x_2.2.2 ∧ SM x_4 ∧ ∃ (x_5 : Arr), ((Arr.k (cl1q52 a x_3) = cl1q18 x_5 ∧ (cl1q54 a x_3 = cl1q0 x_5 ∧ (∀ (i : Nat), i < cl1q54 a x_3 → [ZI (GI (cl1q53 a x_3) i)] = cl1q36 x_5 i) ∧ True) ∧ (cl1q56 a x_3 = cl1q14 x_5 ∧ (∀ (i : Nat), i < cl1q56 a x_3 → [ZI (GI (cl1q55 a x_3) i)] = cl1q15 x_5 i) ∧ True) ∧ (cl1q58 a x_3 = cl1q4 x_5 ∧ (∀ (i : Nat), i < cl1q58 a x_3 → Arr.row (List.getD (cl1q57 a x_3) i cl1q5) = cl1q59 x_5 i) ∧ True) ∧ True) ∧ True) ∧ (True ∧ True) ∧ x_5 ∈ cl1q3 a ∧ ∀ (y : Unit), True → (SM x_2.2.2 ∧ SM (cl1q60 x_2.2.1 a)) ∧ side (Z0 ≤ (↑x_3 : Int) ∧ (↑x_3 : Int) < cl1q24 a) (SM x_2.2.1 ∧ side (Int.toNat (↑x_3 : Int) < cl1q4 a) ((SM (D.ref N0 x N0) ∧ SM (D.ref (max (N0 + N1) N0) x_1 N0) ∧ SM (D.ref (17 : Nat) x_2.2.2 N0) ∧ cl1q12 a ∧ SM (ZI (cl1q24 a)) ∧ True) ∧ ∃ (y : Nat), cl1q48 y a ∧ cl1q4 a - y < cl1q4 a - x_3 ∧ (IntKind.wrap IntKind.i64 ((↑x_3 : Int) + Z1) = (↑y : Int) ∧ True) ∧ (SM x_2.2.2 ∧ cl1q49 a x_2.1.1 x_2.1.2 x_2.2.1 ∧ SM x_2.2.1 ∧ (cl1q42 a ∧ cl1q42 a ∧ ∀ (i : Nat), cl1q43 i a → updF (clR (cl1q3 a) x_3) (Int.toNat (↑x_3 : Int)) (List.set (List.set (List.set (List.set (clR (cl1q3 a) x_3 (Int.toNat (↑x_3 : Int))) N0 (cl1q19 x_5)) (N0 + N1) (cl1q46 x_5)) N2 (cl1q16 x_5)) (3 : Nat) (D.sl N4 (cl1q4 x_5) (fun (i : Nat) => cl1q59 x_5 i) Mode.any)) i = cl1q50 a y i) ∧ cl1q51 x_2.1.2 a x_2.1.1 x_1 x) ∧ True)))) (SM x_2.1.1 ∧ cl1q35 a ∧ side (cl1q0 a ≤ cl1q0 a) ((∀ (i : Nat), i < cl1q0 a → (List.all (cl1q36 a i) fun (x : D) => cl1q61 x) = true) ∧ ∀ (t : Nat), SM x_2.1.2 ∧ cl1q39 a ∧ side (cl1q14 a ≤ cl1q14 a) ((∀ (i : Nat), i < cl1q14 a → (List.all (cl1q15 a i) fun (x : D) => cl1q61 x) = true) ∧ ∀ (t : Nat), SM x_2.2.1 ∧ cl1q42 a ∧ side (cl1q4 a ≤ cl1q4 a) ((∀ (i : Nat), cl1q43 i a → (List.all (cl1q50 a x_3 i) fun (x : D) => cl1q61 x) = true) ∧ ∀ (t : Nat), SM x_2.2.2 ∧ SM x_1 ∧ (SM x_1 ∧ True) ∧ ∃ (y : Unit), True ∧ (cl1q28 a ∧ cl1q38 a ∧ cl1q41 a ∧ (cl1q42 a ∧ (∀ (i : Nat), cl1q43 i a → cl1q50 a x_3 i = cl1q10 a i) ∧ True) ∧ True) ∧ True ∧ True))))) (by kernel_rfl) ?_
  delta DA GI LN N0 N1 N2 N4 NI SI SM Z0 Z1 ZI cl1q0 cl1q1 cl1q10 cl1q11 cl1q12 cl1q13 cl1q14 cl1q15 cl1q16 cl1q17 cl1q18 cl1q19 cl1q2 cl1q20 cl1q21 cl1q22 cl1q23 cl1q24 cl1q25 cl1q26 cl1q27 cl1q28 cl1q29 cl1q3 cl1q30 cl1q31 cl1q32 cl1q33 cl1q34 cl1q35 cl1q36 cl1q37 cl1q38 cl1q39 cl1q4 cl1q40 cl1q41 cl1q42 cl1q43 cl1q44 cl1q45 cl1q46 cl1q47 cl1q48 cl1q49 cl1q5 cl1q50 cl1q51 cl1q52 cl1q53 cl1q54 cl1q55 cl1q56 cl1q57 cl1q58 cl1q59 cl1q6 cl1q60 cl1q61 cl1q7 cl1q8 cl1q9
  have da : (default : Arr) = Arr.mk 0 [] [] [] := rfl
  simp only [← da, eq_self, implies_true, Int.toNat_natCast, ifB_iff, side_iff, decide_eq_true_eq, decide_eq_false_iff_not, true_and, and_true, exists_const, forall_const]
  obtain ⟨l1, l2, l3⟩ := ha
  refine fun x x1 hx => ⟨?_, ?_⟩
  · repeat' (first | (refine ⟨((_, _), _, _), rfl, rfl, ⟨rfl, rfl, rfl⟩, rfl, fun _ _ => rfl, rfl, rfl⟩) | (refine And.intro ?_ ?_) | intro _ | omega)
  refine fun y => ⟨⟨0, Nat.zero_le _, rfl, fun _ _ => rfl⟩, fun i hi => ⟨fun hlt => ⟨⟨by omega, hlt⟩, fun x4 _ => ⟨a.it.getD i default, ⟨rfl, ⟨rfl, fun _ _ => rfl⟩, ⟨rfl, fun _ _ => rfl⟩, rfl, fun _ _ => rfl⟩, mem_getD (by omega), ⟨by omega, hlt⟩, by omega, i + 1, by omega, by omega, wrap_i64' (by omega) (by omega), fun j hj => ?_⟩⟩, fun hge => ⟨Nat.le_refl _, fun _ _ => rfl, Nat.le_refl _, fun _ _ => rfl, Nat.le_refl _, fun j hj => ?_, fun j hj => ?_⟩⟩⟩
  · rw [clR_ge (its := a.it) (i := i) (j := i) (by omega)]
    by_cases e : j = i
    · subst e
      rw [clR_lt (by omega)]
      simp only [updF, if_true]
      rfl
    · simp only [updF, e, if_false]
      by_cases e2 : j < i
      · rw [clR_lt e2, clR_lt (by omega)]
      · rw [clR_ge e2, clR_ge (by omega)]
  · rw [clR_lt (by omega)]; rfl
  · rw [clR_lt (by omega)]; rfl
theorem row2_row1 (a : Arr) : wkL a.row2 a.row1 := by
  simp only [Arr.row1, Arr.row2, gsl, isl, wkL, wkD, weakD, chk_iff]
  exact ⟨⟨by simp [kEq], trivial⟩, ⟨by simp, trivial, fun i _ => by simp [kEq], by simp [weakM]⟩, ⟨by simp, trivial, fun i _ => by simp [kEq], by simp [weakM]⟩, ⟨by simp, trivial, fun i _ => row1_row _, by simp [weakM]⟩, trivial⟩
theorem chkL_zero : ∀ (l : List Arr) (d w : Int) (r : Int × Int), chkL l d w = some r → ∀ x ∈ l, (chkA x).1 = 0
  | [], _, _, _, _, x, hx => by cases hx
  | y :: l, d, w, r, h, x, hx => by
    rw [chkL] at h
    split at h
    · cases h
    · rename_i hy
      rcases List.mem_cons.1 hx with rfl | hx
      · simpa using hy
      · exact chkL_zero l _ _ r h x hx
theorem chkA_zero {k : Int} {s n : List Int} {is : List Arr} (h : (chkA (.mk k s n is)).1 = 0) : s.length ≤ 8 ∧ n.length ≤ 65536 ∧ is.length ≤ 65536 ∧ ∀ x ∈ is, (chkA x).1 = 0 := by
  rw [chkA] at h
  by_cases h0 : formS k s n.length is.length ≠ 0
  · rw [if_pos h0] at h; exact (h0 h).elim
  · rw [if_neg h0] at h
    have h0 : formS k s n.length is.length = 0 := by simpa using h0
    have hs := form_small h0
    refine ⟨form_len h0, hs.1, hs.2, ?_⟩
    by_cases hb : n.any (badK k) = true
    · rw [if_pos hb] at h; simp at h
    · rw [if_neg hb] at h
      cases hr : chkL is 0 ((n.length : Int) + is.length) with
      | none => rw [hr] at h; simp at h
      | some r => exact chkL_zero _ _ _ r hr
theorem cl_all : ∀ (a : Arr), (chkA a).1 = 0 → ACalls Tryd.prog 66 [.agg a.row1] ⟨[], []⟩ (SpecR (sCl Arr.row1 Arr.row1 (fun _ => True)) a)
  | .mk k s n is, h => by
    obtain ⟨h1, h2, h3, h4⟩ := chkA_zero h
    have hc : ConOk Tryd.prog (conCl (Arr.mk k s n is).it) := by
      intro k' ds S A hk
      unfold conCl at hk
      split at hk
      · injection hk with hk; subst hk
        refine ConOk.plain (fun (b : Arr) hb => ?_) rfl rfl
        have hb' : b ∈ is := hb
        exact (cl_all b (h4 b hb')).mono fun _ _ ⟨y, q1, q2, q3⟩ => ⟨y, q1, q2, q3⟩
      · cases hk
    have hm := cl_step (.mk k s n is) ⟨by show n.length ≤ _; omega, by show is.length ≤ _; omega, by show s.length ≤ _; omega⟩ hc
    have hm2 : ACalls Tryd.prog 66 [.agg (Arr.mk k s n is).row1] ⟨[], []⟩ (SpecR (sCl Arr.row2 Arr.row2 (fun _ => True)) (.mk k s n is)) := by
      refine ACalls.wkArgs hm ?_
      simp only [sCl, wkL, wkD]
      exact ⟨row1_wk _, trivial⟩
    refine ACalls.wkEnd hm2 fun r S' ⟨y, q1, q2, q3⟩ => ?_
    subst q2 q3
    refine ⟨.ret (.agg (Arr.mk k s n is).row1), fun C e he => ?_, ⟨(), trivial, rfl, rfl⟩⟩
    cases e with
    | returned v =>
      refine wkD_weak (.agg (Arr.mk k s n is).row2) _ ?_ C v he
      simp only [wkD]
      exact row2_row1 _
    | panicked _ => exact he.elim
    | outgrown => exact he.elim
termination_by a => SizeOf.sizeOf a
decreasing_by
  have := List.sizeOf_lt_of_mem hb'
  simp; omega
end Go.Proofs.YtpgepjefbhgblaaDoor
namespace Go.Proofs.YtpgepjefbhgblaaDoor
open Go Go.Ab
set_option maxRecDepth 100000
def fillA (k : Int) : Arr := if k = 1 then .mk 1 [] [0] [] else if k = 2 then .mk 2 [] [32] [] else if k = 3 then .mk 3 [] [] [.mk 1 [0] [] []] else .mk 0 [] [] []
def nilS (w : Nat) : D := .sl w 0 (fun _ => []) .nil
def fillD (k : Int) : D :=
  if k = 1 then .agg [.int .i64 1, nilS 1, .sl 1 1 (fun i => [[D.int .i64 0]].getD i []) .full, nilS 1]
  else if k = 2 then .agg [.int .i64 2, nilS 1, .sl 1 1 (fun i => [[D.int .i64 32]].getD i []) .full, nilS 1]
  else if k = 3 then .agg [.int .i64 3, nilS 1, nilS 1, .sl 4 1 (fun i => [[D.int .i64 1, .sl 1 1 (fun i => [[D.int .i64 0]].getD i []) .full, nilS 1, nilS 1]].getD i []) .full]
  else .agg [.int .i64 0, nilS 1, nilS 1, nilS 1]
noncomputable def Efl : Senv := EC conAr 20 3 [4, 5, 9, 13] (fun _ => ([], []))
noncomputable section
def fi1q0 : D := D.sl N1 N0 (fun (_x : Nat) => []) Mode.nil
def fi1q1 : D := D.sl N1 N1 (fun (i : Nat) => List.getD [[ZI Z0]] i []) Mode.full
def fi1q2 : List D := [fi1q0]
def fi1q3 (p0 : Int) : D := fillD p0
def fi1q4 : List D := fi1q0 :: fi1q2
end
theorem fill_ok (k : Int) (ns nn ni : Nat) (f g h : Nat → List D) :
    ACalls Tryd.prog 41 [.agg [.int .i64 k, .sl 1 ns f .any, .sl 1 nn g .any, .sl 4 ni h .any]] ⟨[], []⟩ (SpecR (sC [.agg [.int .i64 k, .sl 1 ns f .any, .sl 1 nn g .any, .sl 4 ni h .any]] (fillD k)) ()) := by
  refine con_of (A := sC _ _) (x := ()) (E := Efl) (eOk conAr_ok rfl) Tryd.func41 rfl (by kernel_rfl) rfl (by simp [sC, Efl, EC, E0]) ?_
  refine vc_eq (T :=
    ∀ (x : Nat), True → ∀ (x_1 : Nat), x ≠ x_1 ∧ True → SM x ∧ ifB (k == Z1) (SM x_1 ∧ (SM x_1 ∧ True) ∧ ∃ (y : Unit), True ∧ weakD (D.agg (ZI Z1 :: fi1q0 :: fi1q1 :: fi1q2)) (fi1q3 k) ∧ True ∧ True) (ifB (k == (2 : Int)) (SM x_1 ∧ (SM x_1 ∧ True) ∧ ∃ (y : Unit), True ∧ weakD (D.agg (ZI (2 : Int) :: fi1q0 :: D.sl N1 N1 (fun (i : Nat) => List.getD [[ZI (32 : Int)]] i []) Mode.full :: fi1q2)) (fi1q3 k) ∧ True ∧ True) (ifB (k == (3 : Int)) (SM x_1 ∧ (SM x_1 ∧ True) ∧ ∃ (y : Unit), True ∧ weakD (D.agg [ZI (3 : Int), fi1q0, fi1q0, D.sl N4 N1 (fun (i : Nat) => List.getD [ZI Z1 :: fi1q1 :: fi1q4] i []) Mode.full]) (fi1q3 k) ∧ True ∧ True) (SM x_1 ∧ (SM x_1 ∧ True) ∧ ∃ (y : Unit), True ∧ weakD (D.agg (ZI Z0 :: fi1q0 :: fi1q4)) (fi1q3 k) ∧ True ∧ True)))) (by kernel_rfl) ?_
  delta N0 N1 N4 SM Z0 Z1 ZI fi1q0 fi1q1 fi1q2 fi1q3 fi1q4
  simp only [ifB_iff, true_and, and_true, beq_iff_eq, beq_eq_false_iff_ne, ne_eq, exists_const, forall_const]
  intro _ _ _
  refine ⟨fun h => ?_, fun h1 => ⟨fun h => ?_, fun h2 => ⟨fun h => ?_, fun h3 => ?_⟩⟩⟩
  · subst h; exact weakD_refl _
  · subst h; exact weakD_refl _
  · subst h; exact weakD_refl _
  · simp only [fillD, if_neg h1, if_neg h2, if_neg h3]; exact weakD_refl _
noncomputable def Erfl : Senv := EC conAr 20 3 [4, 5, 9, 13] (fun _ => ([], []))
noncomputable section
def fi1q5 : D := D.sl N1 N0 (fun (_x : Nat) => []) Mode.nil
def fi1q6 : D := D.sl N1 N1 (fun (i : Nat) => List.getD [[ZI Z0]] i []) Mode.full
def fi1q7 : List D := [fi1q5]
def fi1q8 (p0 : Int) : D := fillD p0
def fi1q9 : List D := fi1q5 :: fi1q7
end
theorem rfill_ok (k : Int) (ns nn ni : Nat) (f g h : Nat → List D) :
    ACalls Tryd.prog 48 [.agg [.int .i64 k, .sl 1 ns f .any, .sl 1 nn g .any, .sl 4 ni h .any]] ⟨[], []⟩ (SpecR (sC [.agg [.int .i64 k, .sl 1 ns f .any, .sl 1 nn g .any, .sl 4 ni h .any]] (fillD k)) ()) := by
  refine con_of (A := sC _ _) (x := ()) (E := Erfl) (eOk conAr_ok rfl) Tryd.func48 rfl (by kernel_rfl) rfl (by simp [sC, Erfl, EC, E0]) ?_
  refine vc_eq (T :=
    ∀ (x : Nat), True → ∀ (x_1 : Nat), x ≠ x_1 ∧ True → SM x ∧ ifB (k == Z1) (SM x_1 ∧ (SM x_1 ∧ True) ∧ ∃ (y : Unit), True ∧ weakD (D.agg (ZI Z1 :: fi1q5 :: fi1q6 :: fi1q7)) (fi1q8 k) ∧ True ∧ True) (ifB (k == (2 : Int)) (SM x_1 ∧ (SM x_1 ∧ True) ∧ ∃ (y : Unit), True ∧ weakD (D.agg (ZI (2 : Int) :: fi1q5 :: D.sl N1 N1 (fun (i : Nat) => List.getD [[ZI (32 : Int)]] i []) Mode.full :: fi1q7)) (fi1q8 k) ∧ True ∧ True) (ifB (k == (3 : Int)) (SM x_1 ∧ (SM x_1 ∧ True) ∧ ∃ (y : Unit), True ∧ weakD (D.agg [ZI (3 : Int), fi1q5, fi1q5, D.sl N4 N1 (fun (i : Nat) => List.getD [ZI Z1 :: fi1q6 :: fi1q9] i []) Mode.full]) (fi1q8 k) ∧ True ∧ True) (SM x_1 ∧ (SM x_1 ∧ True) ∧ ∃ (y : Unit), True ∧ weakD (D.agg (ZI Z0 :: fi1q5 :: fi1q9)) (fi1q8 k) ∧ True ∧ True)))) (by kernel_rfl) ?_
  delta N0 N1 N4 SM Z0 Z1 ZI fi1q5 fi1q6 fi1q7 fi1q8 fi1q9
  simp only [ifB_iff, true_and, and_true, beq_iff_eq, beq_eq_false_iff_ne, ne_eq, exists_const, forall_const]
  intro _ _ _
  refine ⟨fun h => ?_, fun h1 => ⟨fun h => ?_, fun h2 => ⟨fun h => ?_, fun h3 => ?_⟩⟩⟩
  · subst h; exact weakD_refl _
  · subst h; exact weakD_refl _
  · subst h; exact weakD_refl _
  · simp only [fillD, if_neg h1, if_neg h2, if_neg h3]; exact weakD_refl _
theorem wk_nil {α : Type} [Inhabited α] (w : Nat) (g : α → List D) : wkD (nilS 1) (gsl w g []) := by
  simp [nilS, gsl, wkD, chk, weakM, nilMB]
theorem wk_nilI : wkD (nilS 1) (isl [] .any) := by
  simp [nilS, isl, wkD, chk, weakM]
theorem wk_nil4 : wkD (nilS 1) (.sl 4 ([] : List (List D)).length (fun i => ([] : List (List D)).getD i []) .any) := by
  simp [nilS, wkD, chk, weakM, nilMB]
theorem wk_one (z : Int) : wkD (.sl 1 1 (fun i => [[D.int .i64 z]].getD i []) .full) (isl [z] .any) := by
  simp only [isl, wkD, chk_iff]
  refine ⟨by simp, by simp, fun i hi => ?_, by simp [weakM]⟩
  have : i = 0 := by omega
  subst this
  exact wkL_refl _
theorem fill_wk (k : Int) : wkD (fillD k) (.agg (fillA k).row1) := by
  unfold fillD fillA
  split
  · simp only [wkD, wkL, Arr.row1, Arr.k, Arr.sh, Arr.nu, Arr.it]
    exact ⟨weakD_refl _, wk_nilI, wk_one _, wk_nil _ _, trivial⟩
  split
  · simp only [wkD, wkL, Arr.row1, Arr.k, Arr.sh, Arr.nu, Arr.it]
    exact ⟨weakD_refl _, wk_nilI, wk_one _, wk_nil _ _, trivial⟩
  split
  · simp only [wkD, wkL, Arr.row1, Arr.k, Arr.sh, Arr.nu, Arr.it]
    refine ⟨weakD_refl _, wk_nilI, wk_nilI, ?_, trivial⟩
    simp only [gsl, wkD, chk_iff]
    refine ⟨by simp, by simp, fun i hi => ?_, by simp [weakM]⟩
    have : i = 0 := by omega
    subst this
    simp only [List.getD_cons_zero, Arr.row, wkL, wkD, rowsL]
    exact ⟨weakD_refl _, wk_one _, wk_nilI, wk_nil4, trivial⟩
  · simp only [wkD, wkL, Arr.row1, Arr.k, Arr.sh, Arr.nu, Arr.it]
    exact ⟨weakD_refl _, wk_nilI, wk_nilI, wk_nil _ _, trivial⟩
theorem wkRet {k : Nat} {ds : List D} {d d' : D} (h : ACalls Tryd.prog k ds ⟨[], []⟩ (SpecR (sC ds d) ())) (hw : wkD d d') : ACalls Tryd.prog k ds ⟨[], []⟩ (SpecR (sC ds d') ()) := by
  refine ACalls.wkEnd h fun r S' ⟨y, q1, q2, q3⟩ => ?_
  subst q2 q3
  refine ⟨.ret d', fun C e he => ?_, ⟨(), trivial, rfl, rfl⟩⟩
  cases e with
  | returned v => exact wkD_weak d d' hw C v he
  | panicked _ => exact he.elim
  | outgrown => exact he.elim
theorem rfill_arr (a : Arr) : ACalls Tryd.prog 48 [.agg a.row1] ⟨[], []⟩ (SpecR (sC [.agg a.row1] (.agg (fillA a.k).row1)) ()) := wkRet (rfill_ok a.k _ _ _ _ _ _) (fill_wk a.k)
end Go.Proofs.YtpgepjefbhgblaaDoor
namespace Go.Proofs.YtpgepjefbhgblaaDoor
open Go Go.Ab
set_option maxRecDepth 100000
def atA (a : Arr) (i : Nat) : Arr := if a.k = 3 then .mk 3 [] [] [a.it.getD i default] else .mk a.k [] [a.nu.getD i 0] []
def atD (a : Arr) (i : Nat) : D :=
  if a.k = 3 then .agg [.int .i64 a.k, nilS 1, nilS 1, .sl 4 1 (fun j => [(a.it.getD i default).row1].getD j []) .full]
  else .agg [.int .i64 a.k, nilS 1, .sl 1 1 (fun j => [[D.int .i64 (a.nu.getD i 0)]].getD j []) .full, nilS 1]
noncomputable def Eat (a : Arr) : Senv := EC (conCl a.it) 36 3 [4, 12, 16] (fun id => match id with | 4 => ([0, 1, 2, 3, 4, 5, 6, 7, 8, 9, 10], [7, 8, 10]) | 5 => ([0, 1, 2, 3, 4, 5, 6, 7, 8, 9], [7, 9]) | _ => ([], []))
noncomputable section
def at1q0 (p0 : Arr) : Int := Arr.k p0
def at1q1 (p0 : Arr) : Nat := LN (Arr.nu p0)
def at1q2 : D := D.sl N1 N0 (fun (_x : Nat) => []) Mode.nil
def at1q3 : List D := [at1q2]
def at1q4 (p0 : Nat) (p1 : Arr) (p2 : Nat) : Prop := SM p0 ∧ (SM p0 ∧ True) ∧ ∃ (_y : Unit), True ∧ weakD (D.agg (ZI Z0 :: at1q2 :: at1q2 :: at1q3)) (atD p1 p2) ∧ True ∧ True
def at1q5 (p0 : Arr) : List Arr := Arr.it p0
def at1q6 (p0 : Arr) : Nat := LN (at1q5 p0)
def at1q7 : Arr := DA
def at1q8 (p0 : Arr) (p1 : Nat) : Arr := List.getD (at1q5 p0) (Int.toNat (↑p1 : Int)) at1q7
def at1q9 (p0 : Arr) (p1 : Nat) : List Int := Arr.sh (at1q8 p0 p1)
def at1q10 (p0 : Arr) (p1 : Nat) : Nat := LN (at1q9 p0 p1)
def at1q11 (p0 : Arr) (p1 : Nat) : List Int := Arr.nu (at1q8 p0 p1)
def at1q12 (p0 : Arr) (p1 : Nat) : Nat := LN (at1q11 p0 p1)
def at1q13 (p0 : Arr) (p1 : Nat) : List Arr := Arr.it (at1q8 p0 p1)
def at1q14 (p0 : Arr) (p1 : Nat) : Nat := LN (at1q13 p0 p1)
def at1q15 (p0 : Arr) (p1 : Nat) : List D := Arr.row (List.getD (at1q5 p0) p1 at1q7)
def at1q16 (p0 : Arr) : D := ZI (at1q0 p0)
def at1q17 (p0 : Nat) (p1 : Arr) : Prop := SM p0 ∧ SM (at1q16 p1)
def at1q18 (p0 : Nat) (p1 : Arr) (p2 p3 : Nat) : Prop := SM p0 ∧ ifB (at1q0 p1 == (3 : Int)) (SM p0 ∧ SM p0 ∧ side (Z0 ≤ (↑p2 : Int) ∧ (↑p2 : Int) < (NI (at1q6 p1))) (∃ (x : Arr), ((Arr.k (at1q8 p1 p2) = at1q0 x ∧ (at1q10 p1 p2 = LN (Arr.sh x) ∧ (∀ (i : Nat), i < at1q10 p1 p2 → [ZI (GI (at1q9 p1 p2) i)] = [ZI (GI (Arr.sh x) i)]) ∧ True) ∧ (at1q12 p1 p2 = at1q1 x ∧ (∀ (i : Nat), i < at1q12 p1 p2 → [ZI (GI (at1q11 p1 p2) i)] = [ZI (GI (Arr.nu x) i)]) ∧ True) ∧ (at1q14 p1 p2 = at1q6 x ∧ (∀ (i : Nat), i < at1q14 p1 p2 → Arr.row (List.getD (at1q13 p1 p2) i at1q7) = at1q15 x i) ∧ True) ∧ True) ∧ True) ∧ (True ∧ True) ∧ x ∈ at1q5 p1 ∧ ∀ (_y : Unit), True → at1q17 p0 p1 ∧ at1q17 p0 p1 ∧ SM p3 ∧ (SM p3 ∧ True) ∧ ∃ (_y : Unit), True ∧ weakD (D.agg [at1q16 p1, at1q2, at1q2, D.sl N4 N1 (fun (i : Nat) => List.getD [[at1q16 x, SI (Arr.sh x), D.sl N1 (at1q1 x) (fun (i : Nat) => [ZI (GI (Arr.nu x) i)]) Mode.any, D.sl N4 (at1q6 x) (fun (i : Nat) => at1q15 x i) Mode.any]] i []) Mode.full]) (atD p1 p2) ∧ True ∧ True)) (SM p0 ∧ SM p0 ∧ side (Z0 ≤ (↑p2 : Int) ∧ (↑p2 : Int) < (NI (at1q1 p1))) (at1q17 p0 p1 ∧ SM p3 ∧ (SM p3 ∧ True) ∧ ∃ (_y : Unit), True ∧ weakD (D.agg (at1q16 p1 :: at1q2 :: D.sl N1 N1 (fun (i : Nat) => List.getD [[ZI (GI (Arr.nu p1) (Int.toNat (↑p2 : Int)))]] i []) Mode.full :: at1q3)) (atD p1 p2) ∧ True ∧ True))
def at1q19 (p0 : Nat) (p1 : Arr) (p2 p3 p4 : Nat) : Prop := SM p0 ∧ True ∧ ifB (decide ((NI (at1q1 p1)) ≤ (↑p2 : Int))) (at1q4 p3 p1 p2) (at1q18 p4 p1 p2 p3)
def at1q20 (p0 : Arr) (p1 p2 p3 p4 : Nat) : Prop := ifB (at1q0 p0 == (3 : Int)) (SM p1 ∧ True ∧ ifB (decide ((NI (at1q6 p0)) ≤ (↑p2 : Int))) (at1q4 p3 p0 p2) (at1q18 p4 p0 p2 p3)) (True ∧ at1q4 p3 p0 p2)
end
theorem at_step (a : Arr) (i : Nat) (hk : a.k = 1 ∨ a.k = 2 ∨ a.k = 3) (hi : (i : Int) < sizeR a.k a.nu.length a.it.length) (hc : ConOk Tryd.prog (conCl a.it)) :
    ACalls Tryd.prog 42 [.agg a.row2, .int .i64 i] ⟨[], []⟩ (SpecR (sC [.agg a.row2, .int .i64 i] (atD a i)) ()) := by
  refine con_of (A := sC _ _) (x := ()) (E := Eat a) (eOk hc rfl) Tryd.func42 rfl (by kernel_rfl) rfl (by simp [sC, Eat, EC, E0]) ?_
  refine vc_eq (T :=
    ∀ (x : Nat), True → ∀ (x_1 : Nat), x ≠ x_1 ∧ True → SM x ∧ ∀ (x_2 : Nat), x_1 ≠ x_2 ∧ x ≠ x_2 ∧ True → SM x_2 ∧ ifB (at1q0 a == Z1) (ifB (at1q0 a == Z1) (at1q19 x_2 a i x_1 x) (at1q20 a x_2 i x_1 x)) (ifB (at1q0 a == (2 : Int)) (at1q19 x_2 a i x_1 x) (at1q20 a x_2 i x_1 x))) (by kernel_rfl) ?_
  delta DA GI LN N0 N1 N4 NI SI SM Z0 Z1 ZI at1q0 at1q1 at1q10 at1q11 at1q12 at1q13 at1q14 at1q15 at1q16 at1q17 at1q18 at1q19 at1q2 at1q20 at1q3 at1q4 at1q5 at1q6 at1q7 at1q8 at1q9
  have da : (default : Arr) = Arr.mk 0 [] [] [] := rfl
  simp only [← da, ifB_iff, side_iff, decide_eq_true_eq, decide_eq_false_iff_not, true_and, and_true, beq_iff_eq, beq_eq_false_iff_ne, ne_eq, exists_const, forall_const, Int.toNat_natCast]
  have h12 : a.k ≠ 3 → i < a.nu.length := fun h3 => by
    have h : a.k = 1 ∨ a.k = 2 := by omega
    rw [sizeR, if_pos h] at hi; omega
  have h3 : a.k = 3 → i < a.it.length := fun h3 => by
    rw [sizeR, if_neg (by omega), if_pos h3] at hi; omega
  clear hi
  repeat' (first | intro _ | refine And.intro ?_ ?_)
  all_goals first
    | omega
    | (exfalso; omega)
    | exact ⟨a.it.getD i default, ⟨rfl, ⟨rfl, fun _ _ => rfl⟩, ⟨rfl, fun _ _ => rfl⟩, rfl, fun _ _ => rfl⟩, mem_getD (by omega), by rw [atD, if_pos (by assumption)]; exact weakD_refl _⟩
    | (rw [atD, if_neg (by omega)]; exact weakD_refl _)
theorem at_wk (a : Arr) (i : Nat) : wkD (atD a i) (.agg (atA a i).row1) := by
  unfold atD atA
  split
  · rename_i h3
    rw [h3]
    simp only [wkD, wkL, Arr.row1]
    refine ⟨weakD_refl _, wk_nilI, wk_nilI, ?_, trivial⟩
    simp only [gsl, wkD, chk_iff]
    refine ⟨by simp, by simp [Arr.it], fun j hj => ?_, by simp [weakM]⟩
    have : j = 0 := by omega
    subst this
    simp only [List.getD_cons_zero, Arr.it]
    exact row1_row _
  · simp only [wkD, wkL, Arr.row1]
    exact ⟨weakD_refl _, wk_nilI, wk_one _, wk_nil _ _, trivial⟩
theorem form_kind {k : Int} {s : List Int} {nn ni : Nat} (h : formS k s nn ni = 0) : k = 1 ∨ k = 2 ∨ k = 3 := by
  unfold formS at h
  by_cases hk : k = 1 ∨ k = 2 ∨ k = 3
  · exact hk
  · rw [if_neg hk] at h; simp at h
theorem chk_form {a : Arr} (h : (chkA a).1 = 0) : formS a.k a.sh a.nu.length a.it.length = 0 := by
  cases a with
  | mk k s n is =>
    rw [chkA] at h
    by_cases h0 : formS k s n.length is.length ≠ 0
    · rw [if_pos h0] at h; exact (h0 h).elim
    · exact Decidable.not_not.1 h0
theorem conCl_ok {a : Arr} (h : (chkA a).1 = 0) : ConOk Tryd.prog (conCl a.it) := by
  intro k' ds S A hk
  unfold conCl at hk
  split at hk
  · injection hk with hk; subst hk
    refine ConOk.plain (fun (b : Arr) hb => ?_) rfl rfl
    cases a with
    | mk k s n is => exact (cl_all b ((chkA_zero h).2.2.2 b hb)).mono fun _ _ ⟨y, q1, q2, q3⟩ => ⟨y, q1, q2, q3⟩
  · cases hk
end Go.Proofs.YtpgepjefbhgblaaDoor
