/- Functions of the given program and what each of them computes: lemmas towards the statement, their conditions stated with each of them. -/
import Derived.Test.YtoglbmhkfkghbaaAb2
import Derived.Test.YtoglbmhkfkghbaaProg
import Derived.KernelRfl
import Derived.Shelf.Strings.Builder1
import Derived.Shelf.Strings.Builder2
import Derived.Shelf.Strings.BuilderF
import Derived.Shelf.Strings.Prefix
import Derived.Shelf.Bits.Mul64
import Derived.Shelf.Strings.Repeat
import Derived.Lib.Repeat
/- The table of the types that the functions here meet, read off the translation by a program; each row is checked. -/
namespace Go.Proofs.Ytoglbmhkfkghbaa
open Go Go.Ab
noncomputable def tab : List (Nat × TI) := [
  (0, ⟨TypeDesc.tuple #[], 1, 0, [.unk]⟩),
  (1, ⟨TypeDesc.func #[] #[] false, 1, 8, [.nilf]⟩),
  (2, ⟨TypeDesc.int .i64, 1, 8, [.int .i64 0]⟩),
  (3, ⟨TypeDesc.int .i64, 1, 8, [.int .i64 0]⟩),
  (4, ⟨TypeDesc.bool, 1, 1, [.bool false]⟩),
  (5, ⟨TypeDesc.int .u8, 1, 1, [.int .u8 0]⟩),
  (9, ⟨TypeDesc.string, 1, 16, [.str []]⟩),
  (20, ⟨TypeDesc.interface #[], 1, 16, [.nili]⟩),
  (21, ⟨TypeDesc.int .i32, 1, 4, [.int .i32 0]⟩),
  (22, ⟨TypeDesc.slice 5, 1, 24, [.sl 1 0 (fun _ => []) .nil]⟩),
  (23, ⟨TypeDesc.func #[] #[4] false, 1, 8, [.nilf]⟩),
  (24, ⟨TypeDesc.int .u32, 1, 4, [.int .u32 0]⟩),
  (25, ⟨TypeDesc.func #[22] #[24] false, 1, 8, [.nilf]⟩),
  (26, ⟨TypeDesc.func #[22] #[4] false, 1, 8, [.nilf]⟩),
  (27, ⟨TypeDesc.slice 53, 1, 24, [.sl 1 0 (fun _ => []) .nil]⟩),
  (28, ⟨TypeDesc.slice 48, 1, 24, [.sl 1 0 (fun _ => []) .nil]⟩),
  (29, ⟨TypeDesc.slice 57, 1, 24, [.sl 1 0 (fun _ => []) .nil]⟩),
  (30, ⟨TypeDesc.slice 60, 1, 24, [.sl 1 0 (fun _ => []) .nil]⟩),
  (31, ⟨Try.t31.desc, 4, 96, [.sl 1 0 (fun _ => []) .nil, .sl 1 0 (fun _ => []) .nil, .sl 1 0 (fun _ => []) .nil, .sl 1 0 (fun _ => []) .nil]⟩),
  (32, ⟨Try.t31.desc, 4, 96, [.sl 1 0 (fun _ => []) .nil, .sl 1 0 (fun _ => []) .nil, .sl 1 0 (fun _ => []) .nil, .sl 1 0 (fun _ => []) .nil]⟩),
  (33, ⟨TypeDesc.func #[32] #[4] false, 1, 8, [.nilf]⟩),
  (34, ⟨TypeDesc.int .i64, 1, 8, [.int .i64 0]⟩),
  (35, ⟨TypeDesc.tuple #[22, 34], 1, 0, [.unk]⟩),
  (36, ⟨TypeDesc.func #[32] #[22, 34] false, 1, 8, [.nilf]⟩),
  (37, ⟨TypeDesc.tuple #[32, 34], 1, 0, [.unk]⟩),
  (38, ⟨TypeDesc.func #[22] #[32, 34] false, 1, 8, [.nilf]⟩),
  (39, ⟨TypeDesc.func #[32, 32] #[4] false, 1, 8, [.nilf]⟩),
  (40, ⟨TypeDesc.func #[22] #[22] false, 1, 8, [.nilf]⟩),
  (41, ⟨TypeDesc.int .u64, 1, 8, [.int .u64 0]⟩),
  (42, ⟨TypeDesc.func #[32, 3, 5] #[4] false, 1, 8, [.nilf]⟩),
  (43, ⟨TypeDesc.int .i64, 1, 8, [.int .i64 0]⟩),
  (44, ⟨Try.t44.desc, 4, 32, [.int .i64 0, .int .i64 0, .int .i64 0, .int .i64 0]⟩),
  (45, ⟨Try.t44.desc, 4, 32, [.int .i64 0, .int .i64 0, .int .i64 0, .int .i64 0]⟩),
  (46, ⟨TypeDesc.slice 45, 1, 24, [.sl 1 0 (fun _ => []) .nil]⟩),
  (47, ⟨Try.t47.desc, 2, 32, [.int .i64 0, .sl 1 0 (fun _ => []) .nil]⟩),
  (48, ⟨Try.t47.desc, 2, 32, [.int .i64 0, .sl 1 0 (fun _ => []) .nil]⟩),
  (49, ⟨TypeDesc.func #[53, 3] #[4] false, 1, 8, [.nilf]⟩),
  (50, ⟨TypeDesc.int .i64, 1, 8, [.int .i64 0]⟩),
  (51, ⟨TypeDesc.slice 3, 1, 24, [.sl 1 0 (fun _ => []) .nil]⟩),
  (52, ⟨Try.t52.desc, 4, 80, [.int .i64 0, .sl 1 0 (fun _ => []) .nil, .sl 1 0 (fun _ => []) .nil, .sl 1 0 (fun _ => []) .nil]⟩),
  (53, ⟨Try.t52.desc, 4, 80, [.int .i64 0, .sl 1 0 (fun _ => []) .nil, .sl 1 0 (fun _ => []) .nil, .sl 1 0 (fun _ => []) .nil]⟩),
  (54, ⟨TypeDesc.slice 88, 1, 24, [.sl 1 0 (fun _ => []) .nil]⟩),
  (55, ⟨TypeDesc.int .i64, 1, 8, [.int .i64 0]⟩),
  (56, ⟨Try.t56.desc, 4, 48, [.int .i64 0, .sl 1 0 (fun _ => []) .nil, .int .i64 0, .int .i64 0]⟩),
  (57, ⟨Try.t56.desc, 4, 48, [.int .i64 0, .sl 1 0 (fun _ => []) .nil, .int .i64 0, .int .i64 0]⟩),
  (58, ⟨TypeDesc.slice 91, 1, 24, [.sl 1 0 (fun _ => []) .nil]⟩),
  (59, ⟨Try.t59.desc, 2, 32, [.int .i64 0, .sl 1 0 (fun _ => []) .nil]⟩),
  (60, ⟨Try.t59.desc, 2, 32, [.int .i64 0, .sl 1 0 (fun _ => []) .nil]⟩),
  (61, ⟨TypeDesc.func #[32] #[34] false, 1, 8, [.nilf]⟩),
  (62, ⟨TypeDesc.pointer 64, 1, 8, [.nilp]⟩),
  (63, ⟨Try.t63.desc, 1, 24, [.sl 1 0 (fun _ => []) .nil]⟩),
  (64, ⟨Try.t63.desc, 1, 24, [.sl 1 0 (fun _ => []) .nil]⟩),
  (65, ⟨TypeDesc.func #[32] #[] false, 1, 8, [.nilf]⟩),
  (66, ⟨TypeDesc.func #[32] #[22] false, 1, 8, [.nilf]⟩),
  (67, ⟨TypeDesc.func #[22, 22] #[4] false, 1, 8, [.nilf]⟩),
  (68, ⟨TypeDesc.func #[53] #[53] false, 1, 8, [.nilf]⟩),
  (69, ⟨TypeDesc.pointer 71, 1, 8, [.nilp]⟩),
  (70, ⟨Try.t70.desc, 3, 40, [.sl 1 0 (fun _ => []) .nil, .int .i64 0, .bool false]⟩),
  (71, ⟨Try.t70.desc, 3, 40, [.sl 1 0 (fun _ => []) .nil, .int .i64 0, .bool false]⟩),
  (72, ⟨TypeDesc.func #[] #[32] false, 1, 8, [.nilf]⟩),
  (73, ⟨TypeDesc.func #[53, 53] #[4] false, 1, 8, [.nilf]⟩),
  (74, ⟨TypeDesc.func #[28, 28] #[4] false, 1, 8, [.nilf]⟩),
  (75, ⟨TypeDesc.func #[29, 29] #[4] false, 1, 8, [.nilf]⟩),
  (76, ⟨TypeDesc.func #[30, 30] #[4] false, 1, 8, [.nilf]⟩),
  (77, ⟨TypeDesc.func #[53] #[3] false, 1, 8, [.nilf]⟩),
  (78, ⟨TypeDesc.func #[27, 80] #[4] false, 1, 8, [.nilf]⟩),
  (79, ⟨TypeDesc.func #[53] #[34] false, 1, 8, [.nilf]⟩),
  (80, ⟨TypeDesc.func #[53] #[4] false, 1, 8, [.nilf]⟩),
  (81, ⟨TypeDesc.func #[29, 82] #[4] false, 1, 8, [.nilf]⟩),
  (82, ⟨TypeDesc.func #[57] #[4] false, 1, 8, [.nilf]⟩),
  (83, ⟨TypeDesc.tuple #[3, 4], 1, 0, [.unk]⟩),
  (84, ⟨TypeDesc.func #[32, 3] #[3, 4] false, 1, 8, [.nilf]⟩),
  (85, ⟨TypeDesc.func #[51] #[] true, 1, 8, [.nilf]⟩),
  (86, ⟨TypeDesc.func #[53] #[] false, 1, 8, [.nilf]⟩),
  (87, ⟨Try.t87.desc, 4, 32, [.int .i64 0, .int .i64 0, .int .i64 0, .int .i64 0]⟩),
  (88, ⟨Try.t87.desc, 4, 32, [.int .i64 0, .int .i64 0, .int .i64 0, .int .i64 0]⟩),
  (89, ⟨TypeDesc.int .i64, 1, 8, [.int .i64 0]⟩),
  (90, ⟨Try.t90.desc, 6, 48, [.int .i64 0, .int .i64 0, .int .i64 0, .int .i64 0, .int .i64 0, .int .i64 0]⟩),
  (91, ⟨Try.t90.desc, 6, 48, [.int .i64 0, .int .i64 0, .int .i64 0, .int .i64 0, .int .i64 0, .int .i64 0]⟩),
  (92, ⟨TypeDesc.func #[3] #[22] false, 1, 8, [.nilf]⟩),
  (93, ⟨TypeDesc.func #[22, 53] #[22] false, 1, 8, [.nilf]⟩),
  (94, ⟨TypeDesc.func #[22, 51] #[22] false, 1, 8, [.nilf]⟩),
  (95, ⟨Try.t95.desc, 0, 0, []⟩),
  (96, ⟨Try.t95.desc, 0, 0, []⟩),
  (97, ⟨TypeDesc.tuple #[96, 4], 1, 0, [.unk]⟩),
  (98, ⟨TypeDesc.pointer 99, 1, 8, [.nilp]⟩),
  (99, ⟨Try.t63.desc, 1, 24, [.sl 1 0 (fun _ => []) .nil]⟩),
  (100, ⟨TypeDesc.func #[] #[3] false, 1, 8, [.nilf]⟩),
  (101, ⟨TypeDesc.func #[3] #[53] false, 1, 8, [.nilf]⟩),
  (102, ⟨TypeDesc.func #[3] #[51] false, 1, 8, [.nilf]⟩),
  (103, ⟨TypeDesc.func #[51, 51] #[4] false, 1, 8, [.nilf]⟩),
  (104, ⟨TypeDesc.func #[27, 80] #[3] false, 1, 8, [.nilf]⟩),
  (105, ⟨TypeDesc.func #[53] #[34, 3, 3] false, 1, 8, [.nilf]⟩),
  (106, ⟨TypeDesc.func #[3] #[4] false, 1, 8, [.nilf]⟩),
  (107, ⟨TypeDesc.tuple #[34, 3, 3], 1, 0, [.unk]⟩),
  (108, ⟨TypeDesc.func #[29, 82] #[3] false, 1, 8, [.nilf]⟩),
  (109, ⟨TypeDesc.func #[3, 3, 3] #[4] false, 1, 8, [.nilf]⟩),
  (110, ⟨TypeDesc.slice 4, 1, 24, [.sl 1 0 (fun _ => []) .nil]⟩),
  (111, ⟨Try.t111.desc, 3, 40, [.str [], .str [], .bool false]⟩),
  (112, ⟨Try.t111.desc, 3, 40, [.str [], .str [], .bool false]⟩),
  (113, ⟨TypeDesc.func #[32, 3, 45] #[112] false, 1, 8, [.nilf]⟩),
  (114, ⟨TypeDesc.tuple #[22, 4], 1, 0, [.unk]⟩),
  (115, ⟨TypeDesc.func #[22, 112] #[22, 4] false, 1, 8, [.nilf]⟩),
  (116, ⟨TypeDesc.int .u64, 1, 8, [.int .u64 0]⟩),
  (117, ⟨TypeDesc.tuple #[34, 3], 1, 0, [.unk]⟩),
  (118, ⟨TypeDesc.func #[53] #[34, 3] false, 1, 8, [.nilf]⟩),
  (119, ⟨TypeDesc.tuple #[9, 4], 1, 0, [.unk]⟩),
  (120, ⟨TypeDesc.func #[9, 122] #[9, 4] false, 1, 8, [.nilf]⟩),
  (121, ⟨Try.t121.desc, 3, 40, [.str [], .str [], .bool false]⟩),
  (122, ⟨Try.t121.desc, 3, 40, [.str [], .str [], .bool false]⟩),
  (123, ⟨TypeDesc.func #[32, 3, 45] #[122] false, 1, 8, [.nilf]⟩),
  (124, ⟨TypeDesc.func #[4] #[] false, 1, 8, [.nilf]⟩)]
theorem tab_ok : TabOk Try.prog (tabGet tab) :=
  TabOk.cons (ti := ⟨_, _, _, _⟩) Try.underlying0 (by kernel_rfl) <|
  TabOk.cons (ti := ⟨_, _, _, _⟩) Try.underlying1 (by kernel_rfl) <|
  TabOk.cons (ti := ⟨_, _, _, _⟩) Try.underlying2 (by kernel_rfl) <|
  TabOk.cons (ti := ⟨_, _, _, _⟩) Try.underlying3 (by kernel_rfl) <|
  TabOk.cons (ti := ⟨_, _, _, _⟩) Try.underlying4 (by kernel_rfl) <|
  TabOk.cons (ti := ⟨_, _, _, _⟩) Try.underlying5 (by kernel_rfl) <|
  TabOk.cons (ti := ⟨_, _, _, _⟩) Try.underlying9 (by kernel_rfl) <|
  TabOk.cons (ti := ⟨_, _, _, _⟩) Try.underlying20 (by kernel_rfl) <|
  TabOk.cons (ti := ⟨_, _, _, _⟩) Try.underlying21 (by kernel_rfl) <|
  TabOk.cons (ti := ⟨_, _, _, _⟩) Try.underlying22 (by kernel_rfl) <|
  TabOk.cons (ti := ⟨_, _, _, _⟩) Try.underlying23 (by kernel_rfl) <|
  TabOk.cons (ti := ⟨_, _, _, _⟩) Try.underlying24 (by kernel_rfl) <|
  TabOk.cons (ti := ⟨_, _, _, _⟩) Try.underlying25 (by kernel_rfl) <|
  TabOk.cons (ti := ⟨_, _, _, _⟩) Try.underlying26 (by kernel_rfl) <|
  TabOk.cons (ti := ⟨_, _, _, _⟩) Try.underlying27 (by kernel_rfl) <|
  TabOk.cons (ti := ⟨_, _, _, _⟩) Try.underlying28 (by kernel_rfl) <|
  TabOk.cons (ti := ⟨_, _, _, _⟩) Try.underlying29 (by kernel_rfl) <|
  TabOk.cons (ti := ⟨_, _, _, _⟩) Try.underlying30 (by kernel_rfl) <|
  TabOk.cons (ti := ⟨_, _, _, _⟩) Try.underlying31 (by kernel_rfl) <|
  TabOk.cons (ti := ⟨_, _, _, _⟩) Try.underlying32 (by kernel_rfl) <|
  TabOk.cons (ti := ⟨_, _, _, _⟩) Try.underlying33 (by kernel_rfl) <|
  TabOk.cons (ti := ⟨_, _, _, _⟩) Try.underlying34 (by kernel_rfl) <|
  TabOk.cons (ti := ⟨_, _, _, _⟩) Try.underlying35 (by kernel_rfl) <|
  TabOk.cons (ti := ⟨_, _, _, _⟩) Try.underlying36 (by kernel_rfl) <|
  TabOk.cons (ti := ⟨_, _, _, _⟩) Try.underlying37 (by kernel_rfl) <|
  TabOk.cons (ti := ⟨_, _, _, _⟩) Try.underlying38 (by kernel_rfl) <|
  TabOk.cons (ti := ⟨_, _, _, _⟩) Try.underlying39 (by kernel_rfl) <|
  TabOk.cons (ti := ⟨_, _, _, _⟩) Try.underlying40 (by kernel_rfl) <|
  TabOk.cons (ti := ⟨_, _, _, _⟩) Try.underlying41 (by kernel_rfl) <|
  TabOk.cons (ti := ⟨_, _, _, _⟩) Try.underlying42 (by kernel_rfl) <|
  TabOk.cons (ti := ⟨_, _, _, _⟩) Try.underlying43 (by kernel_rfl) <|
  TabOk.cons (ti := ⟨_, _, _, _⟩) Try.underlying44 (by kernel_rfl) <|
  TabOk.cons (ti := ⟨_, _, _, _⟩) Try.underlying45 (by kernel_rfl) <|
  TabOk.cons (ti := ⟨_, _, _, _⟩) Try.underlying46 (by kernel_rfl) <|
  TabOk.cons (ti := ⟨_, _, _, _⟩) Try.underlying47 (by kernel_rfl) <|
  TabOk.cons (ti := ⟨_, _, _, _⟩) Try.underlying48 (by kernel_rfl) <|
  TabOk.cons (ti := ⟨_, _, _, _⟩) Try.underlying49 (by kernel_rfl) <|
  TabOk.cons (ti := ⟨_, _, _, _⟩) Try.underlying50 (by kernel_rfl) <|
  TabOk.cons (ti := ⟨_, _, _, _⟩) Try.underlying51 (by kernel_rfl) <|
  TabOk.cons (ti := ⟨_, _, _, _⟩) Try.underlying52 (by kernel_rfl) <|
  TabOk.cons (ti := ⟨_, _, _, _⟩) Try.underlying53 (by kernel_rfl) <|
  TabOk.cons (ti := ⟨_, _, _, _⟩) Try.underlying54 (by kernel_rfl) <|
  TabOk.cons (ti := ⟨_, _, _, _⟩) Try.underlying55 (by kernel_rfl) <|
  TabOk.cons (ti := ⟨_, _, _, _⟩) Try.underlying56 (by kernel_rfl) <|
  TabOk.cons (ti := ⟨_, _, _, _⟩) Try.underlying57 (by kernel_rfl) <|
  TabOk.cons (ti := ⟨_, _, _, _⟩) Try.underlying58 (by kernel_rfl) <|
  TabOk.cons (ti := ⟨_, _, _, _⟩) Try.underlying59 (by kernel_rfl) <|
  TabOk.cons (ti := ⟨_, _, _, _⟩) Try.underlying60 (by kernel_rfl) <|
  TabOk.cons (ti := ⟨_, _, _, _⟩) Try.underlying61 (by kernel_rfl) <|
  TabOk.cons (ti := ⟨_, _, _, _⟩) Try.underlying62 (by kernel_rfl) <|
  TabOk.cons (ti := ⟨_, _, _, _⟩) Try.underlying63 (by kernel_rfl) <|
  TabOk.cons (ti := ⟨_, _, _, _⟩) Try.underlying64 (by kernel_rfl) <|
  TabOk.cons (ti := ⟨_, _, _, _⟩) Try.underlying65 (by kernel_rfl) <|
  TabOk.cons (ti := ⟨_, _, _, _⟩) Try.underlying66 (by kernel_rfl) <|
  TabOk.cons (ti := ⟨_, _, _, _⟩) Try.underlying67 (by kernel_rfl) <|
  TabOk.cons (ti := ⟨_, _, _, _⟩) Try.underlying68 (by kernel_rfl) <|
  TabOk.cons (ti := ⟨_, _, _, _⟩) Try.underlying69 (by kernel_rfl) <|
  TabOk.cons (ti := ⟨_, _, _, _⟩) Try.underlying70 (by kernel_rfl) <|
  TabOk.cons (ti := ⟨_, _, _, _⟩) Try.underlying71 (by kernel_rfl) <|
  TabOk.cons (ti := ⟨_, _, _, _⟩) Try.underlying72 (by kernel_rfl) <|
  TabOk.cons (ti := ⟨_, _, _, _⟩) Try.underlying73 (by kernel_rfl) <|
  TabOk.cons (ti := ⟨_, _, _, _⟩) Try.underlying74 (by kernel_rfl) <|
  TabOk.cons (ti := ⟨_, _, _, _⟩) Try.underlying75 (by kernel_rfl) <|
  TabOk.cons (ti := ⟨_, _, _, _⟩) Try.underlying76 (by kernel_rfl) <|
  TabOk.cons (ti := ⟨_, _, _, _⟩) Try.underlying77 (by kernel_rfl) <|
  TabOk.cons (ti := ⟨_, _, _, _⟩) Try.underlying78 (by kernel_rfl) <|
  TabOk.cons (ti := ⟨_, _, _, _⟩) Try.underlying79 (by kernel_rfl) <|
  TabOk.cons (ti := ⟨_, _, _, _⟩) Try.underlying80 (by kernel_rfl) <|
  TabOk.cons (ti := ⟨_, _, _, _⟩) Try.underlying81 (by kernel_rfl) <|
  TabOk.cons (ti := ⟨_, _, _, _⟩) Try.underlying82 (by kernel_rfl) <|
  TabOk.cons (ti := ⟨_, _, _, _⟩) Try.underlying83 (by kernel_rfl) <|
  TabOk.cons (ti := ⟨_, _, _, _⟩) Try.underlying84 (by kernel_rfl) <|
  TabOk.cons (ti := ⟨_, _, _, _⟩) Try.underlying85 (by kernel_rfl) <|
  TabOk.cons (ti := ⟨_, _, _, _⟩) Try.underlying86 (by kernel_rfl) <|
  TabOk.cons (ti := ⟨_, _, _, _⟩) Try.underlying87 (by kernel_rfl) <|
  TabOk.cons (ti := ⟨_, _, _, _⟩) Try.underlying88 (by kernel_rfl) <|
  TabOk.cons (ti := ⟨_, _, _, _⟩) Try.underlying89 (by kernel_rfl) <|
  TabOk.cons (ti := ⟨_, _, _, _⟩) Try.underlying90 (by kernel_rfl) <|
  TabOk.cons (ti := ⟨_, _, _, _⟩) Try.underlying91 (by kernel_rfl) <|
  TabOk.cons (ti := ⟨_, _, _, _⟩) Try.underlying92 (by kernel_rfl) <|
  TabOk.cons (ti := ⟨_, _, _, _⟩) Try.underlying93 (by kernel_rfl) <|
  TabOk.cons (ti := ⟨_, _, _, _⟩) Try.underlying94 (by kernel_rfl) <|
  TabOk.cons (ti := ⟨_, _, _, _⟩) Try.underlying95 (by kernel_rfl) <|
  TabOk.cons (ti := ⟨_, _, _, _⟩) Try.underlying96 (by kernel_rfl) <|
  TabOk.cons (ti := ⟨_, _, _, _⟩) Try.underlying97 (by kernel_rfl) <|
  TabOk.cons (ti := ⟨_, _, _, _⟩) Try.underlying98 (by kernel_rfl) <|
  TabOk.cons (ti := ⟨_, _, _, _⟩) Try.underlying99 (by kernel_rfl) <|
  TabOk.cons (ti := ⟨_, _, _, _⟩) Try.underlying100 (by kernel_rfl) <|
  TabOk.cons (ti := ⟨_, _, _, _⟩) Try.underlying101 (by kernel_rfl) <|
  TabOk.cons (ti := ⟨_, _, _, _⟩) Try.underlying102 (by kernel_rfl) <|
  TabOk.cons (ti := ⟨_, _, _, _⟩) Try.underlying103 (by kernel_rfl) <|
  TabOk.cons (ti := ⟨_, _, _, _⟩) Try.underlying104 (by kernel_rfl) <|
  TabOk.cons (ti := ⟨_, _, _, _⟩) Try.underlying105 (by kernel_rfl) <|
  TabOk.cons (ti := ⟨_, _, _, _⟩) Try.underlying106 (by kernel_rfl) <|
  TabOk.cons (ti := ⟨_, _, _, _⟩) Try.underlying107 (by kernel_rfl) <|
  TabOk.cons (ti := ⟨_, _, _, _⟩) Try.underlying108 (by kernel_rfl) <|
  TabOk.cons (ti := ⟨_, _, _, _⟩) Try.underlying109 (by kernel_rfl) <|
  TabOk.cons (ti := ⟨_, _, _, _⟩) Try.underlying110 (by kernel_rfl) <|
  TabOk.cons (ti := ⟨_, _, _, _⟩) Try.underlying111 (by kernel_rfl) <|
  TabOk.cons (ti := ⟨_, _, _, _⟩) Try.underlying112 (by kernel_rfl) <|
  TabOk.cons (ti := ⟨_, _, _, _⟩) Try.underlying113 (by kernel_rfl) <|
  TabOk.cons (ti := ⟨_, _, _, _⟩) Try.underlying114 (by kernel_rfl) <|
  TabOk.cons (ti := ⟨_, _, _, _⟩) Try.underlying115 (by kernel_rfl) <|
  TabOk.cons (ti := ⟨_, _, _, _⟩) Try.underlying116 (by kernel_rfl) <|
  TabOk.cons (ti := ⟨_, _, _, _⟩) Try.underlying117 (by kernel_rfl) <|
  TabOk.cons (ti := ⟨_, _, _, _⟩) Try.underlying118 (by kernel_rfl) <|
  TabOk.cons (ti := ⟨_, _, _, _⟩) Try.underlying119 (by kernel_rfl) <|
  TabOk.cons (ti := ⟨_, _, _, _⟩) Try.underlying120 (by kernel_rfl) <|
  TabOk.cons (ti := ⟨_, _, _, _⟩) Try.underlying121 (by kernel_rfl) <|
  TabOk.cons (ti := ⟨_, _, _, _⟩) Try.underlying122 (by kernel_rfl) <|
  TabOk.cons (ti := ⟨_, _, _, _⟩) Try.underlying123 (by kernel_rfl) <|
  TabOk.cons (ti := ⟨_, _, _, _⟩) Try.underlying124 (by kernel_rfl) <|
  TabOk.nil _
end Go.Proofs.Ytoglbmhkfkghbaa
/- The frames of the functions, read off the translation by a program; each row is checked. -/
namespace Go.Proofs.Ytoglbmhkfkghbaa
open Go Go.Ab
noncomputable def frames : List (Nat × Frm) := [
  (3, { fn := Try.f3, n := 24, V := 1, cross := [2], ord := fun _ => ([], []) }),
  (4, { fn := Try.f4, n := 34, V := 7, cross := [9], ord := fun _ => ([], []) }),
  (5, { fn := Try.f5, n := 32, V := 1, cross := [2, 3, 4, 5, 6, 9], ord := fun _ => ([], []) }),
  (6, { fn := Try.f6, n := 63, V := 1, cross := [2, 3, 4, 5, 6, 7, 8, 9, 12, 34, 36], ord := fun _ => ([], []) }),
  (7, { fn := Try.f7, n := 39, V := 7, cross := [9, 17], ord := fun _ => ([], []) }),
  (8, { fn := Try.f8, n := 67, V := 4, cross := [6, 7, 8, 9, 10, 12, 15, 32], ord := fun _ => ([], []) }),
  (9, { fn := Try.f9, n := 59, V := 6, cross := [7], ord := fun _ => ([], []) }),
  (10, { fn := Try.f10, n := 31, V := 1, cross := [2, 3, 5, 6, 7, 8, 9, 10, 17, 18, 24], ord := fun _ => ([], []) }),
  (11, { fn := Try.f11, n := 34, V := 1, cross := [2, 3, 4, 5, 6, 10, 21, 29], ord := fun _ => ([], []) }),
  (12, { fn := Try.f12, n := 88, V := 7, cross := [28, 33, 42, 47, 57, 62, 72, 77, 87], ord := fun _ => ([], []) }),
  (13, { fn := Try.f13, n := 52, V := 8, cross := [11, 26, 47], ord := fun id => match id with | 10 => ([0, 1, 2, 3, 4, 5, 6, 7, 8, 9, 10, 11, 12, 13], [8, 9, 10, 13]) | _ => ([], []) }),
  (14, { fn := Try.f14, n := 18, V := 6, cross := [9, 16], ord := fun _ => ([], []) }),
  (15, { fn := Try.f15, n := 86, V := 1, cross := [2, 3, 4, 5, 6, 7, 8, 9, 10, 15, 20, 51, 63, 68, 71, 72, 73, 74], ord := fun id => match id with | 19 => ([0, 1, 2, 3, 4, 5, 6], [4, 6]) | _ => ([], []) }),
  (16, { fn := Try.f16, n := 90, V := 1, cross := [2, 3, 4, 5, 6, 7, 10, 14, 19, 58, 83, 87], ord := fun id => match id with | 8 => ([0, 1, 2, 3, 6, 7, 8, 9, 10, 14, 15, 16, 17, 18, 22, 23, 24, 25, 26, 4, 5, 11, 12, 13, 19, 20, 21, 27, 28, 29], [4, 11, 19, 27]) | 13 => ([0, 1, 2, 3, 4, 5, 6, 7, 8, 9, 10, 11, 12, 13, 14, 15, 16], []) | _ => ([], []) }),
  (17, { fn := Try.f17, n := 51, V := 6, cross := [12, 17, 31], ord := fun id => match id with | 6 => ([0, 1, 2, 3, 4, 5, 6, 7, 8, 9, 10, 11], [10]) | _ => ([], []) }),
  (18, { fn := Try.f18, n := 25, V := 1, cross := [2, 3, 4], ord := fun _ => ([], []) }),
  (19, { fn := Try.f19, n := 15, V := 3, cross := [4], ord := fun _ => ([], []) }),
  (20, { fn := Try.f20, n := 82, V := 4, cross := [5, 6, 7, 8, 10, 11, 12, 13, 41, 44, 63, 66, 69, 70, 71, 80], ord := fun _ => ([], []) }),
  (21, { fn := Try.f21, n := 169, V := 2, cross := [3, 5, 7, 9, 11, 13, 15, 17, 25, 26, 27, 28, 42, 43, 44, 45, 57, 58, 59, 60, 83, 84, 85, 86, 98, 99, 100, 101, 131, 132, 133, 134, 146, 147, 148, 149], ord := fun _ => ([], []) }),
  (22, { fn := Try.f22, n := 108, V := 10, cross := [14, 45, 50, 59, 78, 83, 92, 97, 107], ord := fun _ => ([], []) }),
  (23, { fn := Try.f23, n := 214, V := 15, cross := [23, 43, 63, 103, 123, 170, 190], ord := fun id => match id with | 15 => ([0, 1, 2, 3, 4, 5, 6, 7, 8, 9, 10, 11, 12, 13, 14, 15, 16, 17, 18, 19, 20, 21, 22, 23, 24, 25, 26, 27], [25, 26]) | 25 => ([0, 1, 2, 3, 4, 5, 6, 7, 8, 9, 10, 11, 12, 13, 14, 15, 16, 17, 18, 19, 20, 21, 22, 23, 24, 25, 26, 27], [25, 26]) | _ => ([], []) }),
  (24, { fn := Try.f24, n := 26, V := 2, cross := [4, 5, 10, 12, 13, 14, 24], ord := fun id => match id with | 6 => ([0, 1, 2, 3, 4, 5, 6, 7, 8], []) | _ => ([], []) }),
  (25, { fn := Try.f25, n := 9, V := 1, cross := [2, 3], ord := fun _ => ([], []) }),
  (26, { fn := Try.f26, n := 47, V := 6, cross := [32, 33, 34, 35], ord := fun id => match id with | 1 => ([0, 1, 2, 3, 4, 6, 7, 8, 10, 11, 12, 5, 9, 13, 14, 15, 16], [5, 9, 13, 15, 16]) | 7 => ([0, 1, 2, 3, 4, 5, 6], [4, 6]) | _ => ([], []) }),
  (27, { fn := Try.f27, n := 226, V := 1, cross := [2, 3, 4, 5, 6, 7, 8, 9, 10, 11, 12, 13, 14, 15, 16, 17, 18, 19, 20, 32, 52, 68, 109, 125, 172, 188], ord := fun id => match id with | 6 => ([0, 1, 2, 3, 4, 5, 6, 7], [3, 4, 5, 7]) | 17 => ([0, 1, 2, 3, 4, 5, 6, 7, 8, 9, 10, 11, 12, 13, 14, 15, 16, 17, 18], [15, 16, 18]) | 29 => ([0, 1, 2, 3, 4, 5, 6, 7, 8, 9, 10, 11, 12, 13, 14, 15, 16, 17, 18], [15, 16, 18]) | 43 => ([0, 1, 2, 3, 4, 5, 6, 7, 8, 9, 10, 11, 12, 13, 14, 15, 16, 17, 18, 19, 20, 21, 22, 23, 24], [21, 22, 24]) | _ => ([], []) }),
  (28, { fn := Try.f28, n := 55, V := 6, cross := [35, 40, 54], ord := fun id => match id with | 6 => ([0, 1, 2, 3, 4, 5, 6, 7, 8, 9, 10, 11], [10]) | _ => ([], []) }),
  (29, { fn := Try.f29, n := 71, V := 2, cross := [4, 5, 6, 11, 15, 43, 51, 70], ord := fun id => match id with | 6 => ([0, 1, 2, 3, 4, 5, 6, 7, 8, 9, 10, 11, 12, 13, 14, 15, 16, 17, 18, 19, 20, 21, 22, 23, 24, 25], []) | 11 => ([0, 1, 2, 3, 4, 5, 6, 7, 8, 9, 10, 11, 12, 13, 14, 15, 16], []) | _ => ([], []) }),
  (30, { fn := Try.f30, n := 97, V := 2, cross := [4, 5, 6, 11, 15, 69, 77, 96], ord := fun id => match id with | 6 => ([0, 1, 2, 3, 4, 5, 6, 7, 8, 9, 10, 11, 12, 13, 14, 15, 16, 17, 18, 19, 20, 21, 22, 23, 24, 25, 26, 27, 28, 29, 30, 31, 32, 33, 34, 35, 36, 37, 38, 39, 40, 41, 42, 43, 44, 45, 46, 47, 48, 49, 50, 51], []) | 11 => ([0, 1, 2, 3, 4, 5, 6, 7, 8, 9, 10, 11, 12, 13, 14, 15, 16], []) | _ => ([], []) }),
  (31, { fn := Try.f31, n := 71, V := 2, cross := [4, 5, 6, 11, 15, 43, 51, 70], ord := fun id => match id with | 6 => ([0, 1, 2, 3, 4, 5, 6, 7, 8, 9, 10, 11, 12, 13, 14, 15, 16, 17, 18, 19, 20, 21, 22, 23, 24, 25], []) | 11 => ([0, 1, 2, 3, 4, 5, 6, 7, 8, 9, 10, 11, 12, 13, 14, 15, 16], []) | _ => ([], []) }),
  (32, { fn := Try.f32, n := 28, V := 5, cross := [16], ord := fun _ => ([], []) }),
  (33, { fn := Try.f33, n := 9, V := 2, cross := [4], ord := fun _ => ([], []) }),
  (34, { fn := Try.f34, n := 6, V := 3, cross := [], ord := fun _ => ([], []) }),
  (35, { fn := Try.f35, n := 16, V := 7, cross := [], ord := fun _ => ([], []) }),
  (36, { fn := Try.f36, n := 9, V := 2, cross := [4], ord := fun _ => ([], []) }),
  (37, { fn := Try.f37, n := 6, V := 3, cross := [], ord := fun _ => ([], []) }),
  (38, { fn := Try.f38, n := 70, V := 6, cross := [32, 34, 35, 36, 37, 68], ord := fun _ => ([], []) }),
  (39, { fn := Try.f39, n := 139, V := 3, cross := [4, 5, 6, 7, 8, 9, 10, 11, 12, 13, 14, 15, 16, 17, 19, 45, 49, 50, 51, 52, 73, 108, 116, 117, 118, 119, 136], ord := fun _ => ([], []) }),
  (40, { fn := Try.f40, n := 48, V := 2, cross := [5, 6, 7, 8, 9, 10, 17, 21], ord := fun _ => ([], []) }),
  (41, { fn := Try.f41, n := 33, V := 2, cross := [3, 5, 23, 24, 25, 26], ord := fun _ => ([], []) }),
  (42, { fn := Try.f42, n := 11, V := 5, cross := [], ord := fun _ => ([], []) }),
  (43, { fn := Try.f43, n := 75, V := 5, cross := [31, 36, 74], ord := fun _ => ([], []) }),
  (44, { fn := Try.f44, n := 144, V := 3, cross := [4, 5, 6, 7, 8, 9, 10, 11, 12, 13, 42, 46, 114, 123, 142], ord := fun id => match id with | 10 => ([0, 1, 2, 3, 4, 5, 6, 7, 8, 9, 10, 11, 12, 13], [7, 8]) | _ => ([], []) }),
  (45, { fn := Try.f45, n := 29, V := 1, cross := [2, 3, 4, 9, 14], ord := fun _ => ([], []) }),
  (46, { fn := Try.f46, n := 37, V := 2, cross := [3, 4, 5, 26], ord := fun _ => ([], []) }),
  (47, { fn := Try.f47, n := 20, V := 2, cross := [4, 5, 9], ord := fun _ => ([], []) }),
  (48, { fn := Try.f48, n := 17, V := 3, cross := [4, 7, 14], ord := fun _ => ([], []) }),
  (49, { fn := Try.f49, n := 136, V := 1, cross := [2, 3, 4, 5, 6, 8, 9, 10, 20, 21, 22, 27, 28, 29, 53, 54, 55, 60, 61, 62, 92, 93, 94, 99, 100, 101], ord := fun id => match id with | 4 => ([0, 1, 2, 3, 4, 5, 6, 7], [3, 4, 5, 7]) | 11 => ([0, 1, 2, 4, 6, 8, 3, 5, 7, 9, 10, 11, 12, 13, 14], [3, 5, 7, 9, 11, 12, 14]) | 20 => ([0, 1, 2, 4, 6, 8, 3, 5, 7, 9, 10, 11, 12, 13, 14], [3, 5, 7, 9, 11, 12, 14]) | 30 => ([0, 1, 2, 4, 6, 8, 10, 12, 3, 5, 7, 9, 11, 13, 14, 15, 16, 17, 18], [3, 5, 7, 9, 11, 13, 15, 16, 18]) | _ => ([], []) }),
  (50, { fn := Try.f50, n := 31, V := 1, cross := [2, 3, 21, 29], ord := fun id => match id with | 2 => ([0, 1, 2, 3, 4, 5, 6, 7, 8, 9, 10, 11, 12, 13, 14, 15], []) | _ => ([], []) }),
  (51, { fn := Try.f51, n := 75, V := 2, cross := [4, 5, 6, 7, 33, 41, 48, 62], ord := fun id => match id with | 14 => ([0, 1, 2, 3, 4, 5, 6, 7, 8, 9], [5, 6, 7, 9]) | _ => ([], []) }),
  (52, { fn := Try.f52, n := 80, V := 1, cross := [2, 3, 4, 5, 6, 14, 26, 49, 60, 66, 72], ord := fun id => match id with | 5 => ([0, 1, 2, 3, 4, 5, 6, 7, 8, 9], []) | 6 => ([0, 1, 2, 3, 4, 5, 6, 7, 8, 9, 10], []) | _ => ([], []) }),
  (53, { fn := Try.f53, n := 25, V := 2, cross := [4, 5, 6, 16], ord := fun _ => ([], []) }),
  (54, { fn := Try.f54, n := 26, V := 2, cross := [4, 5, 10, 14, 25], ord := fun id => match id with | 6 => ([0, 1, 2, 3, 4, 5, 6, 7, 8], []) | _ => ([], []) }),
  (55, { fn := Try.f55, n := 19, V := 2, cross := [4, 5, 7, 8, 9, 16], ord := fun _ => ([], []) }),
  (56, { fn := Try.f56, n := 87, V := 7, cross := [8, 9, 10, 12, 13, 14, 15, 19, 22, 23, 24, 25, 45, 55, 56, 57, 58, 69, 84], ord := fun id => match id with | 10 => ([0, 1, 2, 3, 4, 5, 6, 7, 8], []) | _ => ([], []) }),
  (57, { fn := Try.f57, n := 44, V := 5, cross := [12, 13, 16, 20, 25, 29, 34], ord := fun id => match id with | 1 => ([0, 1, 2, 3, 4, 5, 6, 7], []) | _ => ([], []) }),
  (58, { fn := Try.f58, n := 9, V := 1, cross := [2], ord := fun _ => ([], []) }),
  (59, { fn := Try.f59, n := 17, V := 1, cross := [2], ord := fun _ => ([], []) }),
  (60, { fn := Try.f60, n := 19, V := 2, cross := [4, 5, 7, 8, 9, 16], ord := fun _ => ([], []) }),
  (61, { fn := Try.f61, n := 15, V := 3, cross := [6], ord := fun _ => ([], []) }),
  (62, { fn := Try.f62, n := 5, V := 1, cross := [2], ord := fun _ => ([], []) }),
  (63, { fn := Try.f63, n := 151, V := 4, cross := [5, 6, 7, 8, 10, 11, 22, 33, 40, 45, 55, 68, 78, 84, 90, 96, 106, 120, 128], ord := fun id => match id with | 16 => ([0, 1, 2, 3, 4, 5, 6, 7, 8, 9, 10, 11], [9, 11]) | 18 => ([0, 1, 2, 4, 5, 3, 6, 7, 8], [3, 6, 8]) | 28 => ([0, 1, 2, 3, 4, 5, 6, 7, 8, 9, 10, 11, 12], [10, 12]) | _ => ([], []) }),
  (64, { fn := Try.f64, n := 56, V := 2, cross := [3, 4, 5, 6, 17, 20, 21, 22, 43], ord := fun id => match id with | 6 => ([0, 1, 2, 3, 4, 5, 6, 7, 8, 9, 10, 11, 12, 13, 14, 15, 16, 17, 18, 19], []) | 9 => ([0, 1, 2, 3, 4, 5, 6, 7, 8, 9, 10, 11, 12], [10]) | _ => ([], []) }),
  (65, { fn := Try.f65, n := 107, V := 11, cross := [18, 23, 30, 43, 48, 76, 81, 94, 105], ord := fun id => match id with | 9 => ([0, 2, 3, 1, 4, 5, 6, 7, 8, 9], [1, 4]) | _ => ([], []) }),
  (66, { fn := Try.f66, n := 15, V := 3, cross := [6], ord := fun _ => ([], []) }),
  (67, { fn := Try.f67, n := 5, V := 1, cross := [2], ord := fun _ => ([], []) }),
  (68, { fn := Try.f68, n := 55, V := 2, cross := [3, 4, 5, 6, 17, 22, 43], ord := fun id => match id with | 6 => ([0, 1, 2, 3, 4, 5, 6, 7, 8, 9, 10, 11, 12, 13, 14, 15, 16, 17, 18], []) | 8 => ([0, 1, 2, 3, 4, 5, 6, 7, 8, 9, 10, 11, 12], []) | _ => ([], []) }),
  (69, { fn := Try.f69, n := 242, V := 4, cross := [5, 6, 8, 9, 24, 35, 46, 64, 74, 80, 91, 102, 113, 128, 139, 153, 167, 177, 183, 202, 227], ord := fun id => match id with | 9 => ([0, 1, 2, 3, 4, 5, 6, 7, 8, 9, 10, 11, 12, 13, 14, 15, 16], [13, 16]) | 33 => ([0, 1, 2, 3, 4, 5, 6, 7, 8, 9, 10, 11, 12, 13, 14, 15, 16, 17], [14, 17]) | _ => ([], []) }),
  (70, { fn := Try.f70, n := 19, V := 1, cross := [2, 3], ord := fun _ => ([], []) }),
  (71, { fn := Try.f71, n := 63, V := 2, cross := [4, 5, 22, 23, 24, 39, 40, 41, 44], ord := fun id => match id with | 6 => ([0, 1, 2, 3, 4, 5, 6, 7], [3, 4, 5, 7]) | 12 => ([0, 1, 2, 3, 4, 5, 6, 7, 8, 9], [5, 6, 7, 9]) | 13 => ([0, 1, 2, 3, 4, 5, 6, 7], [3, 4, 5, 7]) | _ => ([], []) }),
  (72, { fn := Try.f72, n := 67, V := 1, cross := [2, 3, 4, 5, 49, 59], ord := fun _ => ([], []) }),
  (73, { fn := Try.f73, n := 6, V := 1, cross := [3], ord := fun _ => ([], []) }),
  (74, { fn := Try.f74, n := 39, V := 1, cross := [2, 3, 4, 7, 11, 25, 30, 38], ord := fun _ => ([], []) }),
  (75, { fn := Try.f75, n := 10, V := 1, cross := [2, 5], ord := fun _ => ([], []) }),
  (76, { fn := Try.f76, n := 9, V := 2, cross := [4], ord := fun _ => ([], []) }),
  (77, { fn := Try.f77, n := 5, V := 1, cross := [2], ord := fun _ => ([], []) }),
  (78, { fn := Try.f78, n := 31, V := 1, cross := [2, 3, 5, 8, 9, 10, 11, 12, 15, 22, 29], ord := fun _ => ([], []) }),
  (79, { fn := Try.f79, n := 8, V := 1, cross := [2, 5], ord := fun _ => ([], []) }),
  (80, { fn := Try.f80, n := 55, V := 4, cross := [7, 8, 22, 37, 38, 46], ord := fun id => match id with | 6 => ([0, 1, 2, 4, 5, 3, 6, 7, 8, 9, 10, 11, 12, 13], [3, 6, 13]) | _ => ([], []) }),
  (81, { fn := Try.f81, n := 9, V := 2, cross := [4], ord := fun _ => ([], []) }),
  (82, { fn := Try.f82, n := 73, V := 3, cross := [4, 5, 15, 16, 18, 20, 22, 25, 27, 29, 31, 33, 35, 37, 39, 67], ord := fun _ => ([], []) }),
  (83, { fn := Try.f83, n := 21, V := 1, cross := [2, 3, 6, 10, 17, 20], ord := fun _ => ([], []) }),
  (84, { fn := Try.f84, n := 16, V := 3, cross := [4, 5, 11], ord := fun _ => ([], []) }),
  (85, { fn := Try.f85, n := 17, V := 1, cross := [2, 3, 7, 14], ord := fun _ => ([], []) }),
  (86, { fn := Try.f86, n := 9, V := 1, cross := [2], ord := fun _ => ([], []) }),
  (87, { fn := Try.f87, n := 17, V := 1, cross := [2], ord := fun _ => ([], []) }),
  (88, { fn := Try.f88, n := 33, V := 5, cross := [20], ord := fun _ => ([], []) }),
  (89, { fn := Try.f89, n := 16, V := 2, cross := [4, 5, 6, 9], ord := fun _ => ([], []) }),
  (90, { fn := Try.f90, n := 71, V := 3, cross := [4, 5, 15, 16, 20, 29, 39, 43, 47, 51, 55, 59, 63, 65], ord := fun _ => ([], []) }),
  (91, { fn := Try.f91, n := 27, V := 3, cross := [6, 7, 8, 12, 19], ord := fun _ => ([], []) }),
  (92, { fn := Try.f92, n := 19, V := 2, cross := [4, 5, 7, 8, 9, 16], ord := fun _ => ([], []) }),
  (93, { fn := Try.f93, n := 19, V := 1, cross := [2, 3, 5, 7, 8, 9, 10, 11], ord := fun _ => ([], []) }),
  (94, { fn := Try.f94, n := 125, V := 2, cross := [4, 5, 6, 7, 8, 9, 10, 11, 12, 14, 18, 34, 40, 42, 43, 49, 58, 67, 76, 85, 96, 104, 113], ord := fun _ => ([], []) }),
  (95, { fn := Try.f95, n := 30, V := 1, cross := [2, 3, 4, 8, 15, 20, 28], ord := fun _ => ([], []) }),
  (96, { fn := Try.f96, n := 9, V := 2, cross := [4], ord := fun _ => ([], []) }),
  (97, { fn := Try.f97, n := 30, V := 2, cross := [4, 5, 6, 7, 8, 9], ord := fun _ => ([], []) }),
  (98, { fn := Try.f98, n := 8, V := 2, cross := [4], ord := fun _ => ([], []) }),
  (99, { fn := Try.f99, n := 25, V := 2, cross := [7, 21], ord := fun id => match id with | 3 => ([0, 1, 2, 3, 5, 6, 7, 8, 9, 11, 4, 10, 12], [4]) | _ => ([], []) }),
  (100, { fn := Try.f100, n := 19, V := 2, cross := [4, 5], ord := fun _ => ([], []) }),
  (101, { fn := Try.f101, n := 8, V := 1, cross := [2], ord := fun _ => ([], []) }),
  (102, { fn := Try.f102, n := 14, V := 1, cross := [2], ord := fun id => match id with | 1 => ([0, 1, 2, 3, 5, 6, 7, 8, 9, 4, 10, 11], [4, 10]) | _ => ([], []) }),
  (103, { fn := Try.f103, n := 19, V := 2, cross := [4, 5, 7, 8, 9, 16], ord := fun _ => ([], []) }),
  (104, { fn := Try.f104, n := 17, V := 2, cross := [4, 5, 6], ord := fun _ => ([], []) }),
  (105, { fn := Try.f105, n := 51, V := 2, cross := [4, 5, 6, 7, 8, 9, 10, 11, 12, 13], ord := fun _ => ([], []) }),
  (106, { fn := Try.f106, n := 18, V := 2, cross := [4], ord := fun _ => ([], []) }),
  (107, { fn := Try.f107, n := 20, V := 1, cross := [6, 19], ord := fun _ => ([], []) }),
  (108, { fn := Try.f108, n := 30, V := 2, cross := [4], ord := fun id => match id with | 0 => ([0, 1, 2, 3, 6, 9, 10, 11, 12, 13, 4, 5, 7, 8, 14, 15], [4, 8]) | _ => ([], []) })]
abbrev eqs : List Nat := [45, 88, 91, 96, 112, 122]
theorem eqs_ok : ∀ t, eqs.contains t = true → Try.prog.eqGuardType Try.prog.depth t = false ∧ Try.prog.stoodInHeld t = false := by
  intro t h
  simp only [eqs, List.contains_eq_mem, List.mem_cons, List.not_mem_nil, or_false, decide_eq_true_eq] at h
  rcases h with rfl | rfl | rfl | rfl | rfl | rfl
  · exact ⟨Try.eqGuardType45, Try.stoodInHeld45⟩
  · exact ⟨Try.eqGuardType88, Try.stoodInHeld88⟩
  · exact ⟨Try.eqGuardType91, Try.stoodInHeld91⟩
  · exact ⟨Try.eqGuardType96, Try.stoodInHeld96⟩
  · exact ⟨Try.eqGuardType112, Try.stoodInHeld112⟩
  · exact ⟨Try.eqGuardType122, Try.stoodInHeld122⟩
theorem frames_ok : FrmOk Try.prog (frmGet frames) :=
  FrmOk.cons Try.func3 rfl (by decide) <|
  FrmOk.cons Try.func4 rfl (by decide) <|
  FrmOk.cons Try.func5 rfl (by decide) <|
  FrmOk.cons Try.func6 rfl (by decide) <|
  FrmOk.cons Try.func7 rfl (by decide) <|
  FrmOk.cons Try.func8 rfl (by decide) <|
  FrmOk.cons Try.func9 rfl (by decide) <|
  FrmOk.cons Try.func10 rfl (by decide) <|
  FrmOk.cons Try.func11 rfl (by decide) <|
  FrmOk.cons Try.func12 rfl (by decide) <|
  FrmOk.cons Try.func13 rfl (by decide) <|
  FrmOk.cons Try.func14 rfl (by decide) <|
  FrmOk.cons Try.func15 rfl (by decide) <|
  FrmOk.cons Try.func16 rfl (by decide) <|
  FrmOk.cons Try.func17 rfl (by decide) <|
  FrmOk.cons Try.func18 rfl (by decide) <|
  FrmOk.cons Try.func19 rfl (by decide) <|
  FrmOk.cons Try.func20 rfl (by decide) <|
  FrmOk.cons Try.func21 rfl (by decide) <|
  FrmOk.cons Try.func22 rfl (by decide) <|
  FrmOk.cons Try.func23 rfl (by decide) <|
  FrmOk.cons Try.func24 rfl (by decide) <|
  FrmOk.cons Try.func25 rfl (by decide) <|
  FrmOk.cons Try.func26 rfl (by decide) <|
  FrmOk.cons Try.func27 rfl (by decide) <|
  FrmOk.cons Try.func28 rfl (by decide) <|
  FrmOk.cons Try.func29 rfl (by decide) <|
  FrmOk.cons Try.func30 rfl (by decide) <|
  FrmOk.cons Try.func31 rfl (by decide) <|
  FrmOk.cons Try.func32 rfl (by decide) <|
  FrmOk.cons Try.func33 rfl (by decide) <|
  FrmOk.cons Try.func34 rfl (by decide) <|
  FrmOk.cons Try.func35 rfl (by decide) <|
  FrmOk.cons Try.func36 rfl (by decide) <|
  FrmOk.cons Try.func37 rfl (by decide) <|
  FrmOk.cons Try.func38 rfl (by decide) <|
  FrmOk.cons Try.func39 rfl (by decide) <|
  FrmOk.cons Try.func40 rfl (by decide) <|
  FrmOk.cons Try.func41 rfl (by decide) <|
  FrmOk.cons Try.func42 rfl (by decide) <|
  FrmOk.cons Try.func43 rfl (by decide) <|
  FrmOk.cons Try.func44 rfl (by decide) <|
  FrmOk.cons Try.func45 rfl (by decide) <|
  FrmOk.cons Try.func46 rfl (by decide) <|
  FrmOk.cons Try.func47 rfl (by decide) <|
  FrmOk.cons Try.func48 rfl (by decide) <|
  FrmOk.cons Try.func49 rfl (by decide) <|
  FrmOk.cons Try.func50 rfl (by decide) <|
  FrmOk.cons Try.func51 rfl (by decide) <|
  FrmOk.cons Try.func52 rfl (by decide) <|
  FrmOk.cons Try.func53 rfl (by decide) <|
  FrmOk.cons Try.func54 rfl (by decide) <|
  FrmOk.cons Try.func55 rfl (by decide) <|
  FrmOk.cons Try.func56 rfl (by decide) <|
  FrmOk.cons Try.func57 rfl (by decide) <|
  FrmOk.cons Try.func58 rfl (by decide) <|
  FrmOk.cons Try.func59 rfl (by decide) <|
  FrmOk.cons Try.func60 rfl (by decide) <|
  FrmOk.cons Try.func61 rfl (by decide) <|
  FrmOk.cons Try.func62 rfl (by decide) <|
  FrmOk.cons Try.func63 rfl (by decide) <|
  FrmOk.cons Try.func64 rfl (by decide) <|
  FrmOk.cons Try.func65 rfl (by decide) <|
  FrmOk.cons Try.func66 rfl (by decide) <|
  FrmOk.cons Try.func67 rfl (by decide) <|
  FrmOk.cons Try.func68 rfl (by decide) <|
  FrmOk.cons Try.func69 rfl (by decide) <|
  FrmOk.cons Try.func70 rfl (by decide) <|
  FrmOk.cons Try.func71 rfl (by decide) <|
  FrmOk.cons Try.func72 rfl (by decide) <|
  FrmOk.cons Try.func73 rfl (by decide) <|
  FrmOk.cons Try.func74 rfl (by decide) <|
  FrmOk.cons Try.func75 rfl (by decide) <|
  FrmOk.cons Try.func76 rfl (by decide) <|
  FrmOk.cons Try.func77 rfl (by decide) <|
  FrmOk.cons Try.func78 rfl (by decide) <|
  FrmOk.cons Try.func79 rfl (by decide) <|
  FrmOk.cons Try.func80 rfl (by decide) <|
  FrmOk.cons Try.func81 rfl (by decide) <|
  FrmOk.cons Try.func82 rfl (by decide) <|
  FrmOk.cons Try.func83 rfl (by decide) <|
  FrmOk.cons Try.func84 rfl (by decide) <|
  FrmOk.cons Try.func85 rfl (by decide) <|
  FrmOk.cons Try.func86 rfl (by decide) <|
  FrmOk.cons Try.func87 rfl (by decide) <|
  FrmOk.cons Try.func88 rfl (by decide) <|
  FrmOk.cons Try.func89 rfl (by decide) <|
  FrmOk.cons Try.func90 rfl (by decide) <|
  FrmOk.cons Try.func91 rfl (by decide) <|
  FrmOk.cons Try.func92 rfl (by decide) <|
  FrmOk.cons Try.func93 rfl (by decide) <|
  FrmOk.cons Try.func94 rfl (by decide) <|
  FrmOk.cons Try.func95 rfl (by decide) <|
  FrmOk.cons Try.func96 rfl (by decide) <|
  FrmOk.cons Try.func97 rfl (by decide) <|
  FrmOk.cons Try.func98 rfl (by decide) <|
  FrmOk.cons Try.func99 rfl (by decide) <|
  FrmOk.cons Try.func100 rfl (by decide) <|
  FrmOk.cons Try.func101 rfl (by decide) <|
  FrmOk.cons Try.func102 rfl (by decide) <|
  FrmOk.cons Try.func103 rfl (by decide) <|
  FrmOk.cons Try.func104 rfl (by decide) <|
  FrmOk.cons Try.func105 rfl (by decide) <|
  FrmOk.cons Try.func106 rfl (by decide) <|
  FrmOk.cons Try.func107 rfl (by decide) <|
  FrmOk.cons Try.func108 rfl (by decide) <|
  FrmOk.nil _
end Go.Proofs.Ytoglbmhkfkghbaa
/-
  DERIVED: THE SHELF's CONTRACTS AT THIS DUMP, IN PLAIN WORDS (tools/lay-plain.mjs out of 'TryShelf.lean', which tools/lay-shelf.mjs wrote): THE SAME DECLARATIONS UNDER THE SAME NAMES: 'import', 'namespace', 'open', 'def', 'theorem' AND NOTHING ELSE: no command of the shelf's: FOR A HAND-IN. Each laying: the table of numbers ('.._ren') and one theorem, a field a fact of the dump's own or the kernel's comparison; each contract: ONE APPLICATION.
-/
namespace Go.Proofs
open Go.Shelf
def Try.lays170_ren : Go.Shelf.Ren := ⟨fun | 170 => 101 | n => n, fun | 70 => 140 | 3 => 3 | 0 => 0 | 72 => 142 | 37 => 22 | 5 => 5 | n => n, fun | n => n⟩
theorem Try.lays170 : Go.Proofs.Lays.n170 Try.prog Try.lays170_ren := {
  mixed := by kernel_rfl
  f170 := Try.func101.trans (congrArg some (by kernel_rfl))
  t0 := Try.underlying0
  a0 := Try.isAgg0
  z0 := Try.sizeOf0
  v0 := Try.zeroValue0
  t3 := Try.underlying3
  a3 := Try.isAgg3
  z3 := Try.sizeOf3
  v3 := Try.zeroValue3
  t37 := Try.underlying22
  a37 := Try.isAgg22
  z37 := Try.sizeOf22
  v37 := Try.zeroValue22
  t70 := Try.underlying140
  a70 := Try.isAgg140
  z70 := Try.sizeOf140
  v70 := Try.zeroValue140
  t72 := Try.underlying142
  a72 := Try.isAgg142
  z72 := Try.sizeOf142
  v72 := Try.zeroValue142 }
open Go.RowKit in
/-- (*strings.Builder).Len: "Len returns the number of accumulated bytes; b.Len() == len(b.String()).": the world is as it was. (LAID: no walk: one application.) -/
theorem Try.Builder_Len (B b : Nat) (bs : List Value) (w : World) (h : Lib.IsBuilder 142 5 B b bs w) :
    Calls Try.prog 101 #[.pointer (some ⟨b, 0, none⟩)] w fun e w' => e = .returned (.int .i64 bs.length) ∧ w' = w := Any.Builder_Len Try.lays170 B b bs w h
def Try.lays169_ren : Go.Shelf.Ren := ⟨fun | 169 => 102 | n => n, fun | 70 => 140 | 9 => 9 | 0 => 0 | 72 => 142 | 37 => 22 | 127 => 154 | 3 => 3 | 5 => 5 | n => n, fun | n => n⟩
theorem Try.lays169 : Go.Proofs.Lays.n169 Try.prog Try.lays169_ren := {
  mixed := by kernel_rfl
  f169 := Try.func102.trans (congrArg some (by kernel_rfl))
  t0 := Try.underlying0
  a0 := Try.isAgg0
  z0 := Try.sizeOf0
  v0 := Try.zeroValue0
  t3 := Try.underlying3
  a3 := Try.isAgg3
  z3 := Try.sizeOf3
  v3 := Try.zeroValue3
  t9 := Try.underlying9
  a9 := Try.isAgg9
  z9 := Try.sizeOf9
  v9 := Try.zeroValue9
  t37 := Try.underlying22
  a37 := Try.isAgg22
  z37 := Try.sizeOf22
  v37 := Try.zeroValue22
  t70 := Try.underlying140
  a70 := Try.isAgg140
  z70 := Try.sizeOf140
  v70 := Try.zeroValue140
  t72 := Try.underlying142
  a72 := Try.isAgg142
  z72 := Try.sizeOf142
  v72 := Try.zeroValue142
  t127 := Try.underlying154
  a127 := Try.isAgg154
  z127 := Try.sizeOf154
  v127 := Try.zeroValue154 }
theorem Try.Builder_Extra_169 : Builder.Extra Try.prog Try.lays169_ren := {
  sizeBuilder := by kernel_rfl
  liesBuilder := by kernel_rfl
  t5 := Try.underlying5
  a5 := Try.isAgg5
  z5 := Try.sizeOf5
  v5 := Try.zeroValue5
  infoByte := by kernel_rfl
  cellsByte := by kernel_rfl
  sizeByte := by kernel_rfl
  neB5 := by decide }
open Go.RowKit in
/-- (*strings.Builder).String: "String returns the accumulated string.": OF A BUILDER THAT HOLDS AT LEAST ONE BYTE. ✋ THE MODEL FREEZES THOSE BYTES IN THE BUFFER (unsafe.String): a later write INTO them ends the model's run without an answer; a later append BEHIND them goes on. The statement's order of evaluation is drawn: one draw. (LAID: no walk: one application.) -/
theorem Try.Builder_String (B b : Nat) (l : List UInt8) (w : World) (h : Lib.IsBuilder 142 5 B b (Lib.byteCells l) w) (h0 : l ≠ []) :
    Calls Try.prog 102 #[.pointer (some ⟨b, 0, none⟩)] w fun e w' => e = .returned (.string ⟨l.toArray⟩) ∧ Below B w w' := Any.Builder_String Try.lays169 Try.Builder_Extra_169 B b l w h h0
open Go.RowKit in
/-- (*strings.Builder).String OF A BUILDER THAT HOLDS NO BYTE: the empty string. (Its buffer is nil, or a row of which it has taken nothing yet; where that row has NO capacity the model lays one new block for unsafe.SliceData's 'some address'.) One draw. (LAID: no walk: one application.) -/
theorem Try.Builder_String_empty (B b : Nat) (w : World) (h : Lib.IsBuilder 142 5 B b [] w) (hBw : B ≤ w.heap.size) :
    Calls Try.prog 102 #[.pointer (some ⟨b, 0, none⟩)] w fun e w' => e = .returned (.string ⟨#[]⟩) ∧ Below B w w' := Any.Builder_String_empty Try.lays169 Try.Builder_Extra_169 B b w h hBw
open Go.RowKit in
/-- (*strings.Builder).String: "String returns the accumulated string.": WHATEVER THE BUILDER HOLDS. (LAID: no walk: one application.) -/
theorem Try.Builder_String_any (B b : Nat) (l : List UInt8) (w : World) (h : Lib.IsBuilder 142 5 B b (Lib.byteCells l) w) (hBw : B ≤ w.heap.size) :
    Calls Try.prog 102 #[.pointer (some ⟨b, 0, none⟩)] w fun e w' => e = .returned (.string ⟨l.toArray⟩) ∧ Below B w w' := Any.Builder_String_any Try.lays169 Try.Builder_Extra_169 B b l w h hBw
def Try.lays241_ren : Go.Shelf.Ren := ⟨fun | 241 => 108 | 277 => 110 | n => n, fun | 70 => 140 | 3 => 3 | 0 => 0 | 72 => 142 | 37 => 22 | 5 => 5 | n => n, fun | n => n⟩
theorem Try.lays241 : Go.Proofs.Lays.n241 Try.prog Try.lays241_ren := {
  mixed := by kernel_rfl
  f241 := Try.func108.trans (congrArg some (by kernel_rfl))
  f277 := Try.func110.trans (congrArg some (by kernel_rfl))
  t0 := Try.underlying0
  a0 := Try.isAgg0
  z0 := Try.sizeOf0
  v0 := Try.zeroValue0
  t3 := Try.underlying3
  a3 := Try.isAgg3
  z3 := Try.sizeOf3
  v3 := Try.zeroValue3
  t37 := Try.underlying22
  a37 := Try.isAgg22
  z37 := Try.sizeOf22
  v37 := Try.zeroValue22
  t70 := Try.underlying140
  a70 := Try.isAgg140
  z70 := Try.sizeOf140
  v70 := Try.zeroValue140
  t72 := Try.underlying142
  a72 := Try.isAgg142
  z72 := Try.sizeOf142
  v72 := Try.zeroValue142 }
theorem Try.Builder_Extra_241 : Builder.Extra Try.prog Try.lays241_ren := {
  sizeBuilder := by kernel_rfl
  liesBuilder := by kernel_rfl
  t5 := Try.underlying5
  a5 := Try.isAgg5
  z5 := Try.sizeOf5
  v5 := Try.zeroValue5
  infoByte := by kernel_rfl
  cellsByte := by kernel_rfl
  sizeByte := by kernel_rfl
  neB5 := by decide }
open Go.RowKit in
/-- (*strings.Builder).grow (no doc but "grow copies the buffer to a new, larger buffer so that there are at least n bytes of capacity beyond len(b.buf)."): AT A BUILDER WITHOUT A BUFFER: a new row of whatever bytes for its buffer, none of them its own yet. Three draws. (LAID: no walk: one application.) -/
theorem Try.Builder_grow_fresh (B b n : Nat) (w : World) (hB : B ≤ b) (hbk : w.heap[b]? = some (.cells #[.pointer (some ⟨b, 0, none⟩), .slice none 0 0] 142 (0, 0))) (hBw : B ≤ w.heap.size) (hn : n ≤ 281474976710656) :
    Calls Try.prog 108 #[.pointer (some ⟨b, 0, none⟩), .int .i64 n] w fun e w' => e = .returned (.tuple #[]) ∧ (Lib.BuilderAt 142 5 B b (.pointer (some ⟨b, 0, none⟩)) [] w' ∧ Below B w w') := Any.Builder_grow_fresh Try.lays241 Try.Builder_Extra_241 B b n w hB hbk hBw hn
def Try.lays165_ren : Go.Shelf.Ren := ⟨fun | 165 => 99 | 240 => 107 | 241 => 108 | 276 => 109 | 277 => 110 | n => n, fun | 70 => 140 | 3 => 3 | 0 => 0 | 4 => 4 | 9 => 9 | 20 => 20 | 72 => 142 | 37 => 22 | 164 => 155 | 5 => 5 | n => n, fun | n => n⟩
theorem Try.lays165 : Go.Proofs.Lays.n165 Try.prog Try.lays165_ren := {
  mixed := by kernel_rfl
  f165 := Try.func99.trans (congrArg some (by kernel_rfl))
  f240 := Try.func107.trans (congrArg some (by kernel_rfl))
  f241 := Try.func108.trans (congrArg some (by kernel_rfl))
  f276 := Try.func109.trans (congrArg some (by kernel_rfl))
  f277 := Try.func110.trans (congrArg some (by kernel_rfl))
  t0 := Try.underlying0
  a0 := Try.isAgg0
  z0 := Try.sizeOf0
  v0 := Try.zeroValue0
  t3 := Try.underlying3
  a3 := Try.isAgg3
  z3 := Try.sizeOf3
  v3 := Try.zeroValue3
  t4 := Try.underlying4
  a4 := Try.isAgg4
  z4 := Try.sizeOf4
  v4 := Try.zeroValue4
  t9 := Try.underlying9
  a9 := Try.isAgg9
  z9 := Try.sizeOf9
  v9 := Try.zeroValue9
  t20 := Try.underlying20
  a20 := Try.isAgg20
  z20 := Try.sizeOf20
  v20 := Try.zeroValue20
  t37 := Try.underlying22
  a37 := Try.isAgg22
  z37 := Try.sizeOf22
  v37 := Try.zeroValue22
  t70 := Try.underlying140
  a70 := Try.isAgg140
  z70 := Try.sizeOf140
  v70 := Try.zeroValue140
  t72 := Try.underlying142
  a72 := Try.isAgg142
  z72 := Try.sizeOf142
  v72 := Try.zeroValue142
  t164 := Try.underlying155
  a164 := Try.isAgg155
  z164 := Try.sizeOf155
  v164 := Try.zeroValue155 }
theorem Try.Builder_Extra_165 : Builder.Extra Try.prog Try.lays165_ren := {
  sizeBuilder := by kernel_rfl
  liesBuilder := by kernel_rfl
  t5 := Try.underlying5
  a5 := Try.isAgg5
  z5 := Try.sizeOf5
  v5 := Try.zeroValue5
  infoByte := by kernel_rfl
  cellsByte := by kernel_rfl
  sizeByte := by kernel_rfl
  neB5 := by decide }
open Go.RowKit in
/-- (*strings.Builder).Grow AT A BUILDER THAT HAS NOT BEEN WRITTEN ('var b strings.Builder; b.Grow(n)'): "Grow grows b's capacity, if necessary, to guarantee space for another n bytes.": it holds no byte behind it as before it. (LAID: no walk: one application.) -/
theorem Try.Builder_Grow_fresh (B b n : Nat) (w : World) (hB : B ≤ b) (hbk : w.heap[b]? = some (.cells #[.pointer none, .slice none 0 0] 142 (0, 0))) (hBw : B ≤ w.heap.size) (hn : n ≤ 281474976710656) :
    Calls Try.prog 99 #[.pointer (some ⟨b, 0, none⟩), .int .i64 n] w fun e w' => e = .returned (.tuple #[]) ∧ (Lib.BuilderAt 142 5 B b (.pointer (some ⟨b, 0, none⟩)) [] w' ∧ Below B w w') := Any.Builder_Grow_fresh Try.lays165 Try.Builder_Extra_165 B b n w hB hbk hBw hn
open Go.RowKit in
/-- (*strings.Builder).Len: "Len returns the number of accumulated bytes; b.Len() == len(b.String()).": the world is as it was. (THE FORM '_f': 'Lib.IsBuilderF'.) (LAID: no walk: one application.) -/
theorem Try.Builder_Len_f (B b : Nat) (bs : List Value) (w : World) (h : Lib.IsBuilderF 142 5 B b bs w) :
    Calls Try.prog 101 #[.pointer (some ⟨b, 0, none⟩)] w fun e w' => e = .returned (.int .i64 bs.length) ∧ w' = w := Any.Builder_Len_f Try.lays170 B b bs w h
open Go.RowKit in
/-- (*strings.Builder).String: "String returns the accumulated string.": OF A BUILDER THAT HOLDS AT LEAST ONE BYTE. ✋ THE MODEL FREEZES THOSE BYTES IN THE BUFFER (unsafe.String): a later write INTO them ends the model's run without an answer; a later append BEHIND them goes on. The statement's order of evaluation is drawn: one draw. THE FORM '_f': IT SAYS BESIDES THAT THE BUILDER IS A BUILDER STILL ('Lib.IsBuilderF', the same bytes): SO IT CAN BE WRITTEN ON: 'b.WriteString(b.String()[:k])'. (LAID: no walk: one application.) -/
theorem Try.Builder_String_f (B b : Nat) (l : List UInt8) (w : World) (h : Lib.IsBuilderF 142 5 B b (Lib.byteCells l) w) (h0 : l ≠ []) :
    Calls Try.prog 102 #[.pointer (some ⟨b, 0, none⟩)] w fun e w' => e = .returned (.string ⟨l.toArray⟩) ∧ (Lib.IsBuilderF 142 5 B b (Lib.byteCells l) w' ∧ Below B w w') := Any.Builder_String_f Try.lays169 Try.Builder_Extra_169 B b l w h h0
open Go.RowKit in
/-- (*strings.Builder).String OF A BUILDER THAT HOLDS NO BYTE: the empty string; THE FORM '_f': a builder still. (LAID: no walk: one application.) -/
theorem Try.Builder_String_empty_f (B b : Nat) (w : World) (h : Lib.IsBuilderF 142 5 B b [] w) (hBw : B ≤ w.heap.size) :
    Calls Try.prog 102 #[.pointer (some ⟨b, 0, none⟩)] w fun e w' => e = .returned (.string ⟨#[]⟩) ∧ (Lib.IsBuilderF 142 5 B b [] w' ∧ Below B w w') := Any.Builder_String_empty_f Try.lays169 Try.Builder_Extra_169 B b w h hBw
open Go.RowKit in
/-- (*strings.Builder).String: "String returns the accumulated string.": WHATEVER THE BUILDER HOLDS; THE FORM '_f': OF A BUILDER THAT MAY HAVE BEEN READ BEFORE; AND IT IS A BUILDER STILL, holding the same bytes: it can be written on. (LAID: no walk: one application.) -/
theorem Try.Builder_String_any_f (B b : Nat) (l : List UInt8) (w : World) (h : Lib.IsBuilderF 142 5 B b (Lib.byteCells l) w) (hBw : B ≤ w.heap.size) :
    Calls Try.prog 102 #[.pointer (some ⟨b, 0, none⟩)] w fun e w' => e = .returned (.string ⟨l.toArray⟩) ∧ (Lib.IsBuilderF 142 5 B b (Lib.byteCells l) w' ∧ Below B w w') := Any.Builder_String_any_f Try.lays169 Try.Builder_Extra_169 B b l w h hBw
def Try.lays206_ren : Go.Shelf.Ren := ⟨fun | 206 => 106 | n => n, fun | 9 => 9 | 4 => 4 | 3 => 3 | n => n, fun | n => n⟩
theorem Try.lays206 : Go.Proofs.Lays.n206 Try.prog Try.lays206_ren := {
  mixed := by kernel_rfl
  f206 := Try.func106.trans (congrArg some (by kernel_rfl))
  t3 := Try.underlying3
  a3 := Try.isAgg3
  z3 := Try.sizeOf3
  v3 := Try.zeroValue3
  t4 := Try.underlying4
  a4 := Try.isAgg4
  z4 := Try.sizeOf4
  v4 := Try.zeroValue4
  t9 := Try.underlying9
  a9 := Try.isAgg9
  z9 := Try.sizeOf9
  v9 := Try.zeroValue9 }
open Go.RowKit Go.Lib in
/-- internal/stringslite.HasPrefix (what strings.HasPrefix calls). (LAID: no walk: one application.) -/
theorem Try.stringslite_HasPrefix (s p : ByteArray) (w : World) :
    Calls Try.prog 106 #[.string s, .string p] w fun e w' => e = .returned (.bool (Lib.hasPrefix s.data.toList p.data.toList)) ∧ w' = w := Any.stringslite_HasPrefix Try.lays206 s p w
def Try.lays99_ren : Go.Shelf.Ren := ⟨fun | 99 => 98 | 206 => 106 | n => n, fun | 9 => 9 | 4 => 4 | 3 => 3 | n => n, fun | n => n⟩
theorem Try.lays99 : Go.Proofs.Lays.n99 Try.prog Try.lays99_ren := {
  mixed := by kernel_rfl
  f99 := Try.func98.trans (congrArg some (by kernel_rfl))
  f206 := Try.func106.trans (congrArg some (by kernel_rfl))
  t3 := Try.underlying3
  a3 := Try.isAgg3
  z3 := Try.sizeOf3
  v3 := Try.zeroValue3
  t4 := Try.underlying4
  a4 := Try.isAgg4
  z4 := Try.sizeOf4
  v4 := Try.zeroValue4
  t9 := Try.underlying9
  a9 := Try.isAgg9
  z9 := Try.sizeOf9
  v9 := Try.zeroValue9 }
open Go.RowKit Go.Lib in
/-- strings.HasPrefix: "HasPrefix reports whether the string s begins with prefix.": IT RETURNS 'Lib.hasPrefix s prefix'; the world is as it was. (LAID: no walk: one application.) -/
theorem Try.strings_HasPrefix (s p : ByteArray) (w : World) :
    Calls Try.prog 98 #[.string s, .string p] w fun e w' => e = .returned (.bool (Lib.hasPrefix s.data.toList p.data.toList)) ∧ w' = w := Any.strings_HasPrefix Try.lays99 s p w
def Try.lays264_ren : Go.Shelf.Ren := ⟨fun | 264 => 105 | n => n, fun | 53 => 116 | 46 => 41 | n => n, fun | n => n⟩
theorem Try.lays264 : Go.Proofs.Lays.n264 Try.prog Try.lays264_ren := {
  mixed := by kernel_rfl
  f264 := Try.func105.trans (congrArg some (by kernel_rfl))
  t46 := Try.underlying41
  a46 := Try.isAgg41
  z46 := Try.sizeOf41
  v46 := Try.zeroValue41
  t53 := Try.underlying116
  a53 := Try.isAgg116
  z53 := Try.sizeOf116
  v53 := Try.zeroValue116 }
open Go.RowKit Go.Lib in
theorem Try.bits_Mul64 (x y : Nat) (hx : x < 18446744073709551616) (hy : y < 18446744073709551616) (w : World) :
    Calls Try.prog 105 #[.int .u64 x, .int .u64 y] w fun e w' => e = .returned (.tuple #[.int .u64 ((x * y / 18446744073709551616 : Nat) : Int), .int .u64 ((x * y % 18446744073709551616 : Nat) : Int)]) ∧ w' = w := Any.bits_Mul64 Try.lays264 x y hx hy w
def Try.lays212_ren : Go.Shelf.Ren := ⟨fun | 212 => 97 | 263 => 104 | 264 => 105 | n => n, fun | 46 => 41 | 51 => 24 | 146 => 150 | 53 => 116 | 148 => 152 | n => n, fun | n => n⟩
theorem Try.lays212 : Go.Proofs.Lays.n212 Try.prog Try.lays212_ren := {
  mixed := by kernel_rfl
  f212 := Try.func97.trans (congrArg some (by kernel_rfl))
  f263 := Try.func104.trans (congrArg some (by kernel_rfl))
  f264 := Try.func105.trans (congrArg some (by kernel_rfl))
  t46 := Try.underlying41
  a46 := Try.isAgg41
  z46 := Try.sizeOf41
  v46 := Try.zeroValue41
  t51 := Try.underlying24
  a51 := Try.isAgg24
  z51 := Try.sizeOf24
  v51 := Try.zeroValue24
  t53 := Try.underlying116
  a53 := Try.isAgg116
  z53 := Try.sizeOf116
  v53 := Try.zeroValue116
  t146 := Try.underlying150
  a146 := Try.isAgg150
  z146 := Try.sizeOf150
  v146 := Try.zeroValue150
  t148 := Try.underlying152
  a148 := Try.isAgg152
  z148 := Try.sizeOf152
  v148 := Try.zeroValue152 }
open Go.RowKit Go.Lib in
/-- math/bits.Mul: "Mul returns the full-width product of x and y": on a machine of 64 bits: Mul64's. (LAID: no walk: one application.) -/
theorem Try.bits_Mul (x y : Nat) (hx : x < 18446744073709551616) (hy : y < 18446744073709551616) (w : World) :
    Calls Try.prog 97 #[.int .u64 x, .int .u64 y] w fun e w' => e = .returned (.tuple #[.int .u64 ((x * y / 18446744073709551616 : Nat) : Int), .int .u64 ((x * y % 18446744073709551616 : Nat) : Int)]) ∧ w' = w := Any.bits_Mul Try.lays212 x y hx hy w
def Try.lays105_ren : Go.Shelf.Ren := ⟨fun | 105 => 94 | 212 => 97 | 99 => 98 | 165 => 99 | 166 => 100 | 170 => 101 | 169 => 102 | 263 => 104 | 264 => 105 | 206 => 106 | 240 => 107 | 241 => 108 | 276 => 109 | 277 => 110 | n => n, fun | 9 => 9 | 3 => 3 | 4 => 4 | 20 => 20 | 0 => 0 | 46 => 41 | 109 => 137 | 5 => 5 | 72 => 142 | 76 => 146 | 51 => 24 | 146 => 150 | 53 => 116 | 148 => 152 | 70 => 140 | 37 => 22 | 75 => 145 | 127 => 154 | 164 => 155 | 80 => 148 | n => n, fun | n => n⟩
theorem Try.lays105 : Go.Proofs.Lays.n105 Try.prog Try.lays105_ren := {
  mixed := by kernel_rfl
  f99 := Try.func98.trans (congrArg some (by kernel_rfl))
  f105 := Try.func94.trans (congrArg some (by kernel_rfl))
  f165 := Try.func99.trans (congrArg some (by kernel_rfl))
  f166 := Try.func100.trans (congrArg some (by kernel_rfl))
  f169 := Try.func102.trans (congrArg some (by kernel_rfl))
  f170 := Try.func101.trans (congrArg some (by kernel_rfl))
  f206 := Try.func106.trans (congrArg some (by kernel_rfl))
  f212 := Try.func97.trans (congrArg some (by kernel_rfl))
  f240 := Try.func107.trans (congrArg some (by kernel_rfl))
  f241 := Try.func108.trans (congrArg some (by kernel_rfl))
  f263 := Try.func104.trans (congrArg some (by kernel_rfl))
  f264 := Try.func105.trans (congrArg some (by kernel_rfl))
  f276 := Try.func109.trans (congrArg some (by kernel_rfl))
  f277 := Try.func110.trans (congrArg some (by kernel_rfl))
  t0 := Try.underlying0
  a0 := Try.isAgg0
  z0 := Try.sizeOf0
  v0 := Try.zeroValue0
  t3 := Try.underlying3
  a3 := Try.isAgg3
  z3 := Try.sizeOf3
  v3 := Try.zeroValue3
  t4 := Try.underlying4
  a4 := Try.isAgg4
  z4 := Try.sizeOf4
  v4 := Try.zeroValue4
  t5 := Try.underlying5
  a5 := Try.isAgg5
  z5 := Try.sizeOf5
  v5 := Try.zeroValue5
  t9 := Try.underlying9
  a9 := Try.isAgg9
  z9 := Try.sizeOf9
  v9 := Try.zeroValue9
  t20 := Try.underlying20
  a20 := Try.isAgg20
  z20 := Try.sizeOf20
  v20 := Try.zeroValue20
  t37 := Try.underlying22
  a37 := Try.isAgg22
  z37 := Try.sizeOf22
  v37 := Try.zeroValue22
  t46 := Try.underlying41
  a46 := Try.isAgg41
  z46 := Try.sizeOf41
  v46 := Try.zeroValue41
  t51 := Try.underlying24
  a51 := Try.isAgg24
  z51 := Try.sizeOf24
  v51 := Try.zeroValue24
  t53 := Try.underlying116
  a53 := Try.isAgg116
  z53 := Try.sizeOf116
  v53 := Try.zeroValue116
  t70 := Try.underlying140
  a70 := Try.isAgg140
  z70 := Try.sizeOf140
  v70 := Try.zeroValue140
  t72 := Try.underlying142
  a72 := Try.isAgg142
  z72 := Try.sizeOf142
  v72 := Try.zeroValue142
  t75 := Try.underlying145
  a75 := Try.isAgg145
  z75 := Try.sizeOf145
  v75 := Try.zeroValue145
  t76 := Try.underlying146
  a76 := Try.isAgg146
  z76 := Try.sizeOf146
  v76 := Try.zeroValue146
  t109 := Try.underlying137
  a109 := Try.isAgg137
  z109 := Try.sizeOf137
  v109 := Try.zeroValue137
  t127 := Try.underlying154
  a127 := Try.isAgg154
  z127 := Try.sizeOf154
  v127 := Try.zeroValue154
  t146 := Try.underlying150
  a146 := Try.isAgg150
  z146 := Try.sizeOf150
  v146 := Try.zeroValue150
  t148 := Try.underlying152
  a148 := Try.isAgg152
  z148 := Try.sizeOf152
  v148 := Try.zeroValue152
  t164 := Try.underlying155
  a164 := Try.isAgg155
  z164 := Try.sizeOf155
  v164 := Try.zeroValue155 }
theorem Try.Builder_Extra_105 : Builder.Extra Try.prog Try.lays105_ren := {
  sizeBuilder := by kernel_rfl
  liesBuilder := by kernel_rfl
  t5 := Try.underlying5
  a5 := Try.isAgg5
  z5 := Try.sizeOf5
  v5 := Try.zeroValue5
  infoByte := by kernel_rfl
  cellsByte := by kernel_rfl
  sizeByte := by kernel_rfl
  neB5 := by decide }
open Go.RowKit Go.Lib in
/-- THE MAIN CASE: at least two copies of a string that is not empty. (LAID: no walk: one application.) -/
theorem Try.strings_Repeat_main (s : ByteArray) (c : Nat) (w : World) (hc2 : 2 ≤ c) (hc : c ≤ 9223372036854775807) (hlen : s.size * c ≤ 140737488355328) (h0 : 0 < s.size) :
    Calls Try.prog 94 #[.string s, .int .i64 c] w fun e w' => e = .returned (.string ⟨(Lib.repeatL s.data.toList c).toArray⟩) ∧ Below w.heap.size w w' := Any.strings_Repeat_main Try.lays105 Try.Builder_Extra_105 s c w hc2 hc hlen h0
open Go.RowKit Go.Lib in
theorem Try.strings_Repeat_zero (s : ByteArray) (w : World) :
    Calls Try.prog 94 #[.string s, .int .i64 0] w fun e w' => e = .returned (.string ⟨#[]⟩) ∧ w' = w := Any.strings_Repeat_zero Try.lays105 s w
open Go.RowKit Go.Lib in
theorem Try.strings_Repeat_one (s : ByteArray) (w : World) :
    Calls Try.prog 94 #[.string s, .int .i64 1] w fun e w' => e = .returned (.string s) ∧ w' = w := Any.strings_Repeat_one Try.lays105 s w
open Go.RowKit Go.Lib in
/-- Copies of the empty string. (LAID: no walk: one application.) -/
theorem Try.strings_Repeat_empty (s : ByteArray) (c : Nat) (w : World) (hc2 : 2 ≤ c) (hc : c ≤ 9223372036854775807) (h0 : s.size = 0) :
    Calls Try.prog 94 #[.string s, .int .i64 c] w fun e w' => e = .returned (.string ⟨#[]⟩) ∧ w' = w := Any.strings_Repeat_empty Try.lays105 s c w hc2 hc h0
open Go.RowKit Go.Lib in
/-- count < 0: "It panics if count is negative". (LAID: no walk: one application.) -/
theorem Try.strings_Repeat_negative (s : ByteArray) (c : Int) (w : World) (hc : c < 0) :
    Calls Try.prog 94 #[.string s, .int .i64 c] w fun e w' => e = .panicked [{ v := repeatPanic Try.lays105_ren "strings: negative Repeat count", recovered := false }] ∧ w' = w := Any.strings_Repeat_negative Try.lays105 s c w hc
open Go.RowKit Go.Lib in
/-- len(s) * count is no int: ".. or if the result of (len(s) * count) overflows". (LAID: no walk: one application.) -/
theorem Try.strings_Repeat_overflow (s : ByteArray) (c : Nat) (w : World) (hc : c ≤ 9223372036854775807) (hs : s.size ≤ 9223372036854775807) (hbig : 9223372036854775807 < s.size * c) :
    Calls Try.prog 94 #[.string s, .int .i64 c] w fun e w' => e = .panicked [{ v := repeatPanic Try.lays105_ren "strings: Repeat output length overflow", recovered := false }] ∧ w' = w := Any.strings_Repeat_overflow Try.lays105 s c w hc hs hbig
open Go.RowKit Go.Lib in
/-- **strings.Repeat: count ≥ 0, the result within one allocation: count copies of s.** (LAID: no walk: one application.) -/
theorem Try.strings_Repeat (s : ByteArray) (c : Nat) (w : World) (hc : c ≤ 9223372036854775807) (hlen : s.size * c ≤ 140737488355328) :
    Calls Try.prog 94 #[.string s, .int .i64 c] w fun e w' => e = .returned (.string ⟨(Lib.repeatL s.data.toList c).toArray⟩) ∧ Below w.heap.size w w' := Any.strings_Repeat Try.lays105 Try.Builder_Extra_105 s c w hc hlen
end Go.Proofs
namespace Go.Proofs.Ytoglbmhkfkghbaa
open Go Go.Ab
theorem mix : Try.prog.follows .mixedOrders = true := by kernel_rfl
/-! Short names for what the printed conditions repeat. -/
def SM {α : Type} (x : α) : Prop := x = x
def Z0 : Int := 0
def Z1 : Int := 1
def N0 : Nat := 0
def N1 : Nat := 1
def N2 : Nat := 2
def N4 : Nat := 4
def N6 : Nat := 6
def U0 : UInt8 := 0
def LN {α : Type} (l : List α) : Nat := List.length l
def LI {α : Type} (l : List α) : Int := (↑(List.length l) : Int)
def BI (l : List UInt8) (i : Nat) : Int := (↑(UInt8.toNat (List.getD l i (0 : UInt8))) : Int)
def NI (x : Nat) : Int := (↑x : Int)
def TN (x : Nat) : Nat := Int.toNat (↑x : Int)
def TL {α : Type} (l : List α) : Nat := Int.toNat (↑(List.length l) : Int)
def GI (l : List Int) (i : Nat) : Int := List.getD l i (0 : Int)
def ZI (a : Int) : D := D.int IntKind.i64 a
def ZB (a : Int) : D := D.int IntKind.u8 a
def SI (l : List Int) : D := D.sl (1 : Nat) (List.length l) (fun (i : Nat) => [D.int IntKind.i64 (List.getD l i (0 : Int))]) Mode.any
def SB (l : List UInt8) : D := D.sl (1 : Nat) (List.length l) (fun (i : Nat) => [D.int IntKind.u8 (↑(UInt8.toNat (List.getD l i (0 : UInt8))) : Int)]) Mode.any
abbrev Con := Nat → List D → St → Option FnSpec
noncomputable def E0 (con : Con) (n V : Nat) (cross : List Nat) (ord : Nat → List Nat × List Nat) : Senv where
  P := Try.prog
  tt := tabGet tab
  n := n
  dfs := []
  V := V
  cross := cross
  gh := fun _ => []
  gr := []
  unr := fun _ => 0
  cut := fun _ _ _ => none
  ann := fun _ _ _ => none
  ord := ord
  con := con
  eqs := eqs
/-- The surroundings of a body: calls without a contract are laid in. -/
noncomputable def EC (con : Con) (n V : Nat) (cross : List Nat) (ord : Nat → List Nat × List Nat) : Senv :=
  { E0 con n V cross ord with auto := true, inl := inlD { E0 con 0 0 [] (fun _ => ([], [])) with auto := true } (frmGet frames) 9 }
abbrev con0 : Con := fun _ _ _ => none
theorem con0_ok : ConOk Try.prog con0 := fun _ _ _ _ h => nomatch h
theorem eOk {con : Con} (hc : ConOk Try.prog con) {E : Senv} (h : E = { EC con E.n E.V E.cross E.ord with gh := E.gh, gr := E.gr, unr := E.unr, cut := E.cut, ann := E.ann, cut2 := E.cut2, ann2 := E.ann2, own := E.own, gz := E.gz, mg := E.mg, pvt := E.pvt, bcut := E.bcut }) : EnvOk E := by
  rw [h]
  exact ⟨tab_ok, hc, mix, fun k ds S R h => inlD_ok (E := { E0 con 0 0 [] (fun _ => ([], [])) with auto := true }) tab_ok hc mix frames_ok eqs_ok 9 k ds S R h, eqs_ok⟩
/-- A body laid in as it is (closed runs). -/
theorem inlS {con : Con} (hc : ConOk Try.prog con) (k : Nat) (ds : List D) (S : St) (R : AEnd → St → Prop) (h : inlD (E0 con 0 0 [] (fun _ => ([], []))) (frmGet frames) 50 k ds S R) : ACalls Try.prog k ds S R :=
  inlD_ok (E := E0 con 0 0 [] (fun _ => ([], []))) tab_ok hc mix frames_ok eqs_ok 50 k ds S R h
/-- A contract that looks at no state and changes none; it fits where p holds. -/
def pC (ds : List D) (d : D) (p : Prop) : FnSpec where
  β := Unit
  α := Unit
  args := fun _ => ds
  st := fun _ => ⟨[], []⟩
  pre := fun _ => p
  post := fun _ _ => True
  res := fun _ _ => .ret d
  out := fun _ _ => ⟨[], []⟩
  fit := some ()
/-- The same; the result bears a part that is only bound by q. -/
def pQ {α : Type} (ds : List D) (d : α → D) (q : α → Prop) (p : Prop) : FnSpec where
  β := Unit
  α := α
  args := fun _ => ds
  st := fun _ => ⟨[], []⟩
  pre := fun _ => p
  post := fun _ y => q y
  res := fun _ y => .ret (d y)
  out := fun _ _ => ⟨[], []⟩
  fit := some ()
theorem leS_nil (S : St) : leS ⟨[], []⟩ S := by simp [leS, chk_iff, nodupB, leO, leT]
theorem pC_ok {k : Nat} {ds : List D} {S : St} {us : List D} {d : D} {p : Prop} (h : p → weakL ds us ∧ ACalls Try.prog k us ⟨[], []⟩ (SpecR (sC us d) ())) :
    (∀ x, (pC us d p).pre x → ACalls Try.prog k ((pC us d p).args x) ((pC us d p).st x) (SpecR (pC us d p) x)) ∧ (∀ x, (pC us d p).fit = some x → (pC us d p).pre x → weakL ds ((pC us d p).args x) ∧ leS ((pC us d p).st x) S) ∧ ((pC us d p).all = true → ∀ x, (pC us d p).pre x → weakL ds ((pC us d p).args x) ∧ (pC us d p).st x = S) :=
  ⟨fun _ hp => (h hp).2.mono fun _ _ ⟨_, h1, h2, h3⟩ => ⟨(), trivial, h2, h3⟩, fun _ _ hp => ⟨(h hp).1, leS_nil S⟩, fun e => nomatch e⟩
theorem pQ_ok {α : Type} {k : Nat} {ds : List D} {S : St} {us : List D} {d : α → D} {q : α → Prop} {p : Prop} (h : p → weakL ds us ∧ ACalls Try.prog k us ⟨[], []⟩ (SpecR (pQ us d q p) ())) :
    (∀ x, (pQ us d q p).pre x → ACalls Try.prog k ((pQ us d q p).args x) ((pQ us d q p).st x) (SpecR (pQ us d q p) x)) ∧ (∀ x, (pQ us d q p).fit = some x → (pQ us d q p).pre x → weakL ds ((pQ us d q p).args x) ∧ leS ((pQ us d q p).st x) S) ∧ ((pQ us d q p).all = true → ∀ x, (pQ us d q p).pre x → weakL ds ((pQ us d q p).args x) ∧ (pQ us d q p).st x = S) :=
  ⟨fun _ hp => (h hp).2, fun _ _ hp => ⟨(h hp).1, leS_nil S⟩, fun e => nomatch e⟩
theorem drop_step {α : Type} [Inhabited α] {l : List α} {i : Nat} (h : i < l.length) : l.drop i = l.getD i default :: l.drop (i + 1) := by
  rw [List.drop_eq_getElem_cons h]
  simp [List.getD_eq_getElem?_getD, h]
theorem take_step {α : Type} [Inhabited α] {l : List α} {i : Nat} (h : i < l.length) : l.take (i + 1) = l.take i ++ [l.getD i default] := by
  rw [List.take_add_one]
  simp [List.getD_eq_getElem?_getD, h]
theorem rows_eq {n : Nat} {f g : Nat → List D} (h : (List.range n).map f = (List.range n).map g) : ∀ i, i < n → f i = g i := by
  intro i hi
  have := congrArg (fun l => l[i]?) h
  simpa [hi] using this
end Go.Proofs.Ytoglbmhkfkghbaa
namespace Go.Proofs.Ytoglbmhkfkghbaa
open Go Go.Ab

/-! ### arrays as data -/
def bsl (l : List UInt8) (m : Ab.Mode) : D := .sl 1 l.length (fun i => [.int .u8 ((l.getD i 0).toNat : Int)]) m
def isl (l : List Int) (m : Ab.Mode) : D := .sl 1 l.length (fun i => [.int .i64 (l.getD i 0)]) m
inductive Arr where
  | mk (kind : Int) (shape nums : List Int) (items : List Arr)
def inI64 (z : Int) : Prop := -9223372036854775808 ≤ z ∧ z ≤ 9223372036854775807
mutual
def Arr.row : Arr → List D
  | .mk k s n is => [.int .i64 k, isl s .any, isl n .any, .sl 4 (rowsL is).length (fun i => (rowsL is).getD i []) .any]
def rowsL : List Arr → List (List D)
  | [] => []
  | a :: r => a.row :: rowsL r
end
mutual
def Arr.ok : Arr → Prop
  | .mk k s n is => inI64 k ∧ (∀ z ∈ s, inI64 z) ∧ (∀ z ∈ n, inI64 z) ∧ s.length ≤ maxLen ∧ n.length ≤ maxLen ∧ is.length ≤ maxLen ∧ okL is
def okL : List Arr → Prop
  | [] => True
  | a :: r => a.ok ∧ okL r
end
theorem rowsL_map : ∀ (l : List Arr), rowsL l = l.map Arr.row
  | [] => rfl
  | a :: l => by simp only [rowsL, List.map_cons, rowsL_map l]
theorem okL_iff : ∀ (l : List Arr), okL l ↔ ∀ a ∈ l, a.ok
  | [] => by simp [okL]
  | a :: l => by simp only [okL, List.forall_mem_cons, okL_iff l]

/-- What a slice of integers reads as. -/
def RInts : List D → Prop := fun ds => ∃ l : List Int, (∀ z ∈ l, inI64 z) ∧ l.length ≤ maxLen ∧ ds = [isl l .any]
def RArr : List D → Prop := fun ds => ∃ a : Arr, a.ok ∧ ds = a.row
theorem int_row : ∀ x, RInt .i64 x → ∃ z, inI64 z ∧ x = [.int .i64 z] := by
  rintro x ⟨n, rfl, h1, h2⟩
  simp only [IntKind.min, IntKind.max, IntKind.signed, IntKind.bits] at h1 h2
  exact ⟨n, ⟨by simpa using h1, by simp at h2; omega⟩, rfl⟩
theorem read_ints (W : World) (n : Nat) : ReadAt Try.prog W n 51 RInts := by
  cases n with
  | zero => exact .zero _ _
  | succ n =>
    refine (read_sliceA (w := 1) Try.underlying51 (by kernel_rfl) (by decide) (read_int Try.underlying3 W n)).weak ?_
    rintro ds vs ⟨l, h1, h2, rfl⟩ h
    obtain ⟨l', q, rfl⟩ := rows_of int_row l h1
    refine ⟨_, ⟨l', q, by simpa using h2, rfl⟩, weakL_weak _ _ ?_ _ _ h⟩
    simp only [isl, weakL, weakD, chk_iff]
    refine ⟨⟨by simp, by simp, fun i hi => ?_, by simp [weakM]⟩, trivial⟩
    have hi : i < l'.length := by simpa using hi
    simp [List.getD_eq_getElem?_getD, hi]
theorem read_arr (W : World) : ∀ n, ReadAt Try.prog W n 53 RArr
  | 0 => .zero _ _
  | n + 1 => by
    have hi : ReadAt Try.prog W n 27 (RSliceA 4 RArr) := by
      cases n with
      | zero => exact .zero _ _
      | succ m => exact read_sliceA (w := 4) Try.underlying27 (by kernel_rfl) (by decide) (read_arr W m)
    refine (read_struct Try.underlying53 (by kernel_rfl) (Rs := [RInt .i64, RInts, RInts, RSliceA 4 RArr]) ⟨read_int (by kernel_rfl) W n, read_ints W n, read_ints W n, hi, trivial⟩).mono ?_
    rintro ds ⟨_, _, h1, ⟨_, _, h2, ⟨_, _, h3, ⟨_, _, h4, h5, rfl⟩, rfl⟩, rfl⟩, rfl⟩
    obtain rfl : _ = [] := h5
    obtain ⟨k, hk, rfl⟩ := int_row _ h1
    obtain ⟨s, s1, s2, rfl⟩ := h2
    obtain ⟨m, m1, m2, rfl⟩ := h3
    obtain ⟨l, l1, l2, rfl⟩ := h4
    obtain ⟨is, q, rfl⟩ := rows_of (g := Arr.row) (Q := Arr.ok) (fun x hx => hx) l l1
    refine ⟨.mk k s m is, ?_, ?_⟩
    · simp only [Arr.ok]
      exact ⟨hk, s1, m1, s2, m2, by simpa using l2, (okL_iff _).2 q⟩
    · simp only [Arr.row, rowsL_map, List.cons_append, List.nil_append]
end Go.Proofs.Ytoglbmhkfkghbaa
namespace Go.Proofs.Ytoglbmhkfkghbaa
open Go Go.Ab

/-! ### numbers as bytes -/
def uBf (k u : Nat) : List UInt8 := match k with
  | 0 => [UInt8.ofNat u]
  | k + 1 => match Nat.blt u 128 with
    | true => [UInt8.ofNat u]
    | false => UInt8.ofNat (u % 128 + 128) :: uBf k (u / 128)
def zig (n : Int) : Nat := match n with
  | .ofNat k => 2 * k
  | .negSucc k => 2 * k + 1
def numsB (l : List Int) : List UInt8 := l.flatMap fun n => uBf 9 (zig n)
def i64B (z : Int) : Bool := decide (-9223372036854775808 ≤ z) && decide (z ≤ 9223372036854775807)

theorem uBf_len : ∀ k u, (uBf k u).length ≤ k + 1 ∧ 1 ≤ (uBf k u).length
  | 0, u => by simp [uBf]
  | k + 1, u => by
    unfold uBf
    split
    · simp
    · have := uBf_len k (u / 128); simp; omega
theorem numsB_len : ∀ (l : List Int), (numsB l).length ≤ 10 * l.length
  | [] => by simp [numsB]
  | n :: l => by
    have h1 := numsB_len l
    have h2 := uBf_len 9 (zig n)
    simp only [numsB, List.flatMap_cons, List.length_append, List.length_cons] at h1 ⊢
    omega
theorem numsB_take (ns : List Int) {i : Nat} (h : i < ns.length) : numsB (ns.take (i + 1)) = numsB (ns.take i) ++ uBf 9 (zig (ns.getD i 0)) := by
  unfold numsB
  rw [List.take_add_one, List.flatMap_append, List.getElem?_eq_getElem h]
  congr 1
  simp [List.getD_eq_getElem?_getD, h]
theorem uBf_end {k u : Nat} (h : u < 128) : uBf k u = [UInt8.ofNat u] := by
  cases k with
  | zero => rfl
  | succ k => unfold uBf; rw [show Nat.blt u 128 = true from by simpa using h]
theorem uBf_go {k u : Nat} (h : 128 ≤ u) : uBf (k + 1) u = UInt8.ofNat (u % 128 + 128) :: uBf k (u / 128) := by
  conv => lhs; unfold uBf
  rw [show Nat.blt u 128 = false from by
    have e := Nat.blt_eq (x := u) (y := 128)
    cases hb : Nat.blt u 128 with
    | false => rfl
    | true => rw [hb] at e; simp at e; omega]
set_option maxRecDepth 100000 in
theorem or128 : ∀ a, a < 256 → a ||| 128 = a % 128 + 128 := by decide
theorem orB (u : Nat) : orI .u8 (IntKind.u8.wrap (u : Int)) 128 = ((UInt8.ofNat (u % 128 + 128)).toNat : Int) := by
  have h1 : IntKind.u8.wrap (u : Int) = ((u % 256 : Nat) : Int) := by rw [IntKind.wrap_u8]; omega
  rw [h1]
  have h2 := orI_nat (k := .u8) rfl (a := u % 256) (b := 128) (by simp [IntKind.bits]; omega) (by simp [IntKind.bits])
  rw [show ((128 : Nat) : Int) = 128 from rfl] at h2
  rw [h2, or128 _ (by omega), UInt8.toNat_ofNat']
  omega
theorem wrapU8 {u : Nat} (h : u < 128) : IntKind.u8.wrap (u : Int) = ((UInt8.ofNat u).toNat : Int) := by
  rw [IntKind.wrap_u8, UInt8.toNat_ofNat']; omega
theorem not64 {a : Nat} (h : a < 18446744073709551616) : notI .u64 a = ((18446744073709551615 - a : Nat) : Int) := by
  rw [notI_nat (k := .u64) rfl (by simpa [IntKind.bits] using h)]
  have e := congrArg BitVec.toNat (BitVec.xor_allOnes (x := BitVec.ofNat 64 a))
  rw [BitVec.toNat_xor, BitVec.toNat_allOnes, BitVec.toNat_not, BitVec.toNat_ofNat, Nat.mod_eq_of_lt (by simpa using h)] at e
  rw [show IntKind.u64.bits = 64 from rfl, e]
  try rfl
theorem zig_pos {n : Int} (h : ¬ n < 0) (hb : i64B n = true) : IntKind.u64.wrap (IntKind.u64.wrap n * 2) = (zig n : Int) ∧ zig n < 2 ^ 64 := by
  simp only [i64B, Bool.and_eq_true, decide_eq_true_eq] at hb
  cases n with
  | ofNat k => simp only [zig, IntKind.wrap_u64, Int.ofNat_eq_natCast] at *; omega
  | negSucc k => exact (h (Int.negSucc_lt_zero k)).elim
theorem zig_neg {n : Int} (h : n < 0) (hb : i64B n = true) : notI .u64 (IntKind.u64.wrap (IntKind.u64.wrap n * 2)) = (zig n : Int) ∧ zig n < 2 ^ 64 := by
  simp only [i64B, Bool.and_eq_true, decide_eq_true_eq] at hb
  cases n with
  | ofNat k => simp only [Int.ofNat_eq_natCast] at h; omega
  | negSucc k =>
    have e : IntKind.u64.wrap (IntKind.u64.wrap (Int.negSucc k) * 2) = ((18446744073709551616 - 2 * k - 2 : Nat) : Int) := by
      simp only [IntKind.wrap_u64, Int.negSucc_eq] at *; omega
    simp only [Int.negSucc_eq] at hb
    rw [e, not64 (by omega)]
    simp only [zig]
    omega
theorem app_row {l : List UInt8} {z : Int} {b : UInt8} (h : z = (b.toNat : Int)) (i : Nat) (hi : i < l.length + 1) :
    appF l.length (fun i => [D.int .u8 ((l.getD i 0).toNat : Int)]) (fun i => [[D.int .u8 z]].getD i []) i = [D.int .u8 (((l ++ [b]).getD i 0).toNat : Int)] := by
  simp only [appF]
  split
  · rename_i hlt
    simp [List.getD_eq_getElem?_getD, List.getElem?_append_left hlt]
  · have : i = l.length := by omega
    subst this
    simp [List.getD_eq_getElem?_getD, h]

/-- One round of the inner loop. -/
theorem num_step {j u : Nat} {l l' : List UInt8} {ns : List Int} {i : Nat} (hi : i < ns.length) (h : j ≤ 9 ∧ u < 2 ^ (64 - 7 * j) ∧ l'.length ≤ l.length + 10 * ns.length ∧ l' ++ uBf (9 - j) u = l ++ numsB (ns.take (i + 1))) (h8 : 128 ≤ u) :
    j + 1 ≤ 9 ∧ u / 128 < 2 ^ (64 - 7 * (j + 1)) ∧ (l' ++ [UInt8.ofNat (u % 128 + 128)]).length ≤ l.length + 10 * ns.length ∧ (l' ++ [UInt8.ofNat (u % 128 + 128)]) ++ uBf (9 - (j + 1)) (u / 128) = l ++ numsB (ns.take (i + 1)) := by
  obtain ⟨h1, h2, _, h4⟩ := h
  have hj : j ≤ 8 := by
    by_cases e : j = 9
    · subst e; simp at h2; omega
    · omega
  have h5 : (l' ++ [UInt8.ofNat (u % 128 + 128)]) ++ uBf (9 - (j + 1)) (u / 128) = l ++ numsB (ns.take (i + 1)) := by
    rw [← h4, show 9 - j = (9 - (j + 1)) + 1 by omega, uBf_go h8]; simp
  refine ⟨by omega, ?_, ?_, h5⟩
  · have e : 64 - 7 * j = (64 - 7 * (j + 1)) + 7 := by omega
    rw [e, Nat.pow_add] at h2
    omega
  · have e := congrArg List.length h5
    have e2 := numsB_len (ns.take (i + 1))
    simp only [List.length_append, List.length_take] at e e2 ⊢
    omega
theorem num_last {j u : Nat} {l l' : List UInt8} {ns : List Int} {i : Nat} (h : j ≤ 9 ∧ u < 2 ^ (64 - 7 * j) ∧ l'.length ≤ l.length + 10 * ns.length ∧ l' ++ uBf (9 - j) u = l ++ numsB (ns.take (i + 1))) (h8 : u < 128) :
    l' ++ [UInt8.ofNat u] = l ++ numsB (ns.take (i + 1)) := by
  rw [← h.2.2.2, uBf_end h8]

/-- The inner loop's rounds, as the condition asks for them. -/
theorem num_body {l : List UInt8} {ns : List Int} {i : Nat} (hl : l.length + 10 * ns.length ≤ 70368744177664) (hlt : i < ns.length) (y : Nat × Nat × List UInt8 × Nat)
    (h : y.fst ≤ 9 ∧ y.snd.fst < 2 ^ (64 - 7 * y.fst) ∧ y.snd.snd.fst.length ≤ l.length + 10 * ns.length ∧ y.snd.snd.fst ++ uBf (9 - y.fst) y.snd.fst = l ++ numsB (ns.take (i + 1))) :
    (128 ≤ (y.snd.fst : Int) → ((y.snd.snd.fst.length + 1) * 1 ≤ 140737488355328 ∧ y.snd.snd.fst.length + 1 ≤ 9223372036854775807) ∧ ∀ t : Nat, ∃ z : Nat × Nat × List UInt8 × Nat, (z.fst ≤ 9 ∧ z.snd.fst < 2 ^ (64 - 7 * z.fst) ∧ z.snd.snd.fst.length ≤ l.length + 10 * ns.length ∧ z.snd.snd.fst ++ uBf (9 - z.fst) z.snd.fst = l ++ numsB (ns.take (i + 1))) ∧ z.snd.fst < y.snd.fst ∧ Int.fdiv (y.snd.fst : Int) 128 = (z.snd.fst : Int) ∧
      (y.snd.snd.fst.length + 1 = z.snd.snd.fst.length ∧ (∀ k : Nat, k < y.snd.snd.fst.length + 1 → appF y.snd.snd.fst.length (fun i => [D.int .u8 ((y.snd.snd.fst.getD i 0).toNat : Int)]) (fun i => [[D.int .u8 (orI .u8 (IntKind.u8.wrap (y.snd.fst : Int)) 128)]].getD i []) k = [D.int .u8 ((z.snd.snd.fst.getD k 0).toNat : Int)]) ∧ t = z.snd.snd.snd) ∧ t = z.snd.snd.snd) ∧
    (¬ 128 ≤ (y.snd.fst : Int) → ((y.snd.snd.fst.length + 1) * 1 ≤ 140737488355328 ∧ y.snd.snd.fst.length + 1 ≤ 9223372036854775807) ∧ ∀ t : Nat, ∃ z : Nat × Nat, z.fst ≤ ns.length ∧ ns.length - z.fst < ns.length - i ∧ IntKind.i64.wrap ((i : Int) + 1) = (z.fst : Int) ∧
      (y.snd.snd.fst.length + 1 = (l ++ numsB (ns.take z.fst)).length ∧ (∀ k : Nat, k < y.snd.snd.fst.length + 1 → appF y.snd.snd.fst.length (fun i => [D.int .u8 ((y.snd.snd.fst.getD i 0).toNat : Int)]) (fun i => [[D.int .u8 (IntKind.u8.wrap (y.snd.fst : Int))]].getD i []) k = [D.int .u8 (((l ++ numsB (ns.take z.fst)).getD k 0).toNat : Int)]) ∧ t = z.snd) ∧ t = z.snd) := by
  obtain ⟨j, u, l', t0⟩ := y
  simp only at h ⊢
  refine ⟨fun h8 => ⟨by omega, fun t => ?_⟩, fun h8 => ⟨by omega, fun t => ?_⟩⟩
  · refine ⟨(j + 1, u / 128, l' ++ [UInt8.ofNat (u % 128 + 128)], t), num_step hlt h (by omega), by simp only; omega, fdiv_nat u 128, ⟨by simp, fun k hk => app_row (orB u) k hk, rfl⟩, rfl⟩
  · have e := num_last h (by omega)
    refine ⟨(i + 1, t), by simp only; omega, by simp only; omega, ?_, ⟨?_, fun k hk => ?_, rfl⟩, rfl⟩
    · exact wrap_i64' (by omega) (by omega)
    · simp only; rw [← e]; simp
    · simp only; rw [← e]; exact app_row (wrapU8 (by omega)) k hk

def sNum (x t : Nat) (l : List UInt8) (md : Ab.Mode) (ts : List (Nat × Nat)) (ns : List Int) (m : Ab.Mode) : FnSpec where
  β := Unit
  α := Nat
  args := fun _ => [.ref 0 x 0, isl ns m]
  st := fun _ => ⟨[(0, x, .cells [bsl l md])], ts⟩
  pre := fun _ => True
  post := fun _ _ => True
  res := fun _ _ => .ret (.tup [])
  out := fun _ t' => ⟨[(0, x, .cells [bsl (l ++ numsB ns) (.tok 0 t')])], [(0, t')]⟩

/-- The bytes that are written when one number is. -/
def goal (l : List UInt8) (ns : List Int) (d : D) : List UInt8 :=
  match d with
  | .int _ z => l ++ numsB (ns.take (z.toNat + 1))
  | _ => []
noncomputable def E40 (x : Nat) (l : List UInt8) (ns : List Int) (gh : List Ab.Place) : Senv := { EC con0 48 2 [5, 6, 7, 8, 9, 10, 17, 21] (fun _ => ([], [])) with
  gh := fun b => match b with
    | 0 => gh
    | _ => []
  ann := fun b env _ => match b with
    | 0 => some { slots := [9], keep := [0, 7, 8], α := Nat × Nat, st := fun y => ([.int .i64 y.1], ⟨[(0, x, .cells [bsl (l ++ numsB (ns.take y.1)) (.tok 0 y.2)])], [(0, y.2)]⟩), inv := fun y => y.1 ≤ ns.length, mu := fun y => ns.length - y.1 }
    | 2 => some { slots := [6], keep := [0, 7, 8, 9], α := Nat × Nat × List UInt8 × Nat, st := fun y => ([.int .u64 y.2.1], ⟨[(0, x, .cells [bsl y.2.2.1 (.tok 0 y.2.2.2)])], [(0, y.2.2.2)]⟩), inv := fun y => y.1 ≤ 9 ∧ y.2.1 < 2 ^ (64 - 7 * y.1) ∧ y.2.2.1.length ≤ l.length + 10 * ns.length ∧ y.2.2.1 ++ uBf (9 - y.1) y.2.1 = goal l ns (Ab.look env 9), mu := fun y => y.2.1 }
    | _ => none }
theorem wnum_ok (x t : Nat) (l : List UInt8) (ns : List Int) (m : Ab.Mode) (hl : l.length + 10 * ns.length ≤ 70368744177664) (hn : ∀ z, z ∈ ns → i64B z = true) :
    ACalls Try.prog 40 ((sNum x t l (.tok 0 t) [(0, t)] ns m).args ()) ((sNum x t l (.tok 0 t) [(0, t)] ns m).st ()) (SpecR (sNum x t l (.tok 0 t) [(0, t)] ns m) ()) := by
  refine con_of (A := sNum x t l (.tok 0 t) [(0, t)] ns m) (x := ()) (E := E40 x l ns []) (eOk con0_ok rfl) Try.func40 rfl (by kernel_rfl) rfl (by simp [sNum, E40, EC, E0]) ?_
  refine vc_eq (T :=
      (∃ (x_1 : Nat × Nat), x_1.1 ≤ LN ns ∧ (Z0 = (NI x_1.1) ∧ True) ∧ (SM x ∧ ((LN l = LN (l ++ numsB (List.take x_1.1 ns)) ∧ (∀ (i : Nat), i < LN l → [ZB (BI l i)] = [ZB (BI (l ++ numsB (List.take x_1.1 ns)) i)]) ∧ t =
      x_1.2) ∧ True) ∧ True) ∧ t = x_1.2 ∧ True) ∧ ∀ (x_1 : Nat × Nat), x_1.1 ≤ LN ns → ifB (decide ((NI x_1.1) < (LI ns))) (side (Z0 ≤ (NI x_1.1) ∧ (NI x_1.1) < (LI ns)) (ifB (decide (GI ns (TN x_1.1) < Z0)) ((∃ (x_2 :
      Nat × Nat × List UInt8 × Nat), (x_2.1 ≤ (9 : Nat) ∧ x_2.2.1 < N2 ^ ((64 : Nat) - (7 : Nat) * x_2.1) ∧ LN x_2.2.2.1 ≤ LN l + (10 : Nat) * LN ns ∧ x_2.2.2.1 ++ uBf ((9 : Nat) - x_2.1) x_2.2.1 = goal l ns (ZI (NI
      x_1.1))) ∧ (notI IntKind.u64 (IntKind.wrap IntKind.u64 (IntKind.wrap IntKind.u64 (GI ns (TN x_1.1)) * (2 : Int))) = (NI x_2.2.1) ∧ True) ∧ (SM x ∧ ((LN (l ++ numsB (List.take x_1.1 ns)) = LN x_2.2.2.1 ∧ (∀ (i :
      Nat), i < LN (l ++ numsB (List.take x_1.1 ns)) → [ZB (BI (l ++ numsB (List.take x_1.1 ns)) i)] = [ZB (BI x_2.2.2.1 i)]) ∧ x_1.2 = x_2.2.2.2) ∧ True) ∧ True) ∧ x_1.2 = x_2.2.2.2 ∧ True) ∧ ∀ (x_2 : Nat × Nat × List
      UInt8 × Nat), x_2.1 ≤ (9 : Nat) ∧ x_2.2.1 < N2 ^ ((64 : Nat) - (7 : Nat) * x_2.1) ∧ LN x_2.2.2.1 ≤ LN l + (10 : Nat) * LN ns ∧ x_2.2.2.1 ++ uBf ((9 : Nat) - x_2.1) x_2.2.1 = goal l ns (ZI (NI x_1.1)) → ifB (decide
      ((128 : Int) ≤ (NI x_2.2.1))) (SM x ∧ SM x_2.2.2.2 ∧ side ((LN x_2.2.2.1 + N1) * N1 ≤ (140737488355328 : Nat) ∧ LN x_2.2.2.1 + N1 ≤ (9223372036854775807 : Nat)) (∀ (t : Nat), SM x ∧ (SM (D.ref N0 x N0) ∧ SM (D.sl
      N1 (LN ns) (fun (i : Nat) => [ZI (GI ns i)]) m) ∧ SM (ZI (LI ns)) ∧ SM (ZI (NI x_1.1)) ∧ True) ∧ ∃ (y : Nat × Nat × List UInt8 × Nat), (y.1 ≤ (9 : Nat) ∧ y.2.1 < N2 ^ ((64 : Nat) - (7 : Nat) * y.1) ∧ LN y.2.2.1 ≤
      LN l + (10 : Nat) * LN ns ∧ y.2.2.1 ++ uBf ((9 : Nat) - y.1) y.2.1 = goal l ns (ZI (NI x_1.1))) ∧ y.2.1 < x_2.2.1 ∧ (Int.fdiv (NI x_2.2.1) (128 : Int) = (NI y.2.1) ∧ True) ∧ (SM x ∧ ((LN x_2.2.2.1 + N1 = LN y.2.2.1
      ∧ (∀ (i : Nat), i < LN x_2.2.2.1 + N1 → appF (LN x_2.2.2.1) (fun (i : Nat) => [ZB (BI x_2.2.2.1 i)]) (fun (i : Nat) => List.getD [[ZB (orI IntKind.u8 (IntKind.wrap IntKind.u8 (NI x_2.2.1)) (128 : Int))]] i []) i =
      [ZB (BI y.2.2.1 i)]) ∧ t = y.2.2.2) ∧ True) ∧ True) ∧ t = y.2.2.2 ∧ True)) (SM x ∧ SM x_2.2.2.2 ∧ side ((LN x_2.2.2.1 + N1) * N1 ≤ (140737488355328 : Nat) ∧ LN x_2.2.2.1 + N1 ≤ (9223372036854775807 : Nat)) (∀ (t :
      Nat), SM x ∧ (SM (D.ref N0 x N0) ∧ SM (D.sl N1 (LN ns) (fun (i : Nat) => [ZI (GI ns i)]) m) ∧ SM (ZI (LI ns)) ∧ True) ∧ ∃ (y : Nat × Nat), y.1 ≤ LN ns ∧ LN ns - y.1 < LN ns - x_1.1 ∧ (IntKind.wrap IntKind.i64 ((NI
      x_1.1) + Z1) = (NI y.1) ∧ True) ∧ (SM x ∧ ((LN x_2.2.2.1 + N1 = LN (l ++ numsB (List.take y.1 ns)) ∧ (∀ (i : Nat), i < LN x_2.2.2.1 + N1 → appF (LN x_2.2.2.1) (fun (i : Nat) => [ZB (BI x_2.2.2.1 i)]) (fun (i : Nat)
      => List.getD [[ZB (IntKind.wrap IntKind.u8 (NI x_2.2.1))]] i []) i = [ZB (BI (l ++ numsB (List.take y.1 ns)) i)]) ∧ t = y.2) ∧ True) ∧ True) ∧ t = y.2 ∧ True))) ((∃ (x_2 : Nat × Nat × List UInt8 × Nat), (x_2.1 ≤ (9
      : Nat) ∧ x_2.2.1 < N2 ^ ((64 : Nat) - (7 : Nat) * x_2.1) ∧ LN x_2.2.2.1 ≤ LN l + (10 : Nat) * LN ns ∧ x_2.2.2.1 ++ uBf ((9 : Nat) - x_2.1) x_2.2.1 = goal l ns (ZI (NI x_1.1))) ∧ (IntKind.wrap IntKind.u64
      (IntKind.wrap IntKind.u64 (GI ns (TN x_1.1)) * (2 : Int)) = (NI x_2.2.1) ∧ True) ∧ (SM x ∧ ((LN (l ++ numsB (List.take x_1.1 ns)) = LN x_2.2.2.1 ∧ (∀ (i : Nat), i < LN (l ++ numsB (List.take x_1.1 ns)) → [ZB (BI (l
      ++ numsB (List.take x_1.1 ns)) i)] = [ZB (BI x_2.2.2.1 i)]) ∧ x_1.2 = x_2.2.2.2) ∧ True) ∧ True) ∧ x_1.2 = x_2.2.2.2 ∧ True) ∧ ∀ (x_2 : Nat × Nat × List UInt8 × Nat), x_2.1 ≤ (9 : Nat) ∧ x_2.2.1 < N2 ^ ((64 : Nat)
      - (7 : Nat) * x_2.1) ∧ LN x_2.2.2.1 ≤ LN l + (10 : Nat) * LN ns ∧ x_2.2.2.1 ++ uBf ((9 : Nat) - x_2.1) x_2.2.1 = goal l ns (ZI (NI x_1.1)) → ifB (decide ((128 : Int) ≤ (NI x_2.2.1))) (SM x ∧ SM x_2.2.2.2 ∧ side
      ((LN x_2.2.2.1 + N1) * N1 ≤ (140737488355328 : Nat) ∧ LN x_2.2.2.1 + N1 ≤ (9223372036854775807 : Nat)) (∀ (t : Nat), SM x ∧ (SM (D.ref N0 x N0) ∧ SM (D.sl N1 (LN ns) (fun (i : Nat) => [ZI (GI ns i)]) m) ∧ SM (ZI
      (LI ns)) ∧ SM (ZI (NI x_1.1)) ∧ True) ∧ ∃ (y : Nat × Nat × List UInt8 × Nat), (y.1 ≤ (9 : Nat) ∧ y.2.1 < N2 ^ ((64 : Nat) - (7 : Nat) * y.1) ∧ LN y.2.2.1 ≤ LN l + (10 : Nat) * LN ns ∧ y.2.2.1 ++ uBf ((9 : Nat) -
      y.1) y.2.1 = goal l ns (ZI (NI x_1.1))) ∧ y.2.1 < x_2.2.1 ∧ (Int.fdiv (NI x_2.2.1) (128 : Int) = (NI y.2.1) ∧ True) ∧ (SM x ∧ ((LN x_2.2.2.1 + N1 = LN y.2.2.1 ∧ (∀ (i : Nat), i < LN x_2.2.2.1 + N1 → appF (LN
      x_2.2.2.1) (fun (i : Nat) => [ZB (BI x_2.2.2.1 i)]) (fun (i : Nat) => List.getD [[ZB (orI IntKind.u8 (IntKind.wrap IntKind.u8 (NI x_2.2.1)) (128 : Int))]] i []) i = [ZB (BI y.2.2.1 i)]) ∧ t = y.2.2.2) ∧ True) ∧
      True) ∧ t = y.2.2.2 ∧ True)) (SM x ∧ SM x_2.2.2.2 ∧ side ((LN x_2.2.2.1 + N1) * N1 ≤ (140737488355328 : Nat) ∧ LN x_2.2.2.1 + N1 ≤ (9223372036854775807 : Nat)) (∀ (t : Nat), SM x ∧ (SM (D.ref N0 x N0) ∧ SM (D.sl N1
      (LN ns) (fun (i : Nat) => [ZI (GI ns i)]) m) ∧ SM (ZI (LI ns)) ∧ True) ∧ ∃ (y : Nat × Nat), y.1 ≤ LN ns ∧ LN ns - y.1 < LN ns - x_1.1 ∧ (IntKind.wrap IntKind.i64 ((NI x_1.1) + Z1) = (NI y.1) ∧ True) ∧ (SM x ∧ ((LN
      x_2.2.2.1 + N1 = LN (l ++ numsB (List.take y.1 ns)) ∧ (∀ (i : Nat), i < LN x_2.2.2.1 + N1 → appF (LN x_2.2.2.1) (fun (i : Nat) => [ZB (BI x_2.2.2.1 i)]) (fun (i : Nat) => List.getD [[ZB (IntKind.wrap IntKind.u8 (NI
      x_2.2.1))]] i []) i = [ZB (BI (l ++ numsB (List.take y.1 ns)) i)]) ∧ t = y.2) ∧ True) ∧ True) ∧ t = y.2 ∧ True))))) (True ∧ ∃ (y : Nat), True ∧ True ∧ (SM x ∧ ((LN (l ++ numsB (List.take x_1.1 ns)) = LN (l ++ numsB
      ns) ∧ (∀ (i : Nat), i < LN (l ++ numsB (List.take x_1.1 ns)) → [ZB (BI (l ++ numsB (List.take x_1.1 ns)) i)] = [ZB (BI (l ++ numsB ns) i)]) ∧ x_1.2 = y) ∧ True) ∧ True) ∧ x_1.2 = y ∧ True)) (by kernel_rfl) ?_
  delta BI GI LI LN N0 N1 N2 NI SM TN U0 Z0 Z1 ZB ZI
  simp only [ifB_iff, side_iff, decide_eq_true_eq, decide_eq_false_iff_not, true_and, and_true, Int.toNat_natCast, goal]
  refine ⟨?_, ?_⟩
  · exact ⟨(0, t), Nat.zero_le _, rfl, ⟨by simp [numsB], fun k _ => by simp [numsB], rfl⟩, rfl⟩
  · rintro ⟨i, t1⟩ hi
    simp only at hi
    have hstart : ∀ n, n ∈ ns → ∀ hlt : i < ns.length, zig (ns.getD i 0) < 2 ^ 64 → (0 : Nat) ≤ 9 ∧ zig (ns.getD i 0) < 2 ^ (64 - 7 * 0) ∧ (l ++ numsB (ns.take i)).length ≤ l.length + 10 * ns.length ∧ (l ++ numsB (ns.take i)) ++ uBf (9 - 0) (zig (ns.getD i 0)) = l ++ numsB (ns.take (i + 1)) := by
      intro n _ hlt hz
      refine ⟨by omega, hz, ?_, ?_⟩
      · have := numsB_len (ns.take i)
        simp only [List.length_append, List.length_take] at this ⊢
        omega
      · rw [numsB_take ns hlt, List.append_assoc]
    have hin : ∀ hlt : i < ns.length, ns.getD i 0 ∈ ns := fun hlt => by
      rw [List.getD_eq_getElem?_getD, List.getElem?_eq_getElem hlt]; exact List.getElem_mem hlt
    refine ⟨fun hlt => ⟨⟨by omega, hlt⟩, fun hneg => ⟨?_, num_body hl (by simpa using hlt)⟩, fun hpos => ⟨?_, num_body hl (by simpa using hlt)⟩⟩, fun hge => ?_⟩
    · have hlt : i < ns.length := by simpa using hlt
      obtain ⟨z1, z2⟩ := zig_neg hneg (hn _ (hin hlt))
      exact ⟨(0, zig (ns.getD i 0), l ++ numsB (ns.take i), t1), hstart _ (hin hlt) hlt z2, z1, ⟨rfl, fun _ _ => rfl, rfl⟩, rfl⟩
    · have hlt : i < ns.length := by simpa using hlt
      obtain ⟨z1, z2⟩ := zig_pos hpos (hn _ (hin hlt))
      exact ⟨(0, zig (ns.getD i 0), l ++ numsB (ns.take i), t1), hstart _ (hin hlt) hlt z2, z1, ⟨rfl, fun _ _ => rfl, rfl⟩, rfl⟩
    · have : i = ns.length := by simp only at hge; omega
      subst this
      refine ⟨t1, ⟨?_, ?_, rfl⟩, rfl⟩
      · simp
      · intro k hk; simp
theorem numF_ok (x : Nat) (l : List UInt8) (ns : List Int) (m : Ab.Mode) (hl : l.length + 10 * ns.length ≤ 70368744177664) (hn : ∀ z, z ∈ ns → i64B z = true) :
    ACalls Try.prog 40 ((sNum x 0 l .full [] ns m).args ()) ((sNum x 0 l .full [] ns m).st ()) (SpecR (sNum x 0 l .full [] ns m) ()) := by
  refine con_of (A := sNum x 0 l .full [] ns m) (x := ()) (E := E40 x l ns [.cell 0 0]) (eOk con0_ok rfl) Try.func40 rfl (by kernel_rfl) rfl (by simp [sNum, E40, EC, E0]) ?_
  refine vc_eq (T :=
      ∀ (t : Nat), (∃ (x_1 : Nat × Nat), x_1.1 ≤ LN ns ∧ (Z0 = (NI x_1.1) ∧ True) ∧ (SM x ∧ ((LN l = LN (l ++ numsB (List.take x_1.1 ns)) ∧ (∀ (i : Nat), i < LN l → [ZB (BI l i)] = [ZB (BI (l ++ numsB (List.take x_1.1
      ns)) i)]) ∧ t = x_1.2) ∧ True) ∧ True) ∧ t = x_1.2 ∧ True) ∧ ∀ (x_1 : Nat × Nat), x_1.1 ≤ LN ns → ifB (decide ((NI x_1.1) < (LI ns))) (side (Z0 ≤ (NI x_1.1) ∧ (NI x_1.1) < (LI ns)) (ifB (decide (GI ns (TN x_1.1) <
      Z0)) ((∃ (x_2 : Nat × Nat × List UInt8 × Nat), (x_2.1 ≤ (9 : Nat) ∧ x_2.2.1 < N2 ^ ((64 : Nat) - (7 : Nat) * x_2.1) ∧ LN x_2.2.2.1 ≤ LN l + (10 : Nat) * LN ns ∧ x_2.2.2.1 ++ uBf ((9 : Nat) - x_2.1) x_2.2.1 = goal l
      ns (ZI (NI x_1.1))) ∧ (notI IntKind.u64 (IntKind.wrap IntKind.u64 (IntKind.wrap IntKind.u64 (GI ns (TN x_1.1)) * (2 : Int))) = (NI x_2.2.1) ∧ True) ∧ (SM x ∧ ((LN (l ++ numsB (List.take x_1.1 ns)) = LN x_2.2.2.1 ∧
      (∀ (i : Nat), i < LN (l ++ numsB (List.take x_1.1 ns)) → [ZB (BI (l ++ numsB (List.take x_1.1 ns)) i)] = [ZB (BI x_2.2.2.1 i)]) ∧ x_1.2 = x_2.2.2.2) ∧ True) ∧ True) ∧ x_1.2 = x_2.2.2.2 ∧ True) ∧ ∀ (x_2 : Nat × Nat
      × List UInt8 × Nat), x_2.1 ≤ (9 : Nat) ∧ x_2.2.1 < N2 ^ ((64 : Nat) - (7 : Nat) * x_2.1) ∧ LN x_2.2.2.1 ≤ LN l + (10 : Nat) * LN ns ∧ x_2.2.2.1 ++ uBf ((9 : Nat) - x_2.1) x_2.2.1 = goal l ns (ZI (NI x_1.1)) → ifB
      (decide ((128 : Int) ≤ (NI x_2.2.1))) (SM x ∧ SM x_2.2.2.2 ∧ side ((LN x_2.2.2.1 + N1) * N1 ≤ (140737488355328 : Nat) ∧ LN x_2.2.2.1 + N1 ≤ (9223372036854775807 : Nat)) (∀ (t : Nat), SM x ∧ (SM (D.ref N0 x N0) ∧ SM
      (D.sl N1 (LN ns) (fun (i : Nat) => [ZI (GI ns i)]) m) ∧ SM (ZI (LI ns)) ∧ SM (ZI (NI x_1.1)) ∧ True) ∧ ∃ (y : Nat × Nat × List UInt8 × Nat), (y.1 ≤ (9 : Nat) ∧ y.2.1 < N2 ^ ((64 : Nat) - (7 : Nat) * y.1) ∧ LN
      y.2.2.1 ≤ LN l + (10 : Nat) * LN ns ∧ y.2.2.1 ++ uBf ((9 : Nat) - y.1) y.2.1 = goal l ns (ZI (NI x_1.1))) ∧ y.2.1 < x_2.2.1 ∧ (Int.fdiv (NI x_2.2.1) (128 : Int) = (NI y.2.1) ∧ True) ∧ (SM x ∧ ((LN x_2.2.2.1 + N1 =
      LN y.2.2.1 ∧ (∀ (i : Nat), i < LN x_2.2.2.1 + N1 → appF (LN x_2.2.2.1) (fun (i : Nat) => [ZB (BI x_2.2.2.1 i)]) (fun (i : Nat) => List.getD [[ZB (orI IntKind.u8 (IntKind.wrap IntKind.u8 (NI x_2.2.1)) (128 : Int))]]
      i []) i = [ZB (BI y.2.2.1 i)]) ∧ t = y.2.2.2) ∧ True) ∧ True) ∧ t = y.2.2.2 ∧ True)) (SM x ∧ SM x_2.2.2.2 ∧ side ((LN x_2.2.2.1 + N1) * N1 ≤ (140737488355328 : Nat) ∧ LN x_2.2.2.1 + N1 ≤ (9223372036854775807 :
      Nat)) (∀ (t : Nat), SM x ∧ (SM (D.ref N0 x N0) ∧ SM (D.sl N1 (LN ns) (fun (i : Nat) => [ZI (GI ns i)]) m) ∧ SM (ZI (LI ns)) ∧ True) ∧ ∃ (y : Nat × Nat), y.1 ≤ LN ns ∧ LN ns - y.1 < LN ns - x_1.1 ∧ (IntKind.wrap
      IntKind.i64 ((NI x_1.1) + Z1) = (NI y.1) ∧ True) ∧ (SM x ∧ ((LN x_2.2.2.1 + N1 = LN (l ++ numsB (List.take y.1 ns)) ∧ (∀ (i : Nat), i < LN x_2.2.2.1 + N1 → appF (LN x_2.2.2.1) (fun (i : Nat) => [ZB (BI x_2.2.2.1
      i)]) (fun (i : Nat) => List.getD [[ZB (IntKind.wrap IntKind.u8 (NI x_2.2.1))]] i []) i = [ZB (BI (l ++ numsB (List.take y.1 ns)) i)]) ∧ t = y.2) ∧ True) ∧ True) ∧ t = y.2 ∧ True))) ((∃ (x_2 : Nat × Nat × List UInt8
      × Nat), (x_2.1 ≤ (9 : Nat) ∧ x_2.2.1 < N2 ^ ((64 : Nat) - (7 : Nat) * x_2.1) ∧ LN x_2.2.2.1 ≤ LN l + (10 : Nat) * LN ns ∧ x_2.2.2.1 ++ uBf ((9 : Nat) - x_2.1) x_2.2.1 = goal l ns (ZI (NI x_1.1))) ∧ (IntKind.wrap
      IntKind.u64 (IntKind.wrap IntKind.u64 (GI ns (TN x_1.1)) * (2 : Int)) = (NI x_2.2.1) ∧ True) ∧ (SM x ∧ ((LN (l ++ numsB (List.take x_1.1 ns)) = LN x_2.2.2.1 ∧ (∀ (i : Nat), i < LN (l ++ numsB (List.take x_1.1 ns))
      → [ZB (BI (l ++ numsB (List.take x_1.1 ns)) i)] = [ZB (BI x_2.2.2.1 i)]) ∧ x_1.2 = x_2.2.2.2) ∧ True) ∧ True) ∧ x_1.2 = x_2.2.2.2 ∧ True) ∧ ∀ (x_2 : Nat × Nat × List UInt8 × Nat), x_2.1 ≤ (9 : Nat) ∧ x_2.2.1 < N2 ^
      ((64 : Nat) - (7 : Nat) * x_2.1) ∧ LN x_2.2.2.1 ≤ LN l + (10 : Nat) * LN ns ∧ x_2.2.2.1 ++ uBf ((9 : Nat) - x_2.1) x_2.2.1 = goal l ns (ZI (NI x_1.1)) → ifB (decide ((128 : Int) ≤ (NI x_2.2.1))) (SM x ∧ SM
      x_2.2.2.2 ∧ side ((LN x_2.2.2.1 + N1) * N1 ≤ (140737488355328 : Nat) ∧ LN x_2.2.2.1 + N1 ≤ (9223372036854775807 : Nat)) (∀ (t : Nat), SM x ∧ (SM (D.ref N0 x N0) ∧ SM (D.sl N1 (LN ns) (fun (i : Nat) => [ZI (GI ns
      i)]) m) ∧ SM (ZI (LI ns)) ∧ SM (ZI (NI x_1.1)) ∧ True) ∧ ∃ (y : Nat × Nat × List UInt8 × Nat), (y.1 ≤ (9 : Nat) ∧ y.2.1 < N2 ^ ((64 : Nat) - (7 : Nat) * y.1) ∧ LN y.2.2.1 ≤ LN l + (10 : Nat) * LN ns ∧ y.2.2.1 ++
      uBf ((9 : Nat) - y.1) y.2.1 = goal l ns (ZI (NI x_1.1))) ∧ y.2.1 < x_2.2.1 ∧ (Int.fdiv (NI x_2.2.1) (128 : Int) = (NI y.2.1) ∧ True) ∧ (SM x ∧ ((LN x_2.2.2.1 + N1 = LN y.2.2.1 ∧ (∀ (i : Nat), i < LN x_2.2.2.1 + N1
      → appF (LN x_2.2.2.1) (fun (i : Nat) => [ZB (BI x_2.2.2.1 i)]) (fun (i : Nat) => List.getD [[ZB (orI IntKind.u8 (IntKind.wrap IntKind.u8 (NI x_2.2.1)) (128 : Int))]] i []) i = [ZB (BI y.2.2.1 i)]) ∧ t = y.2.2.2) ∧
      True) ∧ True) ∧ t = y.2.2.2 ∧ True)) (SM x ∧ SM x_2.2.2.2 ∧ side ((LN x_2.2.2.1 + N1) * N1 ≤ (140737488355328 : Nat) ∧ LN x_2.2.2.1 + N1 ≤ (9223372036854775807 : Nat)) (∀ (t : Nat), SM x ∧ (SM (D.ref N0 x N0) ∧ SM
      (D.sl N1 (LN ns) (fun (i : Nat) => [ZI (GI ns i)]) m) ∧ SM (ZI (LI ns)) ∧ True) ∧ ∃ (y : Nat × Nat), y.1 ≤ LN ns ∧ LN ns - y.1 < LN ns - x_1.1 ∧ (IntKind.wrap IntKind.i64 ((NI x_1.1) + Z1) = (NI y.1) ∧ True) ∧ (SM
      x ∧ ((LN x_2.2.2.1 + N1 = LN (l ++ numsB (List.take y.1 ns)) ∧ (∀ (i : Nat), i < LN x_2.2.2.1 + N1 → appF (LN x_2.2.2.1) (fun (i : Nat) => [ZB (BI x_2.2.2.1 i)]) (fun (i : Nat) => List.getD [[ZB (IntKind.wrap
      IntKind.u8 (NI x_2.2.1))]] i []) i = [ZB (BI (l ++ numsB (List.take y.1 ns)) i)]) ∧ t = y.2) ∧ True) ∧ True) ∧ t = y.2 ∧ True))))) (True ∧ ∃ (y : Nat), True ∧ True ∧ (SM x ∧ ((LN (l ++ numsB (List.take x_1.1 ns)) =
      LN (l ++ numsB ns) ∧ (∀ (i : Nat), i < LN (l ++ numsB (List.take x_1.1 ns)) → [ZB (BI (l ++ numsB (List.take x_1.1 ns)) i)] = [ZB (BI (l ++ numsB ns) i)]) ∧ x_1.2 = y) ∧ True) ∧ True) ∧ x_1.2 = y ∧ True)) (by kernel_rfl) ?_
  delta BI GI LI LN N0 N1 N2 NI SM TN U0 Z0 Z1 ZB ZI
  simp only [ifB_iff, side_iff, decide_eq_true_eq, decide_eq_false_iff_not, true_and, and_true, Int.toNat_natCast, goal]
  intro t
  refine ⟨?_, ?_⟩
  · exact ⟨(0, t), Nat.zero_le _, rfl, ⟨by simp [numsB], fun k _ => by simp [numsB], rfl⟩, rfl⟩
  · rintro ⟨i, t1⟩ hi
    simp only at hi
    have hstart : ∀ n, n ∈ ns → ∀ hlt : i < ns.length, zig (ns.getD i 0) < 2 ^ 64 → (0 : Nat) ≤ 9 ∧ zig (ns.getD i 0) < 2 ^ (64 - 7 * 0) ∧ (l ++ numsB (ns.take i)).length ≤ l.length + 10 * ns.length ∧ (l ++ numsB (ns.take i)) ++ uBf (9 - 0) (zig (ns.getD i 0)) = l ++ numsB (ns.take (i + 1)) := by
      intro n _ hlt hz
      refine ⟨by omega, hz, ?_, ?_⟩
      · have := numsB_len (ns.take i)
        simp only [List.length_append, List.length_take] at this ⊢
        omega
      · rw [numsB_take ns hlt, List.append_assoc]
    have hin : ∀ hlt : i < ns.length, ns.getD i 0 ∈ ns := fun hlt => by
      rw [List.getD_eq_getElem?_getD, List.getElem?_eq_getElem hlt]; exact List.getElem_mem hlt
    refine ⟨fun hlt => ⟨⟨by omega, hlt⟩, fun hneg => ⟨?_, num_body hl (by simpa using hlt)⟩, fun hpos => ⟨?_, num_body hl (by simpa using hlt)⟩⟩, fun hge => ?_⟩
    · have hlt : i < ns.length := by simpa using hlt
      obtain ⟨z1, z2⟩ := zig_neg hneg (hn _ (hin hlt))
      exact ⟨(0, zig (ns.getD i 0), l ++ numsB (ns.take i), t1), hstart _ (hin hlt) hlt z2, z1, ⟨rfl, fun _ _ => rfl, rfl⟩, rfl⟩
    · have hlt : i < ns.length := by simpa using hlt
      obtain ⟨z1, z2⟩ := zig_pos hpos (hn _ (hin hlt))
      exact ⟨(0, zig (ns.getD i 0), l ++ numsB (ns.take i), t1), hstart _ (hin hlt) hlt z2, z1, ⟨rfl, fun _ _ => rfl, rfl⟩, rfl⟩
    · have : i = ns.length := by simp only at hge; omega
      subst this
      refine ⟨t1, ⟨?_, ?_, rfl⟩, rfl⟩
      · simp
      · intro k hk; simp
end Go.Proofs.Ytoglbmhkfkghbaa
namespace Go.Proofs.Ytoglbmhkfkghbaa
open Go Go.Ab
set_option maxRecDepth 100000

def sNumK (k kt x : Nat) (l : List UInt8) (md : Ab.Mode) (ts : List (Nat × Nat)) (ns : List Int) (m : Ab.Mode) : FnSpec where
  β := Unit
  α := Nat × List UInt8
  args := fun _ => [.ref k x 0, isl ns m]
  st := fun _ => ⟨[(k, x, .cells [bsl l md])], ts⟩
  pre := fun _ => True
  post := fun _ y => y.2 = l ++ numsB ns
  res := fun _ _ => .ret (.tup [])
  out := fun _ y => ⟨[(k, x, .cells [bsl y.2 (.tok kt y.1)])], [(kt, y.1)]⟩
theorem numK_ok (k kt x t : Nat) (l : List UInt8) (ns : List Int) (m : Ab.Mode) (hl : l.length + 10 * ns.length ≤ 70368744177664) (hn : ∀ z, z ∈ ns → i64B z = true) :
    ACalls Try.prog 40 ((sNumK k kt x l (.tok kt t) [(kt, t)] ns m).args ()) ((sNumK k kt x l (.tok kt t) [(kt, t)] ns m).st ()) (SpecR (sNumK k kt x l (.tok kt t) [(kt, t)] ns m) ()) := by
  refine (wnum_ok x t l ns m hl hn).respec (A' := sNumK k kt x l (.tok kt t) [(kt, t)] ns m) (x' := ()) ?_ ?_ fun y _ => ⟨(y, l ++ numsB ns), rfl, ?_, ?_⟩
  · simp [sNumK, sNum, weakL, weakD, chk, isl, weakM_refl]
  · simp [sNumK, sNum, posS, posO, posT, weakO, weakL, weakD, chk, bsl, weakM]
  · simp [sNumK, sNum, weakEnd, weakD, weakL]
  · simp [sNumK, sNum, posS, posO, posT, weakO, weakL, weakD, chk, bsl, weakM]; rfl
theorem numFK_ok (k kt x : Nat) (l : List UInt8) (ns : List Int) (m : Ab.Mode) (hl : l.length + 10 * ns.length ≤ 70368744177664) (hn : ∀ z, z ∈ ns → i64B z = true) :
    ACalls Try.prog 40 ((sNumK k kt x l .full [] ns m).args ()) ((sNumK k kt x l .full [] ns m).st ()) (SpecR (sNumK k kt x l .full [] ns m) ()) := by
  refine (numF_ok x l ns m hl hn).respec (A' := sNumK k kt x l .full [] ns m) (x' := ()) ?_ ?_ fun y _ => ⟨(y, l ++ numsB ns), rfl, ?_, ?_⟩
  · simp [sNumK, sNum, weakL, weakD, chk, isl, weakM_refl]
  · simp [sNumK, sNum, posS, posO, posT, weakO, weakL, weakD, chk, bsl, weakM]
  · simp [sNumK, sNum, weakEnd, weakD, weakL]
  · simp [sNumK, sNum, posS, posO, posT, weakO, weakL, weakD, chk, bsl, weakM]; rfl

def rowInt : List D → Int
  | [.int _ z] => z
  | _ => 0
def rowI64 : List D → Bool
  | [.int .i64 z] => i64B z
  | _ => false
def intsOf (n : Nat) (f : Nat → List D) : List Int := (List.range n).map fun i => rowInt (f i)
def intsB (n : Nat) (f : Nat → List D) : Bool := (List.range n).all fun i => rowI64 (f i)
def fitP (n0 : Nat) (g : Nat → List D) (n : Nat) (f : Nat → List D) : Prop := rowsB n0 g = true ∧ intsB n f = true ∧ n0 + 10 * n ≤ 70368744177664
theorem bsl_weak {n : Nat} {g : Nat → List D} {m : Ab.Mode} (h : rowsB n g = true) : weakD (.sl 1 n g m) (bsl (bytesOf n g) m) := by
  simp only [bsl, weakD, chk_iff]
  refine ⟨by simp, by simp [bytesOf], fun i hi => ?_, weakM_refl m⟩
  have hb : rowB (g i) = true := List.all_eq_true.1 h i (List.mem_range.2 hi)
  have hg : (bytesOf n g).getD i 0 = rowByte (g i) := by simp [bytesOf, List.getD_eq_getElem?_getD, hi]
  rw [hg]
  unfold rowB at hb
  split at hb
  · rename_i d hd
    rw [hd]
    have := byteB_eq hb
    simp only [rowByte]
    rw [← this]
  · cases hb
theorem islW {n : Nat} {f : Nat → List D} {m : Ab.Mode} (h : intsB n f = true) : weakD (.sl 1 n f m) (isl (intsOf n f) m) := by
  simp only [isl, weakD, chk_iff]
  refine ⟨by simp, by simp [intsOf], fun i hi => ?_, weakM_refl m⟩
  have hb : rowI64 (f i) = true := List.all_eq_true.1 h i (List.mem_range.2 hi)
  have hg : (intsOf n f).getD i 0 = rowInt (f i) := by simp [intsOf, List.getD_eq_getElem?_getD, hi]
  rw [hg]
  unfold rowI64 at hb
  split at hb
  · rename_i z hd; rw [hd]; rfl
  · cases hb
theorem ints_i64 {n : Nat} {f : Nat → List D} (h : intsB n f = true) : ∀ z, z ∈ intsOf n f → i64B z = true := by
  intro z hz
  simp only [intsOf, List.mem_map, List.mem_range] at hz
  obtain ⟨i, hi, rfl⟩ := hz
  have hb : rowI64 (f i) = true := List.all_eq_true.1 h i (List.mem_range.2 hi)
  unfold rowI64 at hb
  split at hb
  · rename_i z hd; rw [hd]; exact hb
  · cases hb
def tokIs (ts : List (Nat × Nat)) (kt t : Nat) : Prop :=
  match getT ts kt with
  | some t' => t' = t
  | none => False
def conW (con : Nat → List D → St → Option FnSpec) (k : Nat) (ds : List D) (S : St) : Option FnSpec :=
  match k with
  | 40 => match ds with
    | [.ref k x 0, .sl 1 n f m] => match getO S.objs k with
      | some (y, .cells [.sl 1 n0 g md]) => match md with
        | .tok kt t => some ((sNumK k kt x (bytesOf n0 g) (.tok kt t) [(kt, t)] (intsOf n f) m).fits () (y = x ∧ tokIs S.toks kt t ∧ fitP n0 g n f))
        | .full => some ((sNumK k (nextTok S.toks) x (bytesOf n0 g) .full [] (intsOf n f) m).fits () (y = x ∧ fitP n0 g n f))
        | _ => none
      | _ => none
    | _ => none
  | _ => con k ds S
theorem conW_ok {con : Nat → List D → St → Option FnSpec} (hc : ConOk Try.prog con) : ConOk Try.prog (conW con) := by
  intro k ds S A h
  unfold conW at h
  split at h
  · split at h
    · rename_i k x n f m
      split at h
      · rename_i y n0 g md hg
        split at h
        · rename_i kt t
          injection h with h; subst h
          have key : ∀ p : fitP n0 g n f, ACalls Try.prog 40 ((sNumK k kt x (bytesOf n0 g) (.tok kt t) [(kt, t)] (intsOf n f) m).args ()) ((sNumK k kt x (bytesOf n0 g) (.tok kt t) [(kt, t)] (intsOf n f) m).st ()) (SpecR (sNumK k kt x (bytesOf n0 g) (.tok kt t) [(kt, t)] (intsOf n f) m) ()) := fun p =>
            numK_ok k kt x t _ _ m (by simpa [bytesOf, intsOf] using p.2.2) (ints_i64 p.2.1)
          refine ⟨fun _ hy => key hy.1.2.2, fun _ _ hy => ?_, fun h => nomatch h⟩
          obtain ⟨⟨e, ht, p⟩, _⟩ := hy
          subst e
          refine ⟨⟨by simp [weakD, chk], islW p.2.1, trivial⟩, chk_iff.2 ⟨rfl, ?_, ?_⟩⟩
          · simp only [FnSpec.fits, sNumK, leO, hg]
            exact ⟨trivial, ⟨bsl_weak p.1, trivial⟩, trivial⟩
          · unfold tokIs at ht
            simp only [FnSpec.fits, sNumK, leT]
            split at ht
            · rename_i t' e; rw [e]; exact ⟨ht, trivial⟩
            · exact ht.elim
        · injection h with h; subst h
          have key : ∀ p : fitP n0 g n f, ACalls Try.prog 40 ((sNumK k (nextTok S.toks) x (bytesOf n0 g) .full [] (intsOf n f) m).args ()) ((sNumK k (nextTok S.toks) x (bytesOf n0 g) .full [] (intsOf n f) m).st ()) (SpecR (sNumK k (nextTok S.toks) x (bytesOf n0 g) .full [] (intsOf n f) m) ()) := fun p =>
            numFK_ok k _ x _ _ m (by simpa [bytesOf, intsOf] using p.2.2) (ints_i64 p.2.1)
          refine ⟨fun _ hy => key hy.1.2, fun _ _ hy => ?_, fun h => nomatch h⟩
          obtain ⟨⟨e, p⟩, _⟩ := hy
          subst e
          refine ⟨⟨by simp [weakD, chk], islW p.2.1, trivial⟩, chk_iff.2 ⟨rfl, ?_, trivial⟩⟩
          simp only [FnSpec.fits, sNumK, leO, hg]
          exact ⟨trivial, ⟨bsl_weak p.1, trivial⟩, trivial⟩
        · cases h
      · cases h
    · cases h
  · exact hc _ _ _ _ h
theorem bytesOf_bsl (l : List UInt8) : bytesOf l.length (fun i => [.int .u8 ((l.getD i 0).toNat : Int)]) = l := by
  apply List.ext_getElem
  · simp [bytesOf]
  · intro i h1 h2
    simp only [bytesOf, List.getElem_map, List.getElem_range, rowByte, Ab.byteOf, List.getD_eq_getElem?_getD, List.getElem?_eq_getElem h2, Option.getD_some, Int.toNat_natCast, UInt8.ofNat_toNat]
theorem rowsB_bsl (l : List UInt8) : rowsB l.length (fun i => [.int .u8 ((l.getD i 0).toNat : Int)]) = true := by
  simp only [rowsB, List.all_eq_true, List.mem_range]
  intro i _
  have := (l.getD i 0).toNat_lt
  simp only [rowB, Ab.byteB, Bool.and_eq_true, decide_eq_true_eq]; omega
theorem i64B_iff {z : Int} : i64B z = true ↔ inI64 z := by simp [i64B, inI64]
theorem intsOf_isl (ns : List Int) : intsOf ns.length (fun i => [.int .i64 (ns.getD i 0)]) = ns := by
  apply List.ext_getElem
  · simp [intsOf]
  · intro i h1 h2
    simp only [intsOf, List.getElem_map, List.getElem_range, rowInt, List.getD_eq_getElem?_getD, List.getElem?_eq_getElem h2, Option.getD_some]
theorem fit_isl {l : List UInt8} {ns : List Int} (h : ∀ z ∈ ns, inI64 z) (hl : l.length + 10 * ns.length ≤ 70368744177664) : fitP l.length (fun i => [.int .u8 ((l.getD i 0).toNat : Int)]) ns.length (fun i => [.int .i64 (ns.getD i 0)]) := by
  refine ⟨rowsB_bsl l, ?_, hl⟩
  simp only [intsB, List.all_eq_true, List.mem_range]
  intro i hi
  simp only [rowI64]
  rw [i64B_iff]
  refine h _ ?_
  rw [List.getD_eq_getElem?_getD, List.getElem?_eq_getElem hi]; exact List.getElem_mem hi
theorem fit_lit (l : List UInt8) (ns : List Int) (h : ∀ z ∈ ns, inI64 z) (hl : l.length + 10 * ns.length ≤ 70368744177664) : fitP l.length (fun i => [.int .u8 ((l.getD i 0).toNat : Int)]) ns.length (fun i => (ns.map fun z => [D.int .i64 z]).getD i []) := by
  refine ⟨rowsB_bsl l, ?_, hl⟩
  simp only [intsB, List.all_eq_true, List.mem_range]
  intro i hi
  rw [List.getD_eq_getElem?_getD, List.getElem?_map, List.getElem?_eq_getElem hi, Option.map_some, Option.getD_some]
  simp only [rowI64]
  rw [i64B_iff]
  exact h _ (List.getElem_mem hi)
theorem tok_is (k t : Nat) : tokIs [(k, t)] k t := by simp [tokIs, getT]
end Go.Proofs.Ytoglbmhkfkghbaa
namespace Go.Proofs.Ytoglbmhkfkghbaa
open Go Go.Ab

/-! ### compiled programs as data -/
structure I4 where
  (a b c d : Int)
  deriving Inhabited
structure I6 where
  (a b c d e f : Int)
  deriving Inhabited
def I4.row (x : I4) : List D := [.int .i64 x.a, .int .i64 x.b, .int .i64 x.c, .int .i64 x.d]
def I6.row (x : I6) : List D := [.int .i64 x.a, .int .i64 x.b, .int .i64 x.c, .int .i64 x.d, .int .i64 x.e, .int .i64 x.f]
def I4.ok (x : I4) : Prop := inI64 x.a ∧ inI64 x.b ∧ inI64 x.c ∧ inI64 x.d
def I6.ok (x : I6) : Prop := inI64 x.a ∧ inI64 x.b ∧ inI64 x.c ∧ inI64 x.d ∧ inI64 x.e ∧ inI64 x.f
/-- A slice of things with rows. -/
def gsl {α : Type} [Inhabited α] (w : Nat) (g : α → List D) (l : List α) : D := .sl w l.length (fun i => g (l.getD i default)) .any
structure FnD where
  slots : Int
  code : List I4
  deriving Inhabited
structure KeD where
  inputs : Int
  ops : List I4
  (reduce at_ : Int)
  deriving Inhabited
structure LaD where
  regs : Int
  code : List I6
  deriving Inhabited
def FnD.row (f : FnD) : List D := [.int .i64 f.slots, gsl 4 I4.row f.code]
def KeD.row (k : KeD) : List D := [.int .i64 k.inputs, gsl 4 I4.row k.ops, .int .i64 k.reduce, .int .i64 k.at_]
def LaD.row (p : LaD) : List D := [.int .i64 p.regs, gsl 6 I6.row p.code]
def FnD.ok (f : FnD) : Prop := inI64 f.slots ∧ (∀ x ∈ f.code, x.ok) ∧ f.code.length ≤ maxLen
def KeD.ok (k : KeD) : Prop := inI64 k.inputs ∧ (∀ x ∈ k.ops, x.ok) ∧ k.ops.length ≤ maxLen ∧ inI64 k.reduce ∧ inI64 k.at_
def LaD.ok (p : LaD) : Prop := inI64 p.regs ∧ (∀ x ∈ p.code, x.ok) ∧ p.code.length ≤ maxLen
instance : Inhabited Arr := ⟨.mk 0 [] [] []⟩
structure CodD where
  consts : List Arr
  funs : List FnD
  kers : List KeD
  lanes : List LaD
def CodD.row (c : CodD) : List D := [gsl 4 Arr.row c.consts, gsl 2 FnD.row c.funs, gsl 4 KeD.row c.kers, gsl 2 LaD.row c.lanes]
def CodD.ok (c : CodD) : Prop := (∀ x ∈ c.consts, x.ok) ∧ (∀ x ∈ c.funs, x.ok) ∧ (∀ x ∈ c.kers, x.ok) ∧ (∀ x ∈ c.lanes, x.ok) ∧ c.consts.length ≤ maxLen ∧ c.funs.length ≤ maxLen ∧ c.kers.length ≤ maxLen ∧ c.lanes.length ≤ maxLen

/-- What a slice of such things reads as. -/
def RG {α : Type} [Inhabited α] (w : Nat) (g : α → List D) (Q : α → Prop) : List D → Prop := fun ds => ∃ l : List α, (∀ a ∈ l, Q a) ∧ l.length ≤ maxLen ∧ ds = [gsl w g l]
theorem read_g {α : Type} [Inhabited α] {W : World} {w : Nat} {g : α → List D} {Q : α → Prop} {R : List D → Prop} {t e : TypeId} (ht : Try.prog.underlying t = some (.slice e)) (hw : Try.prog.cellsOf e = w) (hc : 0 < w) (hR : ∀ x, R x → ∃ a, Q a ∧ x = g a) (he : ∀ n, ReadAt Try.prog W n e R) (n : Nat) :
    ReadAt Try.prog W n t (RG w g Q) := by
  cases n with
  | zero => exact .zero _ _
  | succ n =>
    refine (read_sliceA ht hw hc (he n)).weak ?_
    rintro ds vs ⟨l, h1, h2, rfl⟩ h
    obtain ⟨l', q, rfl⟩ := rows_of hR l h1
    refine ⟨_, ⟨l', q, by simpa using h2, rfl⟩, weakL_weak _ _ ?_ _ _ h⟩
    simp only [gsl, weakL, weakD, chk_iff]
    refine ⟨⟨by simp, by simp, fun i hi => ?_, by simp [weakM]⟩, trivial⟩
    have hi : i < l'.length := by simpa using hi
    simp [List.getD_eq_getElem?_getD, hi]
theorem read_int' {W : World} {t : TypeId} (ht : Try.prog.underlying t = some (.int .i64)) (n : Nat) : ReadAt Try.prog W n t (RInt .i64) := read_int ht W n
theorem read4 {W : World} {t : TypeId} {fs : Array Field} {t1 t2 t3 t4 : TypeId} (ht : Try.prog.underlying t = some (.struct fs)) (hl : layB Try.prog fs.toList 0 (Try.prog.cellsOf t) = true) (hts : fs.toList.map (·.type) = [t1, t2, t3, t4])
    (hi : ∀ k ∈ [t1, t2, t3, t4], Try.prog.underlying k = some (.int .i64)) (n : Nat) : ReadAt Try.prog W n t (fun ds => ∃ x : I4, x.ok ∧ ds = x.row) := by
  cases n with
  | zero => exact .zero _ _
  | succ n =>
    refine (read_struct ht hl (Rs := [RInt .i64, RInt .i64, RInt .i64, RInt .i64]) ?_).mono ?_
    · match hfs : fs.toList, hts with
      | [f1, f2, f3, f4], hts =>
        simp only [List.map_cons, List.map_nil, List.cons.injEq, and_true] at hts
        obtain ⟨rfl, rfl, rfl, rfl⟩ := hts
        exact ⟨read_int (hi _ (by simp)) W n, read_int (hi _ (by simp)) W n, read_int (hi _ (by simp)) W n, read_int (hi _ (by simp)) W n, trivial⟩
    · rintro ds ⟨_, _, h1, ⟨_, _, h2, ⟨_, _, h3, ⟨_, _, h4, h5, rfl⟩, rfl⟩, rfl⟩, rfl⟩
      obtain rfl : _ = [] := h5
      obtain ⟨a, ha, rfl⟩ := int_row _ h1
      obtain ⟨b, hb, rfl⟩ := int_row _ h2
      obtain ⟨c, hc, rfl⟩ := int_row _ h3
      obtain ⟨d, hd, rfl⟩ := int_row _ h4
      exact ⟨⟨a, b, c, d⟩, ⟨ha, hb, hc, hd⟩, rfl⟩
theorem read_instr (W : World) (n : Nat) : ReadAt Try.prog W n 45 (fun ds => ∃ x : I4, x.ok ∧ ds = x.row) :=
  read4 Try.underlying45 (by kernel_rfl) (t1 := 43) (t2 := 3) (t3 := 3) (t4 := 3) rfl (by intro k hk; simp only [List.mem_cons, List.not_mem_nil, or_false] at hk; rcases hk with rfl | rfl | rfl | rfl <;> kernel_rfl) n
theorem read_kop (W : World) (n : Nat) : ReadAt Try.prog W n 88 (fun ds => ∃ x : I4, x.ok ∧ ds = x.row) :=
  read4 Try.underlying88 (by kernel_rfl) (t1 := 55) (t2 := 3) (t3 := 3) (t4 := 3) rfl (by intro k hk; simp only [List.mem_cons, List.not_mem_nil, or_false] at hk; rcases hk with rfl | rfl | rfl | rfl <;> kernel_rfl) n
theorem read_fn (W : World) (n : Nat) : ReadAt Try.prog W n 48 (fun ds => ∃ x : FnD, x.ok ∧ ds = x.row) := by
  cases n with
  | zero => exact .zero _ _
  | succ n =>
    refine (read_struct Try.underlying48 (by kernel_rfl) (Rs := [RInt .i64, RG 4 I4.row I4.ok]) ⟨read_int Try.underlying3 W n, read_g Try.underlying46 (by kernel_rfl) (by decide) (fun _ h => h) (read_instr W) n, trivial⟩).mono ?_
    rintro ds ⟨_, _, h1, ⟨_, _, ⟨l, q, hl, rfl⟩, h5, rfl⟩, rfl⟩
    obtain rfl : _ = [] := h5
    obtain ⟨a, ha, rfl⟩ := int_row _ h1
    exact ⟨⟨a, l⟩, ⟨ha, q, hl⟩, rfl⟩
theorem read6 {W : World} {t : TypeId} {fs : Array Field} {t1 t2 t3 t4 t5 t6 : TypeId} (ht : Try.prog.underlying t = some (.struct fs)) (hl : layB Try.prog fs.toList 0 (Try.prog.cellsOf t) = true) (hts : fs.toList.map (·.type) = [t1, t2, t3, t4, t5, t6])
    (hi : ∀ k ∈ [t1, t2, t3, t4, t5, t6], Try.prog.underlying k = some (.int .i64)) (n : Nat) : ReadAt Try.prog W n t (fun ds => ∃ x : I6, x.ok ∧ ds = x.row) := by
  cases n with
  | zero => exact .zero _ _
  | succ n =>
    refine (read_struct ht hl (Rs := [RInt .i64, RInt .i64, RInt .i64, RInt .i64, RInt .i64, RInt .i64]) ?_).mono ?_
    · match hfs : fs.toList, hts with
      | [f1, f2, f3, f4, f5, f6], hts =>
        simp only [List.map_cons, List.map_nil, List.cons.injEq, and_true] at hts
        obtain ⟨rfl, rfl, rfl, rfl, rfl, rfl⟩ := hts
        exact ⟨read_int (hi _ (by simp)) W n, read_int (hi _ (by simp)) W n, read_int (hi _ (by simp)) W n, read_int (hi _ (by simp)) W n, read_int (hi _ (by simp)) W n, read_int (hi _ (by simp)) W n, trivial⟩
    · rintro ds ⟨_, _, h1, ⟨_, _, h2, ⟨_, _, h3, ⟨_, _, h4, ⟨_, _, h5, ⟨_, _, h6, h7, rfl⟩, rfl⟩, rfl⟩, rfl⟩, rfl⟩, rfl⟩
      obtain rfl : _ = [] := h7
      obtain ⟨a, ha, rfl⟩ := int_row _ h1
      obtain ⟨b, hb, rfl⟩ := int_row _ h2
      obtain ⟨c, hc, rfl⟩ := int_row _ h3
      obtain ⟨d, hd, rfl⟩ := int_row _ h4
      obtain ⟨e, he, rfl⟩ := int_row _ h5
      obtain ⟨f, hf, rfl⟩ := int_row _ h6
      exact ⟨⟨a, b, c, d, e, f⟩, ⟨ha, hb, hc, hd, he, hf⟩, rfl⟩
theorem read_lop (W : World) (n : Nat) : ReadAt Try.prog W n 91 (fun ds => ∃ x : I6, x.ok ∧ ds = x.row) :=
  read6 Try.underlying91 (by kernel_rfl) (t1 := 89) (t2 := 55) (t3 := 3) (t4 := 3) (t5 := 3) (t6 := 3) rfl (by intro k hk; simp only [List.mem_cons, List.not_mem_nil, or_false] at hk; rcases hk with rfl | rfl | rfl | rfl | rfl | rfl <;> kernel_rfl) n
theorem read_ker (W : World) (n : Nat) : ReadAt Try.prog W n 57 (fun ds => ∃ x : KeD, x.ok ∧ ds = x.row) := by
  cases n with
  | zero => exact .zero _ _
  | succ n =>
    refine (read_struct Try.underlying57 (by kernel_rfl) (Rs := [RInt .i64, RG 4 I4.row I4.ok, RInt .i64, RInt .i64]) ⟨read_int Try.underlying3 W n, read_g Try.underlying54 (by kernel_rfl) (by decide) (fun _ h => h) (read_kop W) n, read_int (by kernel_rfl) W n, read_int Try.underlying3 W n, trivial⟩).mono ?_
    rintro ds ⟨_, _, h1, ⟨_, _, ⟨l, q, hl, rfl⟩, ⟨_, _, h3, ⟨_, _, h4, h5, rfl⟩, rfl⟩, rfl⟩, rfl⟩
    obtain rfl : _ = [] := h5
    obtain ⟨a, ha, rfl⟩ := int_row _ h1
    obtain ⟨r, hr, rfl⟩ := int_row _ h3
    obtain ⟨t, ht, rfl⟩ := int_row _ h4
    exact ⟨⟨a, l, r, t⟩, ⟨ha, q, hl, hr, ht⟩, rfl⟩
theorem read_lane (W : World) (n : Nat) : ReadAt Try.prog W n 60 (fun ds => ∃ x : LaD, x.ok ∧ ds = x.row) := by
  cases n with
  | zero => exact .zero _ _
  | succ n =>
    refine (read_struct Try.underlying60 (by kernel_rfl) (Rs := [RInt .i64, RG 6 I6.row I6.ok]) ⟨read_int Try.underlying3 W n, read_g Try.underlying58 (by kernel_rfl) (by decide) (fun _ h => h) (read_lop W) n, trivial⟩).mono ?_
    rintro ds ⟨_, _, h1, ⟨_, _, ⟨l, q, hl, rfl⟩, h5, rfl⟩, rfl⟩
    obtain rfl : _ = [] := h5
    obtain ⟨a, ha, rfl⟩ := int_row _ h1
    exact ⟨⟨a, l⟩, ⟨ha, q, hl⟩, rfl⟩
/-- What a compiled program reads as. -/
theorem read_code : Reads Try.prog 32 (fun ds => ∃ c : CodD, c.ok ∧ ds = c.row) := by
  intro W n
  cases n with
  | zero => exact .zero _ _
  | succ n =>
    refine (read_struct Try.underlying32 (by kernel_rfl) (Rs := [RG 4 Arr.row Arr.ok, RG 2 FnD.row FnD.ok, RG 4 KeD.row KeD.ok, RG 2 LaD.row LaD.ok]) ⟨read_g Try.underlying27 (by kernel_rfl) (by decide) (fun _ h => h) (read_arr W) n,
      read_g Try.underlying28 (by kernel_rfl) (by decide) (fun _ h => h) (read_fn W) n, read_g Try.underlying29 (by kernel_rfl) (by decide) (fun _ h => h) (read_ker W) n, read_g Try.underlying30 (by kernel_rfl) (by decide) (fun _ h => h) (read_lane W) n, trivial⟩).mono ?_
    rintro ds ⟨_, _, ⟨l1, q1, h1, rfl⟩, ⟨_, _, ⟨l2, q2, h2, rfl⟩, ⟨_, _, ⟨l3, q3, h3, rfl⟩, ⟨_, _, ⟨l4, q4, h4, rfl⟩, h5, rfl⟩, rfl⟩, rfl⟩, rfl⟩
    obtain rfl : _ = [] := h5
    exact ⟨⟨l1, l2, l3, l4⟩, ⟨q1, q2, q3, q4, h1, h2, h3, h4⟩, rfl⟩
/-! Short names for what the printed conditions repeat. -/
def D4 : I4 := I4.mk (0 : Int) (0 : Int) (0 : Int) (0 : Int)
def D6 : I6 := I6.mk (0 : Int) (0 : Int) (0 : Int) (0 : Int) (0 : Int) (0 : Int)
def DF : FnD := FnD.mk (0 : Int) []
def DK : KeD := KeD.mk (0 : Int) [] (0 : Int) (0 : Int)
def DL : LaD := LaD.mk (0 : Int) []
def DA : Arr := Arr.mk (0 : Int) [] [] []
def GC (c : CodD) (i : Nat) : Arr := List.getD (CodD.consts c) i (Arr.mk (0 : Int) [] [] [])
def GF (c : CodD) (i : Nat) : FnD := List.getD (CodD.funs c) i (FnD.mk (0 : Int) [])
def GK (c : CodD) (i : Nat) : KeD := List.getD (CodD.kers c) i (KeD.mk (0 : Int) [] (0 : Int) (0 : Int))
def GL (c : CodD) (i : Nat) : LaD := List.getD (CodD.lanes c) i (LaD.mk (0 : Int) [])
def G4 (l : List I4) (i : Nat) : I4 := List.getD l i (I4.mk (0 : Int) (0 : Int) (0 : Int) (0 : Int))
def G6 (l : List I6) (i : Nat) : I6 := List.getD l i (I6.mk (0 : Int) (0 : Int) (0 : Int) (0 : Int) (0 : Int) (0 : Int))
def GA (l : List Arr) (i : Nat) : Arr := List.getD l i (Arr.mk (0 : Int) [] [] [])
def R4 (x : I4) : List D := [D.int IntKind.i64 (I4.a x), D.int IntKind.i64 (I4.b x), D.int IntKind.i64 (I4.c x), D.int IntKind.i64 (I4.d x)]
def R6 (x : I6) : List D := [D.int IntKind.i64 (I6.a x), D.int IntKind.i64 (I6.b x), D.int IntKind.i64 (I6.c x), D.int IntKind.i64 (I6.d x), D.int IntKind.i64 (I6.e x), D.int IntKind.i64 (I6.f x)]
def S4 (l : List I4) : D := D.sl (4 : Nat) (List.length l) (fun (i : Nat) => [D.int IntKind.i64 (I4.a (List.getD l i (I4.mk (0 : Int) (0 : Int) (0 : Int) (0 : Int)))), D.int IntKind.i64 (I4.b (List.getD l i (I4.mk (0 : Int) (0 : Int) (0 : Int) (0 : Int)))), D.int IntKind.i64 (I4.c (List.getD l i (I4.mk (0 : Int) (0 : Int) (0 : Int) (0 : Int)))), D.int IntKind.i64 (I4.d (List.getD l i (I4.mk (0 : Int) (0 : Int) (0 : Int) (0 : Int))))]) Mode.any
def S6 (l : List I6) : D := D.sl (6 : Nat) (List.length l) (fun (i : Nat) => [D.int IntKind.i64 (I6.a (List.getD l i (I6.mk (0 : Int) (0 : Int) (0 : Int) (0 : Int) (0 : Int) (0 : Int)))), D.int IntKind.i64 (I6.b (List.getD l i (I6.mk (0 : Int) (0 : Int) (0 : Int) (0 : Int) (0 : Int) (0 : Int)))), D.int IntKind.i64 (I6.c (List.getD l i (I6.mk (0 : Int) (0 : Int) (0 : Int) (0 : Int) (0 : Int) (0 : Int)))), D.int IntKind.i64 (I6.d (List.getD l i (I6.mk (0 : Int) (0 : Int) (0 : Int) (0 : Int) (0 : Int) (0 : Int)))), D.int IntKind.i64 (I6.e (List.getD l i (I6.mk (0 : Int) (0 : Int) (0 : Int) (0 : Int) (0 : Int) (0 : Int)))), D.int IntKind.i64 (I6.f (List.getD l i (I6.mk (0 : Int) (0 : Int) (0 : Int) (0 : Int) (0 : Int) (0 : Int))))]) Mode.any
end Go.Proofs.Ytoglbmhkfkghbaa
namespace Go.Proofs.Ytoglbmhkfkghbaa
open Go Go.Ab

/-! ### shapes -/
def intD : List D → Int
  | [.int _ z] => z
  | _ => 0
def intsD (n : Nat) (f : Nat → List D) : List Int := (List.range n).map fun i => intD (f i)
theorem intsD_isl (l : List Int) : intsD l.length (fun i => [D.int .i64 (l.getD i 0)]) = l := by
  apply List.ext_getElem
  · simp [intsD]
  · intro i h1 h2
    simp [intsD, intD, List.getD_eq_getElem?_getD, h2]
/-- The arguments are a slice of integers. -/
def IntsP (n : Nat) (f : Nat → List D) : Prop := ∀ i, i < n → f i = [.int .i64 (intD (f i))]
theorem isl_weak {n : Nat} {f : Nat → List D} {m : Ab.Mode} (h : IntsP n f) : weakL [.sl 1 n f m] [isl (intsD n f) .any] := by
  simp only [isl, weakL, weakD, chk_iff]
  refine ⟨⟨by simp, by simp [intsD], fun i hi => ?_, by simp [weakM]⟩, trivial⟩
  have e : (intsD n f).getD i 0 = intD (f i) := by simp [intsD, List.getD_eq_getElem?_getD, hi]
  rw [e]
  exact h i hi
/-- The product of the dimensions other than 0, if the shape is valid but for its length. -/
def goO : List Int → Int → Option Int
  | [], p => some p
  | d :: r, p => if d < 0 ∨ 65536 < d then none else if d = 0 then goO r p else if 65536 < p * d then none else goO r (p * d)
def rightS (s : List Int) : Bool := decide (s.length ≤ 8) && (goO s 1).isSome
def sizeS (s : List Int) : Int := if s.contains 0 then 0 else (goO s 1).getD 0
structure GoHead (l : List Int) (i : Nat) (p : Int) : Prop where
  hi : i ≤ l.length
  h1 : 1 ≤ p
  h2 : p ≤ 65536
  hg : goO (l.drop i) p = goO l 1
theorem GoHead.init (l : List Int) : GoHead l 0 1 := ⟨Nat.zero_le _, by omega, by omega, by simp⟩
theorem drop_stepI {l : List Int} {i : Nat} (h : i < l.length) : l.drop i = l.getD i 0 :: l.drop (i + 1) := drop_step h
theorem GoHead.step {l : List Int} {i : Nat} {p : Int} (h : GoHead l i p) (hlt : i < l.length) :
    (l.getD i 0 < 0 → goO l 1 = none) ∧ (65536 < l.getD i 0 → goO l 1 = none) ∧ (l.getD i 0 = 0 → GoHead l (i + 1) p) ∧
    (¬ l.getD i 0 < 0 → ¬ 65536 < l.getD i 0 → 0 ≤ p * l.getD i 0 ∧ p * l.getD i 0 ≤ 4294967296 ∧ (65536 < p * l.getD i 0 → l.getD i 0 ≠ 0 → goO l 1 = none) ∧ (¬ 65536 < p * l.getD i 0 → l.getD i 0 ≠ 0 → GoHead l (i + 1) (p * l.getD i 0))) := by
  have hg := h.hg
  rw [drop_stepI hlt, goO] at hg
  generalize l.getD i 0 = d at *
  refine ⟨fun h0 => ?_, fun h0 => ?_, fun h0 => ?_, fun h0 h3 => ?_⟩
  · rw [if_pos (.inl h0)] at hg; exact hg.symm
  · rw [if_pos (.inr h0)] at hg; exact hg.symm
  · subst h0
    simp at hg
    exact ⟨by omega, h.h1, h.h2, hg⟩
  · have b1 : 0 ≤ p * d := Int.mul_nonneg (by have := h.h1; omega) (by omega)
    have b2 : p * d ≤ 65536 * 65536 := Int.mul_le_mul h.h2 (by omega) (by omega) (by omega)
    refine ⟨b1, by omega, fun h4 h5 => ?_, fun h4 h5 => ?_⟩
    · rw [if_neg (by omega), if_neg h5, if_pos h4] at hg; exact hg.symm
    · rw [if_neg (by omega), if_neg h5, if_neg h4] at hg
      refine ⟨by omega, ?_, by omega, hg⟩
      have : 0 < p * d := Int.mul_pos (by have := h.h1; omega) (by omega)
      omega
theorem GoHead.done {l : List Int} {i : Nat} {p : Int} (h : GoHead l i p) (hge : ¬ (i : Int) < l.length) : goO l 1 = some p := by
  have hg := h.hg
  have : i = l.length := by have := h.hi; omega
  rw [this, List.drop_length, goO] at hg
  exact hg.symm
noncomputable def Eright (l : List Int) : Senv := { EC con0 31 1 [2, 3, 5, 8, 9, 10, 11, 12, 15, 22, 29] (fun _ => ([], [])) with
  ann := fun b _ _ => match b with
    | 0 => some { slots := [11, 3], keep := [9, 10], α := Nat × Int, st := fun y => ([.int .i64 y.1, .int .i64 y.2], ⟨[], []⟩), inv := fun y => GoHead l y.1 y.2, mu := fun y => l.length - y.1 }
    | _ => none }
theorem right_ok (l : List Int) : ACalls Try.prog 78 [isl l .any] ⟨[], []⟩ (SpecR (sC [isl l .any] (.bool (rightS l))) ()) := by
  refine con_of (A := sC _ _) (x := ()) (E := Eright l) (eOk con0_ok rfl) Try.func78 rfl (by kernel_rfl) rfl (by simp [sC, Eright, EC, E0]) ?_
  refine vc_eq (T :=
      ifB (decide ((8 : Int) < (LI l))) (True ∧ ∃ (y : Unit), True ∧ false = rightS l ∧ True ∧ True) ((∃ (x : Nat × Int), GoHead l x.1 x.2 ∧ (Z0 = (NI x.1) ∧ Z1 = x.2 ∧ True) ∧ True ∧ True) ∧ ∀ (x : Nat × Int), GoHead l
      x.1 x.2 → ifB (decide ((NI x.1) < (LI l))) (side (Z0 ≤ (NI x.1) ∧ (NI x.1) < (LI l)) (ifB (decide (GI l (TN x.1) < Z0)) ((true = bif decide (GI l (TN x.1) < Z0) then true else decide ((65536 : Int) < GI l (TN
      x.1))) ∧ True) ((decide ((65536 : Int) < GI l (TN x.1)) = bif decide (GI l (TN x.1) < Z0) then true else decide ((65536 : Int) < GI l (TN x.1))) ∧ True) ∧ ifB (bif decide (GI l (TN x.1) < Z0) then true else decide
      ((65536 : Int) < GI l (TN x.1))) (True ∧ ∃ (y : Unit), True ∧ false = rightS l ∧ True ∧ True) (ifB (GI l (TN x.1) == Z0) ((SM (SI l) ∧ SM (ZI (LI l)) ∧ True) ∧ ∃ (y : Nat × Int), GoHead l y.1 y.2 ∧ LN l - y.1 < LN
      l - x.1 ∧ (IntKind.wrap IntKind.i64 ((NI x.1) + Z1) = (NI y.1) ∧ x.2 = y.2 ∧ True) ∧ True ∧ True) (ifB (decide ((65536 : Int) < IntKind.wrap IntKind.i64 (x.2 * GI l (TN x.1)))) (True ∧ ∃ (y : Unit), True ∧ false =
      rightS l ∧ True ∧ True) ((SM (SI l) ∧ SM (ZI (LI l)) ∧ True) ∧ ∃ (y : Nat × Int), GoHead l y.1 y.2 ∧ LN l - y.1 < LN l - x.1 ∧ (IntKind.wrap IntKind.i64 ((NI x.1) + Z1) = (NI y.1) ∧ IntKind.wrap IntKind.i64 (x.2 *
      GI l (TN x.1)) = y.2 ∧ True) ∧ True ∧ True))))) (True ∧ ∃ (y : Unit), True ∧ true = rightS l ∧ True ∧ True))) (by kernel_rfl) ?_
  delta GI LI LN N1 NI SI SM TN Z0 Z1 ZI
  simp only [Int.toNat_natCast, ifB_iff, side_iff, decide_eq_true_eq, decide_eq_false_iff_not, true_and, and_true, beq_iff_eq, bne_iff_ne, Bool.cond_false_right, Bool.cond_true_left, Bool.and_eq_true, Bool.and_eq_false_iff, beq_eq_false_iff_ne, ne_eq, exists_const]
  have no : goO l 1 = none → false = rightS l := fun h => by simp [rightS, h]
  refine ⟨fun h => ?_, fun h8 => ⟨⟨(0, 1), GoHead.init l, rfl, rfl⟩, ?_⟩⟩
  · have : ¬ l.length ≤ 8 := by omega
    simp [rightS, this]
  rintro ⟨i, p⟩ hh
  simp only at hh ⊢
  refine ⟨fun hlt => ?_, fun hge => ?_⟩
  rotate_left
  · have : l.length ≤ 8 := by omega
    simp [rightS, hh.done hge, this]
  have hlt' : i < l.length := by omega
  obtain ⟨s1, s2, s3, s4⟩ := hh.step hlt'
  refine ⟨by omega, ⟨fun h => by rw [decide_eq_true h]; rfl, fun h => by rw [decide_eq_false h]; rfl⟩, fun h => no ?_, fun h => ?_⟩
  · rw [Bool.or_eq_true, decide_eq_true_eq, decide_eq_true_eq] at h
    exact h.elim s1 s2
  · rw [Bool.or_eq_false_iff, decide_eq_false_iff_not, decide_eq_false_iff_not] at h
    obtain ⟨b1, b2, s5, s6⟩ := s4 h.1 h.2
    have hw : IntKind.i64.wrap (p * l.getD i 0) = p * l.getD i 0 := wrap_i64' (by omega) (by omega)
    rw [hw]
    exact ⟨fun hd => ⟨(i + 1, p), s3 hd, by simp only; omega, wrap_i64' (by omega) (by omega), rfl⟩, fun hd => ⟨fun h4 => no (s5 h4 hd), fun h4 => ⟨(i + 1, p * l.getD i 0), s6 h4 hd, by simp only; omega, wrap_i64' (by omega) (by omega), rfl⟩⟩⟩
noncomputable def Erright (l : List Int) : Senv := { EC con0 39 1 [2, 3, 4, 7, 11, 25, 30, 38] (fun _ => ([], [])) with
  ann := fun b _ _ => match b with
    | 0 => some { slots := [4, 3], keep := [0], α := Nat × Int, st := fun y => ([.int .i64 y.1, .int .i64 y.2], ⟨[], []⟩), inv := fun y => GoHead l y.1 y.2, mu := fun y => l.length - y.1 }
    | _ => none }
theorem rright_ok (l : List Int) : ACalls Try.prog 74 [isl l .any] ⟨[], []⟩ (SpecR (sC [isl l .any] (.bool (rightS l))) ()) := by
  refine con_of (A := sC _ _) (x := ()) (E := Erright l) (eOk con0_ok rfl) Try.func74 rfl (by kernel_rfl) rfl (by simp [sC, Erright, EC, E0]) ?_
  refine vc_eq (T :=
      ifB (decide ((8 : Int) < (LI l))) (True ∧ ∃ (y : Unit), True ∧ false = rightS l ∧ True ∧ True) ((∃ (x : Nat × Int), GoHead l x.1 x.2 ∧ (Z0 = (NI x.1) ∧ Z1 = x.2 ∧ True) ∧ True ∧ True) ∧ ∀ (x : Nat × Int), GoHead l
      x.1 x.2 → ifB (decide ((NI x.1) < (LI l))) (side (Z0 ≤ (NI x.1) ∧ (NI x.1) < (LI l)) (ifB (decide (GI l (TN x.1) < Z0)) ((true = bif decide (GI l (TN x.1) < Z0) then true else decide ((65536 : Int) < GI l (TN
      x.1))) ∧ True) (side (Z0 ≤ (NI x.1) ∧ (NI x.1) < (LI l)) ((decide ((65536 : Int) < GI l (TN x.1)) = bif decide (GI l (TN x.1) < Z0) then true else decide ((65536 : Int) < GI l (TN x.1))) ∧ True))) ∧ ifB (bif decide
      (GI l (TN x.1) < Z0) then true else decide ((65536 : Int) < GI l (TN x.1))) (True ∧ ∃ (y : Unit), True ∧ false = rightS l ∧ True ∧ True) (side (Z0 ≤ (NI x.1) ∧ (NI x.1) < (LI l)) (ifB (decide (Z0 < GI l (TN x.1)))
      (side (Z0 ≤ (NI x.1) ∧ (NI x.1) < (LI l)) (ifB (decide ((65536 : Int) < IntKind.wrap IntKind.i64 (x.2 * GI l (TN x.1)))) (True ∧ ∃ (y : Unit), True ∧ false = rightS l ∧ True ∧ True) ((SM (SI l) ∧ True) ∧ ∃ (y : Nat
      × Int), GoHead l y.1 y.2 ∧ LN l - y.1 < LN l - x.1 ∧ (IntKind.wrap IntKind.i64 ((NI x.1) + Z1) = (NI y.1) ∧ IntKind.wrap IntKind.i64 (x.2 * GI l (TN x.1)) = y.2 ∧ True) ∧ True ∧ True))) (ifB (decide ((65536 : Int)
      < x.2)) (True ∧ ∃ (y : Unit), True ∧ false = rightS l ∧ True ∧ True) ((SM (SI l) ∧ True) ∧ ∃ (y : Nat × Int), GoHead l y.1 y.2 ∧ LN l - y.1 < LN l - x.1 ∧ (IntKind.wrap IntKind.i64 ((NI x.1) + Z1) = (NI y.1) ∧ x.2
      = y.2 ∧ True) ∧ True ∧ True))))) (True ∧ ∃ (y : Unit), True ∧ true = rightS l ∧ True ∧ True))) (by kernel_rfl) ?_
  delta GI LI LN N1 NI SI SM TN Z0 Z1 ZI
  simp only [Int.toNat_natCast, ifB_iff, side_iff, decide_eq_true_eq, decide_eq_false_iff_not, true_and, and_true, beq_iff_eq, bne_iff_ne, Bool.cond_false_right, Bool.cond_true_left, Bool.and_eq_true, Bool.and_eq_false_iff, beq_eq_false_iff_ne, ne_eq, exists_const]
  have no : goO l 1 = none → false = rightS l := fun h => by simp [rightS, h]
  refine ⟨fun h => ?_, fun h8 => ⟨⟨(0, 1), GoHead.init l, rfl, rfl⟩, ?_⟩⟩
  · have : ¬ l.length ≤ 8 := by omega
    simp [rightS, this]
  rintro ⟨i, p⟩ hh
  simp only at hh ⊢
  refine ⟨fun hlt => ?_, fun hge => ?_⟩
  rotate_left
  · have : l.length ≤ 8 := by omega
    simp [rightS, hh.done hge, this]
  have hlt' : i < l.length := by omega
  obtain ⟨s1, s2, s3, s4⟩ := hh.step hlt'
  refine ⟨⟨by omega, fun h => by rw [decide_eq_true h]; rfl, fun h => ⟨by omega, by rw [decide_eq_false h]; rfl⟩⟩, fun h => no ?_, fun h => ⟨by omega, ?_⟩⟩
  · rw [Bool.or_eq_true, decide_eq_true_eq, decide_eq_true_eq] at h
    exact h.elim s1 s2
  · rw [Bool.or_eq_false_iff, decide_eq_false_iff_not, decide_eq_false_iff_not] at h
    obtain ⟨b1, b2, s5, s6⟩ := s4 h.1 h.2
    have hw : IntKind.i64.wrap (p * l.getD i 0) = p * l.getD i 0 := wrap_i64' (by omega) (by omega)
    rw [hw]
    refine ⟨fun hd => ⟨by omega, fun h4 => no (s5 h4 (by omega)), fun h4 => ⟨(i + 1, p * l.getD i 0), s6 h4 (by omega), by simp only; omega, wrap_i64' (by omega) (by omega), rfl⟩⟩, fun hd => ⟨fun h4 => absurd h4 (by have := hh.h2; omega), fun _ => ⟨(i + 1, p), s3 (by omega), by simp only; omega, wrap_i64' (by omega) (by omega), rfl⟩⟩⟩
noncomputable def Erprod (l : List Int) : Senv := { EC con0 30 1 [2, 3, 4, 8, 15, 20, 28] (fun _ => ([], [])) with
  ann := fun b _ _ => match b with
    | 0 => some { slots := [4, 3], keep := [0], α := Nat × Int, st := fun y => ([.int .i64 y.1, .int .i64 y.2], ⟨[], []⟩), inv := fun y => GoHead l y.1 y.2, mu := fun y => l.length - y.1 }
    | _ => none }
theorem rprod_ok (l : List Int) (h0 : ∀ z ∈ l, 0 ≤ z) (hl : l.length ≤ maxLen) : ACalls Try.prog 95 [isl l .any] ⟨[], []⟩ (SpecR (sC [isl l .any] (.int .i64 ((goO l 1).getD 65537))) ()) := by
  refine con_of (A := sC _ _) (x := ()) (E := Erprod l) (eOk con0_ok rfl) Try.func95 rfl (by kernel_rfl) rfl (by simp [sC, Erprod, EC, E0]) ?_
  refine vc_eq (T :=
      (∃ (x : Nat × Int), GoHead l x.1 x.2 ∧ (Z0 = (NI x.1) ∧ Z1 = x.2 ∧ True) ∧ True ∧ True) ∧ ∀ (x : Nat × Int), GoHead l x.1 x.2 → ifB (decide ((NI x.1) < (LI l))) (side (Z0 ≤ (NI x.1) ∧ (NI x.1) < (LI l)) (ifB
      (decide ((65536 : Int) < GI l (TN x.1))) (True ∧ ∃ (y : Unit), True ∧ (65537 : Int) = Option.getD (goO l Z1) (65537 : Int) ∧ True ∧ True) (side (Z0 ≤ (NI x.1) ∧ (NI x.1) < (LI l)) (ifB (decide (Z0 < GI l (TN x.1)))
      (side (Z0 ≤ (NI x.1) ∧ (NI x.1) < (LI l)) (ifB (decide ((65536 : Int) < IntKind.wrap IntKind.i64 (x.2 * GI l (TN x.1)))) (True ∧ ∃ (y : Unit), True ∧ (65537 : Int) = Option.getD (goO l Z1) (65537 : Int) ∧ True ∧
      True) ((SM (SI l) ∧ True) ∧ ∃ (y : Nat × Int), GoHead l y.1 y.2 ∧ LN l - y.1 < LN l - x.1 ∧ (IntKind.wrap IntKind.i64 ((NI x.1) + Z1) = (NI y.1) ∧ IntKind.wrap IntKind.i64 (x.2 * GI l (TN x.1)) = y.2 ∧ True) ∧ True
      ∧ True))) (ifB (decide ((65536 : Int) < x.2)) (True ∧ ∃ (y : Unit), True ∧ (65537 : Int) = Option.getD (goO l Z1) (65537 : Int) ∧ True ∧ True) ((SM (SI l) ∧ True) ∧ ∃ (y : Nat × Int), GoHead l y.1 y.2 ∧ LN l - y.1
      < LN l - x.1 ∧ (IntKind.wrap IntKind.i64 ((NI x.1) + Z1) = (NI y.1) ∧ x.2 = y.2 ∧ True) ∧ True ∧ True)))))) (True ∧ ∃ (y : Unit), True ∧ x.2 = Option.getD (goO l Z1) (65537 : Int) ∧ True ∧ True)) (by kernel_rfl) ?_
  delta GI LI LN N1 NI SI SM TN Z0 Z1 ZI
  simp only [Int.toNat_natCast, ifB_iff, side_iff, decide_eq_true_eq, decide_eq_false_iff_not, true_and, and_true, beq_iff_eq, bne_iff_ne, Bool.cond_false_right, Bool.cond_true_left, Bool.and_eq_true, Bool.and_eq_false_iff, beq_eq_false_iff_ne, ne_eq, exists_const]
  have no : goO l 1 = none → (65537 : Int) = (goO l 1).getD 65537 := fun h => by simp [h]
  refine ⟨⟨(0, 1), GoHead.init l, rfl, rfl⟩, ?_⟩
  rintro ⟨i, p⟩ hh
  simp only at hh ⊢
  refine ⟨fun hlt => ?_, fun hge => by simp [hh.done hge]⟩
  have hlt' : i < l.length := by omega
  obtain ⟨s1, s2, s3, s4⟩ := hh.step hlt'
  have hd0 : 0 ≤ l.getD i 0 := h0 _ (by rw [List.getD_eq_getElem?_getD, List.getElem?_eq_getElem hlt']; exact List.getElem_mem hlt')
  simp only [maxLen] at hl
  refine ⟨by omega, fun h => no (s2 h), fun h => ⟨by omega, ?_⟩⟩
  obtain ⟨b1, b2, s5, s6⟩ := s4 (by omega) h
  have hw : IntKind.i64.wrap (p * l.getD i 0) = p * l.getD i 0 := wrap_i64' (by omega) (by omega)
  rw [hw]
  refine ⟨fun hd => ⟨by omega, fun h4 => no (s5 h4 (by omega)), fun h4 => ⟨(i + 1, p * l.getD i 0), s6 h4 (by omega), by simp only; omega, wrap_i64' (by omega) (by omega), rfl⟩⟩, fun hd => ⟨fun h4 => absurd h4 (by have := hh.h2; omega), fun _ => ⟨(i + 1, p), s3 (by omega), by simp only; omega, wrap_i64' (by omega) (by omega), rfl⟩⟩⟩
end Go.Proofs.Ytoglbmhkfkghbaa
namespace Go.Proofs.Ytoglbmhkfkghbaa
open Go Go.Ab

/-! ### what instructions do, in plain Lean -/
def between (n lo hi : Int) : Bool := decide (lo ≤ n) && decide (n ≤ hi)
def primB (n : Int) : Bool := between n 1 55
abbrev Eff := List UInt8 × List UInt8
def gu (b : Bool) (e : Eff) : Option Eff := if b then some e else none
/-- What an instruction without arguments does. -/
def plainS (main : Bool) (op : Int) : Option Eff :=
  if op = 13 then gu (!main) ([], [102])
  else if op = 14 then gu (!main) ([], [102])
  else if op = 15 then gu (!main) ([], [102])
  else if op = 3 then gu (!main) ([], [97])
  else if op = 4 then gu (!main) ([], [97])
  else if op = 2 then some ([], [97])
  else if op = 19 then some ([97], [102])
  else if op = 20 then some ([102, 102], [102])
  else if op = 21 then some ([102, 102, 102], [102])
  else if op = 22 then some ([102, 97], [97])
  else if op = 23 then some ([102, 97, 97], [97])
  else if op = 26 then some ([97], [])
  else if op = 25 then (if main then some ([], []) else some ([97], []))
  else none
/-- What an instruction does, if it has the right form. -/
def effS (nc nf : Nat) (slots : Int) (len : Nat) (ks : List KeD) (main : Bool) (x : I4) : Option Eff :=
  if x.a = 1 then gu (between x.b 0 (nc - 1) && decide (x.c = 0)) ([], [97])
  else if x.a = 5 then gu (decide (0 ≤ x.b) && decide (0 ≤ x.c)) ([], [97])
  else if x.a = 12 then gu (decide (0 ≤ x.b) && decide (0 ≤ x.c)) ([], [102])
  else if x.a = 6 then gu (between x.b 0 (IntKind.i64.wrap (slots - 1)) && decide (x.c = 0)) ([42], [])
  else if x.a = 7 then gu (between x.b 2 1000 && decide (x.c = 0)) (Lib.repeatL [97] x.b.toNat, [97])
  else if x.a = 8 then gu (primB x.b && decide (x.c = 0)) ([97], [97])
  else if x.a = 9 then gu (primB x.b && decide (x.c = 0)) ([97, 97], [97])
  else if x.a = 10 then gu (primB x.b && decide (x.c = 0)) ([], [102])
  else if x.a = 11 then gu (between x.b 1 (nf - 1) && decide (x.c = 0)) ([], [102])
  else if x.a = 16 then gu (between x.b 1 5 && decide (x.c = 0)) ([102], [102])
  else if x.a = 17 then (if x.b = 6 ∨ x.b = 10 ∨ x.b = 11 then gu (decide (x.c = 1)) ([102, 102], [102]) else gu (between x.b 7 9 && decide (x.c = 0)) ([102, 97], [102]))
  else if x.a = 18 then gu (between x.b 2 3 && decide (x.c = 0)) (Lib.repeatL [102] x.b.toNat, [102])
  else if x.a = 24 then gu (between x.b 0 (len - 1) && decide (x.c = 0)) ([97], [])
  else if x.a = 27 then (if between x.b 0 (ks.length - 1) then gu (between (ks.getD x.b.toNat default).inputs 1 16 && decide (x.c = 0)) (Lib.repeatL [97] (ks.getD x.b.toNat default).inputs.toNat, [97]) else none)
  else if x.b = 0 ∧ x.c = 0 then plainS main x.a else none
/-- The effect of an instruction of function f of a program. -/
def effC (c : CodD) (f : Nat) (x : I4) : Option Eff := effS c.consts.length c.funs.length (c.funs.getD f default).slots (c.funs.getD f default).code.length c.kers (decide (f = 0)) x
end Go.Proofs.Ytoglbmhkfkghbaa
namespace Go.Proofs.Ytoglbmhkfkghbaa
open Go Go.Ab

/-! ### repeated letters -/
theorem repeat_ok (s : List UInt8) (n : Int) (h0 : 0 ≤ n) (hn : n ≤ 9223372036854775807) (hl : s.length * n.toNat ≤ 140737488355328) : ACalls Try.prog 94 [.str s, .int .i64 n] ⟨[], []⟩ (SpecR (sC [.str s, .int .i64 n] (.str (Lib.repeatL s n.toNat))) ()) := by
  refine ACalls.of_shelf ⟨_, Try.func94, by kernel_rfl, by kernel_rfl⟩ fun C args w ha => ?_
  obtain ⟨u, v, e, hu, hv⟩ := repL_two' ha
  have e2 : args = [u, v].toArray := by rw [← e]
  subst e2
  simp only [Rep] at hu hv; subst hu hv
  have := Try.strings_Repeat ⟨s.toArray⟩ n.toNat w (by omega) (by simpa [ByteArray.size] using hl)
  rw [show ((n.toNat : Nat) : Int) = n by omega] at this
  exact this.mono fun e w' ⟨h1, h2⟩ => ⟨⟨_, h1, by simp [Rep]⟩, h2⟩
def conR : Con := fun k ds _ => match k with
  | 94 => match ds with
    | [.str s, .int .i64 n] => some (pC [.str s, .int .i64 n] (.str (Lib.repeatL s n.toNat)) (0 ≤ n ∧ n ≤ 9223372036854775807 ∧ s.length * n.toNat ≤ 140737488355328))
    | _ => none
  | _ => none
theorem conR_ok : ConOk Try.prog conR := by
  intro k ds S A h
  unfold conR at h
  split at h
  · split at h
    · injection h with h; subst h
      exact pC_ok fun ⟨h1, h2, h3⟩ => ⟨weakL_refl _, repeat_ok _ _ h1 h2 h3⟩
    · cases h
  · cases h
theorem repeatL_snoc (s : List UInt8) : ∀ i, Lib.repeatL s i ++ s = Lib.repeatL s (i + 1)
  | 0 => by simp [Lib.repeatL]
  | i + 1 => by rw [Lib.repeatL, List.append_assoc, repeatL_snoc s i, ← Lib.repeatL]
noncomputable def Ermany (s : List UInt8) (n : Nat) : Senv := { EC con0 16 2 [4, 5, 6, 9] (fun _ => ([], [])) with
  ann := fun b _ _ => match b with
    | 0 => some { slots := [5, 6], keep := [0, 1], α := Nat, st := fun i => ([.str (Lib.repeatL s i), .int .i64 i], ⟨[], []⟩), inv := fun i => i ≤ n, mu := fun i => n - i }
    | _ => none }
theorem rmany_ok (s : List UInt8) (n : Nat) (hn : n ≤ 1000) (hs : s.length = 1) : ACalls Try.prog 89 [.str s, .int .i64 n] ⟨[], []⟩ (SpecR (sC [.str s, .int .i64 n] (.str (Lib.repeatL s n))) ()) := by
  refine con_of (A := sC _ _) (x := ()) (E := Ermany s n) (eOk con0_ok rfl) Try.func89 rfl (by kernel_rfl) rfl (by simp [sC, Ermany, EC, E0]) ?_
  refine vc_eq (T :=
      (∃ (x : Nat), x ≤ n ∧ (eqOf (List UInt8) [] (Lib.repeatL s x) ∧ Z0 = (↑x : Int) ∧ True) ∧ True ∧ True) ∧ ∀ (x : Nat), x ≤ n → ifB (decide ((↑x : Int) < (↑n : Int))) (side (LN (Lib.repeatL s x) + LN s ≤
      (9223372036854775807 : Nat)) ((SM (D.str s) ∧ SM (ZI (↑n : Int)) ∧ True) ∧ ∃ (y : Nat), y ≤ n ∧ n - y < n - x ∧ (Lib.repeatL s x ++ s = Lib.repeatL s y ∧ IntKind.wrap IntKind.i64 ((↑x : Int) + Z1) = (↑y : Int) ∧
      True) ∧ True ∧ True)) (True ∧ ∃ (y : Unit), True ∧ Lib.repeatL s x = Lib.repeatL s n ∧ True ∧ True)) (by kernel_rfl) ?_
  delta LN SM Z0 Z1 ZI
  simp only [ifB_iff, side_iff, decide_eq_true_eq, decide_eq_false_iff_not, true_and, and_true]
  refine ⟨⟨0, by omega, rfl, rfl⟩, fun i hi => ⟨fun h => ⟨?_, i + 1, by omega, by omega, repeatL_snoc s i, wrap_i64' (by omega) (by omega)⟩, fun h => ⟨(), ?_⟩⟩⟩
  · rw [Lib.repeatL_length, hs]; omega
  · rw [show i = n by omega]
def conR2 : Con := fun k ds S => match k with
  | 89 => match ds with
    | [.str s, .int .i64 n] => some (pC [.str s, .int .i64 n] (.str (Lib.repeatL s n.toNat)) (0 ≤ n ∧ n ≤ 1000 ∧ s.length = 1))
    | _ => none
  | k => conR k ds S
theorem conR2_ok : ConOk Try.prog conR2 := by
  intro k ds S A h
  unfold conR2 at h
  split at h
  · split at h
    · rename_i s n
      injection h with h; subst h
      refine pC_ok fun ⟨h1, h2, h3⟩ => ⟨weakL_refl _, ?_⟩
      obtain ⟨m, rfl⟩ := Int.eq_ofNat_of_zero_le h1
      exact rmany_ok s m (by omega) h3
    · cases h
  · exact conR_ok _ _ _ _ h

end Go.Proofs.Ytoglbmhkfkghbaa
namespace Go.Proofs.Ytoglbmhkfkghbaa
open Go Go.Ab

/-! ### looking for a number -/
def idxB (p : Int → Bool) : List Int → Nat → Int
  | [], _ => -1
  | d :: r, i => if p d then (i : Int) else idxB p r (i + 1)
theorem idxB_any (p : Int → Bool) : ∀ (l : List Int) (i : Nat), decide (0 ≤ idxB p l i) = l.any p
  | [], i => rfl
  | d :: r, i => by
    rw [idxB, List.any_cons]
    split
    · rename_i h; rw [h]; simp
    · rename_i h
      rw [idxB_any p r (i + 1)]
      simp [h]
structure IdxHead (p : Int → Bool) (l : List Int) (i : Nat) : Prop where
  hi : i ≤ l.length
  hg : idxB p (l.drop i) i = idxB p l 0
theorem IdxHead.step {p : Int → Bool} {l : List Int} {i : Nat} (h : IdxHead p l i) (hlt : i < l.length) : (p (l.getD i 0) = true → idxB p l 0 = i) ∧ (p (l.getD i 0) = false → IdxHead p l (i + 1)) := by
  have hg := h.hg
  rw [drop_stepI hlt, idxB] at hg
  refine ⟨fun e => ?_, fun e => ?_⟩
  · rw [if_pos e] at hg; exact hg.symm
  · rw [if_neg (by rw [e]; exact Bool.false_ne_true)] at hg; exact ⟨by omega, hg⟩
theorem IdxHead.done {p : Int → Bool} {l : List Int} {i : Nat} (h : IdxHead p l i) (hge : ¬ (i : Int) < l.length) : idxB p l 0 = -1 := by
  have hg := h.hg
  have : i = l.length := by have := h.hi; omega
  rw [this, List.drop_length, idxB] at hg
  exact hg.symm
def annI (p : Int → Bool) (l : List Int) (keep : List Nat) : LoopAnn := { slots := [8], keep := keep, α := Nat, st := fun i => ([.int .i64 i], ⟨[], []⟩), inv := fun i => IdxHead p l i, mu := fun i => l.length - i }
noncomputable def Eidx (l : List Int) (v : Int) : Senv := { EC con0 19 2 [4, 5, 7, 8, 9, 16] (fun _ => ([], [])) with
  ann := fun b _ _ => match b with
    | 0 => some (annI (fun d => v == d) l [0, 1, 6, 7])
    | _ => none }
theorem idx_ok (l : List Int) (v : Int) (hl : l.length ≤ maxLen) : ACalls Try.prog 103 [isl l .any, .int .i64 v] ⟨[], []⟩ (SpecR (sC [isl l .any, .int .i64 v] (.int .i64 (idxB (fun d => v == d) l 0))) ()) := by
  refine con_of (A := sC _ _) (x := ()) (E := Eidx l v) (eOk con0_ok rfl) Try.func103 rfl (by kernel_rfl) rfl (by simp [sC, Eidx, EC, E0]) ?_
  refine vc_eq (T :=
      (∃ (x : Nat), IdxHead (fun (d : Int) => v == d) l x ∧ (Z0 = (↑x : Int) ∧ True) ∧ True ∧ True) ∧ ∀ (x : Nat), IdxHead (fun (d : Int) => v == d) l x → ifB (decide ((↑x : Int) < (LI l))) (side (Z0 ≤ (↑x : Int) ∧ (↑x :
      Int) < (LI l)) (ifB (v == GI l (Int.toNat (↑x : Int))) (True ∧ ∃ (y : Unit), True ∧ (↑x : Int) = idxB (fun (d : Int) => v == d) l N0 ∧ True ∧ True) ((SM (SI l) ∧ SM (ZI v) ∧ SM D.unk ∧ SM (ZI (LI l)) ∧ True) ∧ ∃ (y
      : Nat), IdxHead (fun (d : Int) => v == d) l y ∧ LN l - y < LN l - x ∧ (IntKind.wrap IntKind.i64 ((↑x : Int) + Z1) = (↑y : Int) ∧ True) ∧ True ∧ True))) (True ∧ ∃ (y : Unit), True ∧ (-1 : Int) = idxB (fun (d : Int)
      => v == d) l N0 ∧ True ∧ True)) (by kernel_rfl) ?_
  delta GI LI LN N0 N1 SI SM Z0 Z1 ZI
  simp only [Int.toNat_natCast, ifB_iff, side_iff, decide_eq_true_eq, decide_eq_false_iff_not, true_and, and_true, exists_const]
  simp only [maxLen] at hl
  refine ⟨⟨0, ⟨Nat.zero_le _, by simp⟩, rfl⟩, fun i hh => ⟨fun hlt => ?_, fun hge => (hh.done hge).symm⟩⟩
  have hlt' : i < l.length := by omega
  obtain ⟨s1, s2⟩ := hh.step hlt'
  exact ⟨by omega, fun h => (s1 h).symm, fun h => ⟨i + 1, s2 h, by omega, wrap_i64' (by omega) (by omega)⟩⟩
noncomputable def Eneg (l : List Int) : Senv := { EC con0 19 2 [4, 5, 7, 8, 9, 16] (fun _ => ([], [])) with
  ann := fun b _ _ => match b with
    | 0 => some (annI (fun d => decide (d < 0)) l [0, 1, 6, 7])
    | _ => none }
theorem neg_ok (l : List Int) (hl : l.length ≤ maxLen) : ACalls Try.prog 92 [isl l .any, .fn (.func 77) [] []] ⟨[], []⟩ (SpecR (sC [isl l .any, .fn (.func 77) [] []] (.int .i64 (idxB (fun d => decide (d < 0)) l 0))) ()) := by
  refine con_of (A := sC _ _) (x := ()) (E := Eneg l) (eOk con0_ok rfl) Try.func92 rfl (by kernel_rfl) rfl (by simp [sC, Eneg, EC, E0]) ?_
  refine vc_eq (T :=
      (∃ (x : Nat), IdxHead (fun (d : Int) => decide (d < Z0)) l x ∧ (Z0 = (↑x : Int) ∧ True) ∧ True ∧ True) ∧ ∀ (x : Nat), IdxHead (fun (d : Int) => decide (d < Z0)) l x → ifB (decide ((↑x : Int) < (LI l))) (side (Z0 ≤
      (↑x : Int) ∧ (↑x : Int) < (LI l)) (True ∧ ifB (decide (GI l (Int.toNat (↑x : Int)) < Z0)) (True ∧ ∃ (y : Unit), True ∧ (↑x : Int) = idxB (fun (d : Int) => decide (d < Z0)) l N0 ∧ True ∧ True) ((SM (SI l) ∧ SM (D.fn
      (Fn.func (77 : Nat)) [] []) ∧ SM D.unk ∧ SM (ZI (LI l)) ∧ True) ∧ ∃ (y : Nat), IdxHead (fun (d : Int) => decide (d < Z0)) l y ∧ LN l - y < LN l - x ∧ (IntKind.wrap IntKind.i64 ((↑x : Int) + Z1) = (↑y : Int) ∧ True)
      ∧ True ∧ True))) (True ∧ ∃ (y : Unit), True ∧ (-1 : Int) = idxB (fun (d : Int) => decide (d < Z0)) l N0 ∧ True ∧ True)) (by kernel_rfl) ?_
  delta GI LI LN N0 N1 SI SM Z0 Z1 ZI
  simp only [Int.toNat_natCast, ifB_iff, side_iff, decide_eq_true_eq, decide_eq_false_iff_not, true_and, and_true, exists_const]
  simp only [maxLen] at hl
  refine ⟨⟨0, ⟨Nat.zero_le _, by simp⟩, rfl⟩, fun i hh => ⟨fun hlt => ?_, fun hge => (hh.done hge).symm⟩⟩
  have hlt' : i < l.length := by omega
  obtain ⟨s1, s2⟩ := hh.step hlt'
  exact ⟨by omega, fun h => (s1 (decide_eq_true h)).symm, fun h => ⟨i + 1, s2 (decide_eq_false h), by omega, wrap_i64' (by omega) (by omega)⟩⟩
theorem intsP_isl (l : List Int) : IntsP l.length (fun i => [D.int .i64 (l.getD i 0)]) := fun _ _ => rfl
def conSh : Con := fun k ds S => match k with
  | 103 => match ds with
    | [.sl 1 n f _, .int .i64 v] => some (pC ds (.int .i64 (idxB (fun d => v == d) (intsD n f) 0)) (IntsP n f ∧ n ≤ maxLen))
    | _ => none
  | 92 => match ds with
    | [.sl 1 n f _, .fn (.func 77) [] []] => some (pC ds (.int .i64 (idxB (fun d => decide (d < 0)) (intsD n f) 0)) (IntsP n f ∧ n ≤ maxLen))
    | _ => none
  | 78 => match ds with
    | [.sl 1 n f _] => some (pC ds (.bool (rightS (intsD n f))) (IntsP n f))
    | _ => none
  | 74 => match ds with
    | [.sl 1 n f _] => some (pC ds (.bool (rightS (intsD n f))) (IntsP n f))
    | _ => none
  | 95 => match ds with
    | [.sl 1 n f _] => some (pC ds (.int .i64 ((goO (intsD n f) 1).getD 65537)) (IntsP n f ∧ (∀ z ∈ intsD n f, 0 ≤ z) ∧ n ≤ maxLen))
    | _ => none
  | k => conR2 k ds S
theorem intsD_len (n : Nat) (f : Nat → List D) : (intsD n f).length = n := by simp [intsD]
theorem sC_weak {k : Nat} {ds us : List D} {d : D} (hw : weakL ds us) (h : ACalls Try.prog k us ⟨[], []⟩ (SpecR (sC us d) ())) : ACalls Try.prog k ds ⟨[], []⟩ (SpecR (sC ds d) ()) :=
  (ACalls.weakArgs h hw).mono fun _ _ ⟨_, h1, h2, h3⟩ => ⟨(), trivial, h2, h3⟩
theorem conSh_ok : ConOk Try.prog conSh := by
  intro k ds S A h
  unfold conSh at h
  split at h
  · split at h
    · injection h with h; subst h
      exact pC_ok fun ⟨h1, h2⟩ => ⟨weakL_refl _, sC_weak (us := [isl (intsD _ _) .any, _]) ⟨(isl_weak h1).1, weakD_refl _, trivial⟩ (idx_ok _ _ (by rw [intsD_len]; exact h2))⟩
    · cases h
  · split at h
    · injection h with h; subst h
      exact pC_ok fun ⟨h1, h2⟩ => ⟨weakL_refl _, sC_weak (us := [isl (intsD _ _) .any, _]) ⟨(isl_weak h1).1, weakD_refl _, trivial⟩ (neg_ok _ (by rw [intsD_len]; exact h2))⟩
    · cases h
  · split at h
    · injection h with h; subst h
      exact pC_ok fun h1 => ⟨weakL_refl _, sC_weak (isl_weak h1) (right_ok _)⟩
    · cases h
  · split at h
    · injection h with h; subst h
      exact pC_ok fun h1 => ⟨weakL_refl _, sC_weak (isl_weak h1) (rright_ok _)⟩
    · cases h
  · split at h
    · injection h with h; subst h
      exact pC_ok fun ⟨h1, h2, h3⟩ => ⟨weakL_refl _, sC_weak (isl_weak h1) (rprod_ok _ h2 (by rw [intsD_len]; exact h3))⟩
    · cases h
  · exact conR2_ok _ _ _ _ h

/-! ### products, sizes -/
noncomputable def Eprod (l : List Int) : Senv := { EC conSh 19 1 [2, 3, 5, 7, 8, 9, 10, 11] (fun _ => ([], [])) with
  ann := fun b _ _ => match b with
    | 0 => some { slots := [10, 3], keep := [8, 9], α := Nat × Int, st := fun y => ([.int .i64 y.1, .int .i64 y.2], ⟨[], []⟩), inv := fun y => GoHead l y.1 y.2, mu := fun y => l.length - y.1 }
    | _ => none }
theorem prod_ok (l : List Int) (h : rightS l = true) : ACalls Try.prog 93 [isl l .any] ⟨[], []⟩ (SpecR (sC [isl l .any] (.int .i64 (sizeS l))) ()) := by
  refine con_of (A := sC _ _) (x := ()) (E := Eprod l) (eOk conSh_ok rfl) Try.func93 rfl (by kernel_rfl) rfl (by simp [sC, Eprod, EC, E0]) ?_
  refine vc_eq (T :=
      ((IntsP (LN l) fun (i : Nat) => [ZI (GI l i)]) ∧ LN l ≤ (9223372036854775807 : Nat)) ∧ ∀ (y : Unit), True → True ∧ ifB (decide (Z0 ≤ idxB (fun (d : Int) => Z0 == d) (intsD (LN l) fun (i : Nat) => [ZI (GI l i)])
      N0)) (True ∧ ∃ (y : Unit), True ∧ Z0 = sizeS l ∧ True ∧ True) ((∃ (x : Nat × Int), GoHead l x.1 x.2 ∧ (Z0 = (NI x.1) ∧ Z1 = x.2 ∧ True) ∧ True ∧ True) ∧ ∀ (x : Nat × Int), GoHead l x.1 x.2 → ifB (decide ((NI x.1) <
      (LI l))) (side (Z0 ≤ (NI x.1) ∧ (NI x.1) < (LI l)) ((SM (SI l) ∧ SM (ZI (LI l)) ∧ True) ∧ ∃ (y : Nat × Int), GoHead l y.1 y.2 ∧ LN l - y.1 < LN l - x.1 ∧ (IntKind.wrap IntKind.i64 ((NI x.1) + Z1) = (NI y.1) ∧
      IntKind.wrap IntKind.i64 (x.2 * GI l (TN x.1)) = y.2 ∧ True) ∧ True ∧ True)) (True ∧ ∃ (y : Unit), True ∧ x.2 = sizeS l ∧ True ∧ True))) (by kernel_rfl) ?_
  delta GI LI LN N0 N1 NI SI SM TN Z0 Z1 ZI
  simp only [intsD_isl, idxB_any, Int.toNat_natCast, ifB_iff, side_iff, decide_eq_true_eq, decide_eq_false_iff_not, true_and, and_true, exists_const]
  simp only [rightS, Bool.and_eq_true, decide_eq_true_eq] at h
  have hcon : (l.any fun d => 0 == d) = l.contains 0 := by
    rw [Bool.eq_iff_iff, List.contains_iff_mem, List.any_eq_true]
    constructor
    · rintro ⟨z, hz, e⟩
      have e : 0 = z := by simpa using e
      rw [e]; exact hz
    · exact fun hm => ⟨0, hm, rfl⟩
  rw [hcon]
  refine ⟨⟨intsP_isl l, by omega⟩, fun _ _ => ⟨fun hz => by rw [sizeS, if_pos hz], fun hz => ⟨⟨(0, 1), GoHead.init l, rfl, rfl⟩, ?_⟩⟩⟩
  rintro ⟨i, p⟩ hh
  simp only at hh ⊢
  refine ⟨fun hlt => ?_, fun hge => by rw [sizeS, if_neg (by rw [hz]; exact Bool.false_ne_true), hh.done hge]; rfl⟩
  have hlt' : i < l.length := by omega
  obtain ⟨s1, s2, s3, s4⟩ := hh.step hlt'
  have hne : l.getD i 0 ≠ 0 := by
    intro e
    have : l.contains 0 = true := by
      rw [List.contains_iff_mem, ← e, List.getD_eq_getElem?_getD, List.getElem?_eq_getElem hlt']; exact List.getElem_mem hlt'
    rw [this] at hz; cases hz
  have n1 : ¬ l.getD i 0 < 0 := fun e => by rw [s1 e] at h; exact absurd h.2 (by simp)
  have n2 : ¬ 65536 < l.getD i 0 := fun e => by rw [s2 e] at h; exact absurd h.2 (by simp)
  obtain ⟨b1, b2, s5, s6⟩ := s4 n1 n2
  have n3 : ¬ 65536 < p * l.getD i 0 := fun e => by rw [s5 e hne] at h; exact absurd h.2 (by simp)
  exact ⟨by omega, (i + 1, p * l.getD i 0), s6 n3 hne, by simp only; omega, wrap_i64' (by omega) (by omega), wrap_i64' (by omega) (by omega)⟩
noncomputable def Edims (l : List Int) : Senv := { EC conSh 21 1 [2, 3, 6, 10, 17, 20] (fun _ => ([], [])) with
  ann := fun b _ _ => match b with
    | 0 => some { slots := [3], keep := [0], α := Nat, st := fun i => ([.int .i64 i], ⟨[], []⟩), inv := fun i => i ≤ l.length ∧ ∀ z ∈ l.take i, 0 ≤ z, mu := fun i => l.length - i }
    | _ => none }
theorem goO_le : ∀ (l : List Int) (p : Int), p ≤ 65536 → ∀ q, goO l p = some q → q ≤ 65536
  | [], p, hp, q, h => by rw [goO] at h; injection h with h; omega
  | d :: r, p, hp, q, h => by
    rw [goO] at h
    split at h
    · cases h
    · split at h
      · exact goO_le r p hp q h
      · split at h
        · cases h
        · exact goO_le r _ (by omega) q h
def dimsS (s : List Int) : Int := if 8 < s.length then 15 else if s.any (fun d => decide (d < 0)) then 16 else if (goO s 1).isSome then 0 else 21
theorem dims_ok (l : List Int) : ACalls Try.prog 83 [isl l .any] ⟨[], []⟩ (SpecR (sC [isl l .any] (.int .i64 (dimsS l))) ()) := by
  refine con_of (A := sC _ _) (x := ()) (E := Edims l) (eOk conSh_ok rfl) Try.func83 rfl (by kernel_rfl) rfl (by simp [sC, Edims, EC, E0]) ?_
  refine vc_eq (T :=
      ifB (decide ((8 : Int) < (LI l))) (True ∧ ∃ (y : Unit), True ∧ (15 : Int) = dimsS l ∧ True ∧ True) ((∃ (x : Nat), (x ≤ LN l ∧ ∀ (z : Int), z ∈ List.take x l → Z0 ≤ z) ∧ (Z0 = (↑x : Int) ∧ True) ∧ True ∧ True) ∧ ∀
      (x : Nat), (x ≤ LN l ∧ ∀ (z : Int), z ∈ List.take x l → Z0 ≤ z) → ifB (decide ((↑x : Int) < (LI l))) (side (Z0 ≤ (↑x : Int) ∧ (↑x : Int) < (LI l)) (ifB (decide (GI l (Int.toNat (↑x : Int)) < Z0)) (True ∧ ∃ (y :
      Unit), True ∧ (16 : Int) = dimsS l ∧ True ∧ True) ((SM (SI l) ∧ True) ∧ ∃ (y : Nat), (y ≤ LN l ∧ ∀ (z : Int), z ∈ List.take y l → Z0 ≤ z) ∧ LN l - y < LN l - x ∧ (IntKind.wrap IntKind.i64 ((↑x : Int) + Z1) = (↑y :
      Int) ∧ True) ∧ True ∧ True))) (((IntsP (LN l) fun (i : Nat) => [ZI (GI l i)]) ∧ (∀ (z : Int), (z ∈ intsD (LN l) fun (i : Nat) => [ZI (GI l i)]) → Z0 ≤ z) ∧ LN l ≤ (9223372036854775807 : Nat)) ∧ ∀ (y : Unit), True →
      ifB (decide ((65536 : Int) < Option.getD (goO (intsD (LN l) fun (i : Nat) => [ZI (GI l i)]) Z1) (65537 : Int))) (True ∧ ∃ (y : Unit), True ∧ (21 : Int) = dimsS l ∧ True ∧ True) (True ∧ ∃ (y : Unit), True ∧ Z0 =
      dimsS l ∧ True ∧ True)))) (by kernel_rfl) ?_
  delta GI LI LN N1 SI SM Z0 Z1 ZI
  simp only [intsD_isl, idxB_any, Int.toNat_natCast, ifB_iff, side_iff, decide_eq_true_eq, decide_eq_false_iff_not, true_and, and_true, exists_const]
  have tk : ∀ i, i < l.length → ∀ P : Int → Prop, (∀ z ∈ l.take i, P z) → P (l.getD i 0) → ∀ z ∈ l.take (i + 1), P z := fun i hi P h1 h2 z hz => by
    rw [List.take_add_one, List.mem_append] at hz
    rcases hz with hz | hz
    · exact h1 z hz
    · rw [List.getElem?_eq_getElem hi] at hz
      simp at hz
      rw [hz]
      simpa [List.getD_eq_getElem?_getD, hi] using h2
  refine ⟨fun h => ?_, fun h8 => ⟨⟨0, ⟨Nat.zero_le _, by simp⟩, rfl⟩, fun i hh => ⟨fun hlt => ?_, fun hge => ?_⟩⟩⟩
  · have : 8 < l.length := by omega
    simp [dimsS, this]
  · have hlt' : i < l.length := by omega
    have h8' : ¬ 8 < l.length := by omega
    refine ⟨by omega, fun h => ?_, fun h => ⟨i + 1, ⟨by omega, tk i hlt' _ hh.2 (by omega)⟩, by omega, wrap_i64' (by omega) (by omega)⟩⟩
    have : l.any (fun d => decide (d < 0)) = true := by
      rw [List.any_eq_true]
      refine ⟨l.getD i 0, ?_, decide_eq_true h⟩
      rw [List.getD_eq_getElem?_getD, List.getElem?_eq_getElem hlt']; exact List.getElem_mem hlt'
    rw [dimsS, if_neg h8', if_pos this]
  · have hi : i = l.length := by omega
    rw [hi, List.take_length] at hh
    have h8' : ¬ 8 < l.length := by omega
    have hnn : ¬ l.any (fun d => decide (d < 0)) = true := by
      rw [List.any_eq_true]
      rintro ⟨z, hz, h⟩
      have := hh.2 z hz
      simp at h
      omega
    refine ⟨⟨intsP_isl l, hh.2, by omega⟩, fun _ _ => ?_⟩
    rw [dimsS, if_neg h8', if_neg hnn]
    have hb := goO_le l 1 (by omega)
    cases hg : goO l 1 with
    | none => simp
    | some p => have := hb p hg; simp; omega
noncomputable def Ecount (l : List Int) : Senv := { EC conSh 17 1 [2, 3, 7, 14] (fun _ => ([], [])) with
  ann := fun b _ _ => match b with
    | 0 => some { slots := [3], keep := [0], α := Nat, st := fun i => ([.int .i64 i], ⟨[], []⟩), inv := fun i => i ≤ l.length ∧ ∀ z ∈ l.take i, z ≠ 0, mu := fun i => l.length - i }
    | _ => none }
theorem count_ok (l : List Int) (h : dimsS l = 0) : ACalls Try.prog 85 [isl l .any] ⟨[], []⟩ (SpecR (sC [isl l .any] (.int .i64 (sizeS l))) ()) := by
  refine con_of (A := sC _ _) (x := ()) (E := Ecount l) (eOk conSh_ok rfl) Try.func85 rfl (by kernel_rfl) rfl (by simp [sC, Ecount, EC, E0]) ?_
  refine vc_eq (T :=
      (∃ (x : Nat), (x ≤ LN l ∧ ∀ (z : Int), z ∈ List.take x l → z ≠ Z0) ∧ (Z0 = (↑x : Int) ∧ True) ∧ True ∧ True) ∧ ∀ (x : Nat), (x ≤ LN l ∧ ∀ (z : Int), z ∈ List.take x l → z ≠ Z0) → ifB (decide ((↑x : Int) < (LI l)))
      (side (Z0 ≤ (↑x : Int) ∧ (↑x : Int) < (LI l)) (ifB (GI l (Int.toNat (↑x : Int)) == Z0) (True ∧ ∃ (y : Unit), True ∧ Z0 = sizeS l ∧ True ∧ True) ((SM (SI l) ∧ True) ∧ ∃ (y : Nat), (y ≤ LN l ∧ ∀ (z : Int), z ∈
      List.take y l → z ≠ Z0) ∧ LN l - y < LN l - x ∧ (IntKind.wrap IntKind.i64 ((↑x : Int) + Z1) = (↑y : Int) ∧ True) ∧ True ∧ True))) (((IntsP (LN l) fun (i : Nat) => [ZI (GI l i)]) ∧ (∀ (z : Int), (z ∈ intsD (LN l)
      fun (i : Nat) => [ZI (GI l i)]) → Z0 ≤ z) ∧ LN l ≤ (9223372036854775807 : Nat)) ∧ ∀ (y : Unit), True → True ∧ ∃ (y : Unit), True ∧ Option.getD (goO (intsD (LN l) fun (i : Nat) => [ZI (GI l i)]) Z1) (65537 : Int) =
      sizeS l ∧ True ∧ True)) (by kernel_rfl) ?_
  delta GI LI LN N1 SI SM Z0 Z1 ZI
  simp only [intsD_isl, idxB_any, Int.toNat_natCast, ifB_iff, side_iff, decide_eq_true_eq, decide_eq_false_iff_not, true_and, and_true, exists_const]
  have tk : ∀ i, i < l.length → ∀ P : Int → Prop, (∀ z ∈ l.take i, P z) → P (l.getD i 0) → ∀ z ∈ l.take (i + 1), P z := fun i hi P h1 h2 z hz => by
    rw [List.take_add_one, List.mem_append] at hz
    rcases hz with hz | hz
    · exact h1 z hz
    · rw [List.getElem?_eq_getElem hi] at hz
      simp at hz
      rw [hz]
      simpa [List.getD_eq_getElem?_getD, hi] using h2
  have hl8 : l.length ≤ 8 := by
    unfold dimsS at h
    split at h
    · cases h
    · omega
  have hnn : ∀ z ∈ l, 0 ≤ z := by
    intro z hz
    unfold dimsS at h
    split at h
    · cases h
    · split at h
      · cases h
      · rename_i hn
        rw [List.any_eq_true] at hn
        by_cases h0 : z < 0
        · exact (hn ⟨z, hz, decide_eq_true h0⟩).elim
        · omega
  have hg : (goO l 1).isSome = true := by
    unfold dimsS at h
    (repeat' split at h) <;> first | assumption | (cases h; done)
  refine ⟨⟨0, ⟨Nat.zero_le _, by simp⟩, rfl⟩, fun i hh => ⟨fun hlt => ?_, fun hge => ?_⟩⟩
  · have hlt' : i < l.length := by omega
    refine ⟨by omega, fun h => ?_, fun h => ⟨i + 1, ⟨by omega, tk i hlt' _ hh.2 (by simpa using h)⟩, by omega, wrap_i64' (by omega) (by omega)⟩⟩
    have h0 : l.getD i 0 = 0 := by simpa using h
    have : l.contains 0 = true := by
      rw [List.contains_iff_mem, ← h0, List.getD_eq_getElem?_getD, List.getElem?_eq_getElem hlt']; exact List.getElem_mem hlt'
    rw [sizeS, if_pos this]
  · have hi : i = l.length := by omega
    rw [hi, List.take_length] at hh
    refine ⟨⟨intsP_isl l, hnn, by omega⟩, fun _ _ => ?_⟩
    have : ¬ l.contains 0 = true := by
      rw [List.contains_iff_mem]
      exact fun hm => hh.2 0 hm rfl
    rw [sizeS, if_neg this]
    cases hgo : goO l 1 with
    | none => rw [hgo] at hg; cases hg
    | some p => rfl
end Go.Proofs.Ytoglbmhkfkghbaa
namespace Go.Proofs.Ytoglbmhkfkghbaa
open Go Go.Ab

/-! ### arrays: the form -/
def formS (k : Int) (s : List Int) (nn ni : Nat) : Int :=
  if k = 1 ∨ k = 2 ∨ k = 3 then
    if dimsS s ≠ 0 then dimsS s
    else if ((if k = 3 then (ni : Int) else nn) ≠ sizeS s) ∨ ((if k = 3 then (nn : Int) else ni) ≠ 0) then 16 else 0
  else 14
def conAr : Con := fun k ds S => match k with
  | 93 => match ds with
    | [.sl 1 n f _] => some (pC ds (.int .i64 (sizeS (intsD n f))) (IntsP n f ∧ rightS (intsD n f) = true))
    | _ => none
  | 83 => match ds with
    | [.sl 1 n f _] => some (pC ds (.int .i64 (dimsS (intsD n f))) (IntsP n f))
    | _ => none
  | 85 => match ds with
    | [.sl 1 n f _] => some (pC ds (.int .i64 (sizeS (intsD n f))) (IntsP n f ∧ dimsS (intsD n f) = 0))
    | _ => none
  | k => conSh k ds S
theorem conAr_ok : ConOk Try.prog conAr := by
  intro k ds S A h
  unfold conAr at h
  split at h
  · split at h
    · injection h with h; subst h
      exact pC_ok fun ⟨h1, h2⟩ => ⟨weakL_refl _, sC_weak (isl_weak h1) (prod_ok _ h2)⟩
    · cases h
  · split at h
    · injection h with h; subst h
      exact pC_ok fun h1 => ⟨weakL_refl _, sC_weak (isl_weak h1) (dims_ok _)⟩
    · cases h
  · split at h
    · injection h with h; subst h
      exact pC_ok fun ⟨h1, h2⟩ => ⟨weakL_refl _, sC_weak (isl_weak h1) (count_ok _ h2)⟩
    · cases h
  · exact conSh_ok _ _ _ _ h
noncomputable def Eform : Senv := EC conAr 44 5 [12, 13, 16, 20, 25, 29, 34] (fun id => match id with | 1 => ([0, 1, 2, 3, 4, 5, 6, 7], []) | _ => ([], []))
theorem form_ok (k : Int) (s : List Int) (nn ni : Nat) (g h : Nat → List D) (hs : s.length ≤ maxLen) (hn : nn ≤ maxLen) (hi : ni ≤ maxLen) :
    ACalls Try.prog 57 [.agg [.int .i64 k, isl s .any, .sl 1 nn g .any, .sl 4 ni h .any]] ⟨[], []⟩ (SpecR (sC [.agg [.int .i64 k, isl s .any, .sl 1 nn g .any, .sl 4 ni h .any]] (.int .i64 (formS k s nn ni))) ()) := by
  refine con_of (A := sC _ _) (x := ()) (E := Eform) (eOk conAr_ok rfl) Try.func57 rfl (by kernel_rfl) rfl (by simp [sC, Eform, EC, E0]) ?_
  refine vc_eq (T :=
      ∀ (x : Nat), True → SM x ∧ SM x ∧ SM x ∧ ifB (k == Z1) (ifB (k == Z1) (SM x ∧ ifB (decide ((8 : Int) < (LI s))) (True ∧ ∃ (y : Unit), True ∧ (15 : Int) = formS k s nn ni ∧ True ∧ True) (SM x ∧ ((IntsP (LN s) fun (i
      : Nat) => [ZI (GI s i)]) ∧ LN s ≤ (9223372036854775807 : Nat)) ∧ ∀ (y : Unit), True → True ∧ ifB (decide (Z0 ≤ idxB (fun (d : Int) => decide (d < Z0)) (intsD (LN s) fun (i : Nat) => [ZI (GI s i)]) N0)) (True ∧ ∃ (y
      : Unit), True ∧ (16 : Int) = formS k s nn ni ∧ True ∧ True) (SM x ∧ (IntsP (LN s) fun (i : Nat) => [ZI (GI s i)]) ∧ ∀ (y : Unit), True → ifB (!rightS (intsD (LN s) fun (i : Nat) => [ZI (GI s i)])) (True ∧ ∃ (y :
      Unit), True ∧ (21 : Int) = formS k s nn ni ∧ True ∧ True) (SM x ∧ (IntsP (LN s) fun (i : Nat) => [ZI (GI s i)]) ∧ ∀ (y : Unit), True → ifB (!rightS (intsD (LN s) fun (i : Nat) => [ZI (GI s i)])) (True ∧ True ∧ ∃ (y
      : Unit), True ∧ (16 : Int) = formS k s nn ni ∧ True ∧ True) (((IntsP (LN s) fun (i : Nat) => [ZI (GI s i)]) ∧ rightS (intsD (LN s) fun (i : Nat) => [ZI (GI s i)]) = true) ∧ ∀ (y : Unit), True → True ∧ ifB ((↑nn :
      Int) != sizeS (intsD (LN s) fun (i : Nat) => [ZI (GI s i)])) (True ∧ ∃ (y : Unit), True ∧ (16 : Int) = formS k s nn ni ∧ True ∧ True) (ifB ((↑ni : Int) != Z0) (True ∧ ∃ (y : Unit), True ∧ (16 : Int) = formS k s nn
      ni ∧ True ∧ True) (True ∧ ∃ (y : Unit), True ∧ Z0 = formS k s nn ni ∧ True ∧ True))))))) (ifB (k == (3 : Int)) (SM x ∧ ifB (decide ((8 : Int) < (LI s))) (True ∧ ∃ (y : Unit), True ∧ (15 : Int) = formS k s nn ni ∧
      True ∧ True) (SM x ∧ ((IntsP (LN s) fun (i : Nat) => [ZI (GI s i)]) ∧ LN s ≤ (9223372036854775807 : Nat)) ∧ ∀ (y : Unit), True → True ∧ ifB (decide (Z0 ≤ idxB (fun (d : Int) => decide (d < Z0)) (intsD (LN s) fun (i
      : Nat) => [ZI (GI s i)]) N0)) (True ∧ ∃ (y : Unit), True ∧ (16 : Int) = formS k s nn ni ∧ True ∧ True) (SM x ∧ (IntsP (LN s) fun (i : Nat) => [ZI (GI s i)]) ∧ ∀ (y : Unit), True → ifB (!rightS (intsD (LN s) fun (i
      : Nat) => [ZI (GI s i)])) (True ∧ ∃ (y : Unit), True ∧ (21 : Int) = formS k s nn ni ∧ True ∧ True) (SM x ∧ (IntsP (LN s) fun (i : Nat) => [ZI (GI s i)]) ∧ ∀ (y : Unit), True → ifB (!rightS (intsD (LN s) fun (i :
      Nat) => [ZI (GI s i)])) (True ∧ True ∧ ∃ (y : Unit), True ∧ (16 : Int) = formS k s nn ni ∧ True ∧ True) (((IntsP (LN s) fun (i : Nat) => [ZI (GI s i)]) ∧ rightS (intsD (LN s) fun (i : Nat) => [ZI (GI s i)]) = true)
      ∧ ∀ (y : Unit), True → True ∧ ifB ((↑ni : Int) != sizeS (intsD (LN s) fun (i : Nat) => [ZI (GI s i)])) (True ∧ ∃ (y : Unit), True ∧ (16 : Int) = formS k s nn ni ∧ True ∧ True) (ifB ((↑nn : Int) != Z0) (True ∧ ∃ (y
      : Unit), True ∧ (16 : Int) = formS k s nn ni ∧ True ∧ True) (True ∧ ∃ (y : Unit), True ∧ Z0 = formS k s nn ni ∧ True ∧ True))))))) (True ∧ ∃ (y : Unit), True ∧ (14 : Int) = formS k s nn ni ∧ True ∧ True))) (ifB (k
      == (2 : Int)) (SM x ∧ ifB (decide ((8 : Int) < (LI s))) (True ∧ ∃ (y : Unit), True ∧ (15 : Int) = formS k s nn ni ∧ True ∧ True) (SM x ∧ ((IntsP (LN s) fun (i : Nat) => [ZI (GI s i)]) ∧ LN s ≤ (9223372036854775807
      : Nat)) ∧ ∀ (y : Unit), True → True ∧ ifB (decide (Z0 ≤ idxB (fun (d : Int) => decide (d < Z0)) (intsD (LN s) fun (i : Nat) => [ZI (GI s i)]) N0)) (True ∧ ∃ (y : Unit), True ∧ (16 : Int) = formS k s nn ni ∧ True ∧
      True) (SM x ∧ (IntsP (LN s) fun (i : Nat) => [ZI (GI s i)]) ∧ ∀ (y : Unit), True → ifB (!rightS (intsD (LN s) fun (i : Nat) => [ZI (GI s i)])) (True ∧ ∃ (y : Unit), True ∧ (21 : Int) = formS k s nn ni ∧ True ∧
      True) (SM x ∧ (IntsP (LN s) fun (i : Nat) => [ZI (GI s i)]) ∧ ∀ (y : Unit), True → ifB (!rightS (intsD (LN s) fun (i : Nat) => [ZI (GI s i)])) (True ∧ True ∧ ∃ (y : Unit), True ∧ (16 : Int) = formS k s nn ni ∧ True
      ∧ True) (((IntsP (LN s) fun (i : Nat) => [ZI (GI s i)]) ∧ rightS (intsD (LN s) fun (i : Nat) => [ZI (GI s i)]) = true) ∧ ∀ (y : Unit), True → True ∧ ifB ((↑nn : Int) != sizeS (intsD (LN s) fun (i : Nat) => [ZI (GI
      s i)])) (True ∧ ∃ (y : Unit), True ∧ (16 : Int) = formS k s nn ni ∧ True ∧ True) (ifB ((↑ni : Int) != Z0) (True ∧ ∃ (y : Unit), True ∧ (16 : Int) = formS k s nn ni ∧ True ∧ True) (True ∧ ∃ (y : Unit), True ∧ Z0 =
      formS k s nn ni ∧ True ∧ True))))))) (ifB (k == (3 : Int)) (SM x ∧ ifB (decide ((8 : Int) < (LI s))) (True ∧ ∃ (y : Unit), True ∧ (15 : Int) = formS k s nn ni ∧ True ∧ True) (SM x ∧ ((IntsP (LN s) fun (i : Nat) =>
      [ZI (GI s i)]) ∧ LN s ≤ (9223372036854775807 : Nat)) ∧ ∀ (y : Unit), True → True ∧ ifB (decide (Z0 ≤ idxB (fun (d : Int) => decide (d < Z0)) (intsD (LN s) fun (i : Nat) => [ZI (GI s i)]) N0)) (True ∧ ∃ (y : Unit),
      True ∧ (16 : Int) = formS k s nn ni ∧ True ∧ True) (SM x ∧ (IntsP (LN s) fun (i : Nat) => [ZI (GI s i)]) ∧ ∀ (y : Unit), True → ifB (!rightS (intsD (LN s) fun (i : Nat) => [ZI (GI s i)])) (True ∧ ∃ (y : Unit), True
      ∧ (21 : Int) = formS k s nn ni ∧ True ∧ True) (SM x ∧ (IntsP (LN s) fun (i : Nat) => [ZI (GI s i)]) ∧ ∀ (y : Unit), True → ifB (!rightS (intsD (LN s) fun (i : Nat) => [ZI (GI s i)])) (True ∧ True ∧ ∃ (y : Unit),
      True ∧ (16 : Int) = formS k s nn ni ∧ True ∧ True) (((IntsP (LN s) fun (i : Nat) => [ZI (GI s i)]) ∧ rightS (intsD (LN s) fun (i : Nat) => [ZI (GI s i)]) = true) ∧ ∀ (y : Unit), True → True ∧ ifB ((↑ni : Int) !=
      sizeS (intsD (LN s) fun (i : Nat) => [ZI (GI s i)])) (True ∧ ∃ (y : Unit), True ∧ (16 : Int) = formS k s nn ni ∧ True ∧ True) (ifB ((↑nn : Int) != Z0) (True ∧ ∃ (y : Unit), True ∧ (16 : Int) = formS k s nn ni ∧
      True ∧ True) (True ∧ ∃ (y : Unit), True ∧ Z0 = formS k s nn ni ∧ True ∧ True))))))) (True ∧ ∃ (y : Unit), True ∧ (14 : Int) = formS k s nn ni ∧ True ∧ True)))) (by kernel_rfl) ?_
  delta GI LI LN N0 SM Z0 Z1 ZI
  simp only [intsD_isl, idxB_any, Int.toNat_natCast, ifB_iff, side_iff, decide_eq_true_eq, decide_eq_false_iff_not, true_and, and_true, beq_iff_eq, bne_iff_ne, Bool.cond_false_right, Bool.cond_true_left, Bool.and_eq_true, Bool.and_eq_false_iff, beq_eq_false_iff_ne, ne_eq, exists_const, forall_const]
  simp only [maxLen] at hs hn hi
  have n8 : (8 < (s.length : Int)) ↔ 8 < s.length := by omega
  simp only [n8]
  repeat' (first
    | exact intsP_isl s
    | refine And.intro ?_ ?_
    | intro _)
  all_goals first
    | omega
    | (simp_all [formS, dimsS, rightS]; done)
    | grind [formS, dimsS, rightS]
    | skip
  all_goals trace_state
end Go.Proofs.Ytoglbmhkfkghbaa
namespace Go.Proofs.Ytoglbmhkfkghbaa
open Go Go.Ab

/-! ### arrays: validity -/
def Arr.k : Arr → Int | .mk k _ _ _ => k
def Arr.sh : Arr → List Int | .mk _ s _ _ => s
def Arr.nu : Arr → List Int | .mk _ _ n _ => n
def Arr.it : Arr → List Arr | .mk _ _ _ i => i
def Arr.row1 (a : Arr) : List D := [.int .i64 a.k, isl a.sh .any, isl a.nu .any, gsl 4 Arr.row a.it]
def Arr.row2 (a : Arr) : List D := [.int .i64 a.k, isl a.sh .any, isl a.nu .any, gsl 4 Arr.row1 a.it]
theorem row_len (l : List Arr) : (rowsL l).length = l.length := by rw [rowsL_map]; simp
theorem row_wk (a : Arr) : wkL a.row a.row1 := by
  cases a with
  | mk k s n is =>
    simp only [Arr.row, Arr.row1, Arr.k, Arr.sh, Arr.nu, Arr.it, gsl, isl, wkL, wkD, weakD, chk_iff]
    refine ⟨⟨by simp [kEq], trivial⟩, ⟨by simp, trivial, fun i _ => by simp [kEq], by simp [weakM]⟩, ⟨by simp, trivial, fun i _ => by simp [kEq], by simp [weakM]⟩, ⟨by simp, row_len is, fun i hi => ?_, by simp [weakM]⟩, trivial⟩
    rw [row_len] at hi
    have : (rowsL is).getD i [] = (is.getD i default).row := by
      rw [rowsL_map]; simp [List.getD_eq_getElem?_getD, hi]
    rw [this]
    exact wkL_refl _
theorem row1_wk (a : Arr) : wkL a.row1 a.row2 := by
  simp only [Arr.row1, Arr.row2, gsl, isl, wkL, wkD, weakD, chk_iff]
  exact ⟨⟨by simp [kEq], trivial⟩, ⟨by simp, trivial, fun i _ => by simp [kEq], by simp [weakM]⟩, ⟨by simp, trivial, fun i _ => by simp [kEq], by simp [weakM]⟩, ⟨by simp, trivial, fun i _ => row_wk _, by simp [weakM]⟩, trivial⟩
def numB (z : Int) : Bool := decide (-4611686018427387903 ≤ z) && decide (z ≤ 4611686018427387903)
def chrB (z : Int) : Bool := decide (0 ≤ z) && decide (z ≤ 1114111) && (decide (z < 55296) || decide (57343 < z))
def badK (k z : Int) : Bool := (k == 1 && !numB z) || (k == 2 && !chrB z)
mutual
def chkA : Arr → Int × Int × Int
  | .mk k s n is =>
    if formS k s n.length is.length ≠ 0 then (formS k s n.length is.length, 0, 0)
    else if n.any (badK k) then (17, 0, 0)
    else match chkL is 0 ((n.length : Int) + is.length) with
      | none => (17, 0, 0)
      | some r => if 16 < r.1 ∨ 262144 < r.2 then (21, 0, 0) else (0, r.1, r.2)
def chkL : List Arr → Int → Int → Option (Int × Int)
  | [], d, w => some (d, w)
  | x :: r, d, w => if (chkA x).1 ≠ 0 then none else chkL r (if d < (chkA x).2.1 + 1 then (chkA x).2.1 + 1 else d) (if 262145 < w + (chkA x).2.2 then 262145 else w + (chkA x).2.2)
end
theorem chkL_pos : ∀ (l : List Arr) (d w d' w' : Int), chkL l d w = some (d', w') → 0 ≤ d → 0 ≤ w → (∀ x ∈ l, (chkA x).1 = 0 → 0 ≤ (chkA x).2.1 ∧ 0 ≤ (chkA x).2.2) → 0 ≤ d' ∧ 0 ≤ w'
  | [], d, w, d', w', h, h1, h2, _ => by
    rw [chkL] at h; injection h with h; injection h with e1 e2; omega
  | x :: r, d, w, d', w', h, h1, h2, h3 => by
    rw [chkL] at h
    split at h
    · cases h
    · rename_i hx
      have hx : (chkA x).1 = 0 := by simpa using hx
      have := h3 x (by simp) hx
      refine chkL_pos r _ _ d' w' h ?_ ?_ fun y hy => h3 y (by simp [hy])
      · split <;> omega
      · split <;> omega
theorem chkA_bounds : ∀ (a : Arr), (0 ≤ (chkA a).2.1 ∧ (chkA a).2.1 ≤ 16) ∧ 0 ≤ (chkA a).2.2 ∧ (chkA a).2.2 ≤ 262144
  | .mk k s n is => by
    rw [chkA]
    split
    · simp
    · split
      · simp
      · split
        · simp
        · rename_i r hr
          split
          · simp
          · rename_i hb
            have := chkL_pos is 0 _ r.1 r.2 hr (by omega) (by omega) fun x hx _ => by
              have := chkA_bounds x
              omega
            simp only
            omega
termination_by a => SizeOf.sizeOf a
decreasing_by
  have := List.sizeOf_lt_of_mem hx
  simp; omega
end Go.Proofs.Ytoglbmhkfkghbaa
