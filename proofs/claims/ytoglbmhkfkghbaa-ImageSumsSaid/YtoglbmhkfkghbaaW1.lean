/- What the checksums and the writing of numbers do: each function once. -/
import Derived.Test.YtoglbmhkfkghbaaAb2
import Derived.Test.YtoglbmhkfkghbaaProg
import Derived.KernelRfl
/- The table of the types that the functions here meet, read off the translation by a program; each row is checked. -/
namespace Go.Proofs.Ytoglbmhkfkghbaa
open Go Go.Ab
noncomputable def tab : List (Nat × TI) := [
  (0, ⟨TypeDesc.tuple #[], 1, 0, [.unk]⟩),
  (1, ⟨TypeDesc.func #[] #[] false, 1, 8, [.nilf]⟩),
  (2, ⟨TypeDesc.int .i64, 1, 8, [.int .i64 0]⟩),
  (3, ⟨TypeDesc.int .i64, 1, 8, [.int .i64 0]⟩),
  (4, ⟨TypeDesc.bool, 1, 1, [.bool false]⟩),
  (5, ⟨TypeDesc.int .u8, 1, 1, [.int .u8 0]⟩),
  (9, ⟨TypeDesc.string, 1, 16, [.str []]⟩),
  (20, ⟨TypeDesc.interface #[], 1, 16, [.nili]⟩),
  (21, ⟨TypeDesc.int .i32, 1, 4, [.int .i32 0]⟩),
  (22, ⟨TypeDesc.slice 5, 1, 24, [.sl 1 0 (fun _ => []) .nil]⟩),
  (23, ⟨TypeDesc.func #[] #[4] false, 1, 8, [.nilf]⟩),
  (24, ⟨TypeDesc.int .u32, 1, 4, [.int .u32 0]⟩),
  (25, ⟨TypeDesc.func #[22] #[24] false, 1, 8, [.nilf]⟩),
  (26, ⟨TypeDesc.func #[22] #[4] false, 1, 8, [.nilf]⟩),
  (27, ⟨TypeDesc.slice 53, 1, 24, [.sl 1 0 (fun _ => []) .nil]⟩),
  (28, ⟨TypeDesc.slice 48, 1, 24, [.sl 1 0 (fun _ => []) .nil]⟩),
  (29, ⟨TypeDesc.slice 57, 1, 24, [.sl 1 0 (fun _ => []) .nil]⟩),
  (30, ⟨TypeDesc.slice 60, 1, 24, [.sl 1 0 (fun _ => []) .nil]⟩),
  (31, ⟨Try.t31.desc, 4, 96, [.sl 1 0 (fun _ => []) .nil, .sl 1 0 (fun _ => []) .nil, .sl 1 0 (fun _ => []) .nil, .sl 1 0 (fun _ => []) .nil]⟩),
  (32, ⟨Try.t31.desc, 4, 96, [.sl 1 0 (fun _ => []) .nil, .sl 1 0 (fun _ => []) .nil, .sl 1 0 (fun _ => []) .nil, .sl 1 0 (fun _ => []) .nil]⟩),
  (33, ⟨TypeDesc.func #[32] #[4] false, 1, 8, [.nilf]⟩),
  (34, ⟨TypeDesc.int .i64, 1, 8, [.int .i64 0]⟩),
  (35, ⟨TypeDesc.tuple #[22, 34], 1, 0, [.unk]⟩),
  (36, ⟨TypeDesc.func #[32] #[22, 34] false, 1, 8, [.nilf]⟩),
  (37, ⟨TypeDesc.tuple #[32, 34], 1, 0, [.unk]⟩),
  (38, ⟨TypeDesc.func #[22] #[32, 34] false, 1, 8, [.nilf]⟩),
  (39, ⟨TypeDesc.func #[32, 32] #[4] false, 1, 8, [.nilf]⟩),
  (40, ⟨TypeDesc.func #[22] #[22] false, 1, 8, [.nilf]⟩),
  (41, ⟨TypeDesc.int .u64, 1, 8, [.int .u64 0]⟩),
  (42, ⟨TypeDesc.func #[32, 3, 5] #[4] false, 1, 8, [.nilf]⟩),
  (43, ⟨TypeDesc.int .i64, 1, 8, [.int .i64 0]⟩),
  (44, ⟨Try.t44.desc, 4, 32, [.int .i64 0, .int .i64 0, .int .i64 0, .int .i64 0]⟩),
  (45, ⟨Try.t44.desc, 4, 32, [.int .i64 0, .int .i64 0, .int .i64 0, .int .i64 0]⟩),
  (46, ⟨TypeDesc.slice 45, 1, 24, [.sl 1 0 (fun _ => []) .nil]⟩),
  (47, ⟨Try.t47.desc, 2, 32, [.int .i64 0, .sl 1 0 (fun _ => []) .nil]⟩),
  (48, ⟨Try.t47.desc, 2, 32, [.int .i64 0, .sl 1 0 (fun _ => []) .nil]⟩),
  (49, ⟨TypeDesc.func #[53, 3] #[4] false, 1, 8, [.nilf]⟩),
  (50, ⟨TypeDesc.int .i64, 1, 8, [.int .i64 0]⟩),
  (51, ⟨TypeDesc.slice 3, 1, 24, [.sl 1 0 (fun _ => []) .nil]⟩),
  (52, ⟨Try.t52.desc, 4, 80, [.int .i64 0, .sl 1 0 (fun _ => []) .nil, .sl 1 0 (fun _ => []) .nil, .sl 1 0 (fun _ => []) .nil]⟩),
  (53, ⟨Try.t52.desc, 4, 80, [.int .i64 0, .sl 1 0 (fun _ => []) .nil, .sl 1 0 (fun _ => []) .nil, .sl 1 0 (fun _ => []) .nil]⟩),
  (54, ⟨TypeDesc.slice 88, 1, 24, [.sl 1 0 (fun _ => []) .nil]⟩),
  (55, ⟨TypeDesc.int .i64, 1, 8, [.int .i64 0]⟩),
  (56, ⟨Try.t56.desc, 4, 48, [.int .i64 0, .sl 1 0 (fun _ => []) .nil, .int .i64 0, .int .i64 0]⟩),
  (57, ⟨Try.t56.desc, 4, 48, [.int .i64 0, .sl 1 0 (fun _ => []) .nil, .int .i64 0, .int .i64 0]⟩),
  (58, ⟨TypeDesc.slice 91, 1, 24, [.sl 1 0 (fun _ => []) .nil]⟩),
  (59, ⟨Try.t59.desc, 2, 32, [.int .i64 0, .sl 1 0 (fun _ => []) .nil]⟩),
  (60, ⟨Try.t59.desc, 2, 32, [.int .i64 0, .sl 1 0 (fun _ => []) .nil]⟩),
  (61, ⟨TypeDesc.func #[32] #[34] false, 1, 8, [.nilf]⟩),
  (62, ⟨TypeDesc.pointer 64, 1, 8, [.nilp]⟩),
  (63, ⟨Try.t63.desc, 1, 24, [.sl 1 0 (fun _ => []) .nil]⟩),
  (64, ⟨Try.t63.desc, 1, 24, [.sl 1 0 (fun _ => []) .nil]⟩),
  (65, ⟨TypeDesc.func #[32] #[] false, 1, 8, [.nilf]⟩),
  (66, ⟨TypeDesc.func #[32] #[22] false, 1, 8, [.nilf]⟩),
  (67, ⟨TypeDesc.func #[22, 22] #[4] false, 1, 8, [.nilf]⟩),
  (68, ⟨TypeDesc.func #[53] #[53] false, 1, 8, [.nilf]⟩),
  (69, ⟨TypeDesc.pointer 71, 1, 8, [.nilp]⟩),
  (70, ⟨Try.t70.desc, 3, 40, [.sl 1 0 (fun _ => []) .nil, .int .i64 0, .bool false]⟩),
  (71, ⟨Try.t70.desc, 3, 40, [.sl 1 0 (fun _ => []) .nil, .int .i64 0, .bool false]⟩),
  (72, ⟨TypeDesc.func #[] #[32] false, 1, 8, [.nilf]⟩),
  (73, ⟨TypeDesc.func #[53, 53] #[4] false, 1, 8, [.nilf]⟩),
  (74, ⟨TypeDesc.func #[28, 28] #[4] false, 1, 8, [.nilf]⟩),
  (75, ⟨TypeDesc.func #[29, 29] #[4] false, 1, 8, [.nilf]⟩),
  (76, ⟨TypeDesc.func #[30, 30] #[4] false, 1, 8, [.nilf]⟩),
  (77, ⟨TypeDesc.func #[53] #[3] false, 1, 8, [.nilf]⟩),
  (78, ⟨TypeDesc.func #[27, 80] #[4] false, 1, 8, [.nilf]⟩),
  (79, ⟨TypeDesc.func #[53] #[34] false, 1, 8, [.nilf]⟩),
  (80, ⟨TypeDesc.func #[53] #[4] false, 1, 8, [.nilf]⟩),
  (81, ⟨TypeDesc.func #[29, 82] #[4] false, 1, 8, [.nilf]⟩),
  (82, ⟨TypeDesc.func #[57] #[4] false, 1, 8, [.nilf]⟩),
  (83, ⟨TypeDesc.tuple #[3, 4], 1, 0, [.unk]⟩),
  (84, ⟨TypeDesc.func #[32, 3] #[3, 4] false, 1, 8, [.nilf]⟩),
  (85, ⟨TypeDesc.func #[51] #[] true, 1, 8, [.nilf]⟩),
  (86, ⟨TypeDesc.func #[53] #[] false, 1, 8, [.nilf]⟩),
  (87, ⟨Try.t87.desc, 4, 32, [.int .i64 0, .int .i64 0, .int .i64 0, .int .i64 0]⟩),
  (88, ⟨Try.t87.desc, 4, 32, [.int .i64 0, .int .i64 0, .int .i64 0, .int .i64 0]⟩),
  (89, ⟨TypeDesc.int .i64, 1, 8, [.int .i64 0]⟩),
  (90, ⟨Try.t90.desc, 6, 48, [.int .i64 0, .int .i64 0, .int .i64 0, .int .i64 0, .int .i64 0, .int .i64 0]⟩),
  (91, ⟨Try.t90.desc, 6, 48, [.int .i64 0, .int .i64 0, .int .i64 0, .int .i64 0, .int .i64 0, .int .i64 0]⟩),
  (92, ⟨TypeDesc.func #[3] #[22] false, 1, 8, [.nilf]⟩),
  (93, ⟨TypeDesc.func #[22, 53] #[22] false, 1, 8, [.nilf]⟩),
  (94, ⟨TypeDesc.func #[22, 51] #[22] false, 1, 8, [.nilf]⟩),
  (95, ⟨Try.t95.desc, 0, 0, []⟩),
  (96, ⟨Try.t95.desc, 0, 0, []⟩),
  (97, ⟨TypeDesc.tuple #[96, 4], 1, 0, [.unk]⟩),
  (98, ⟨TypeDesc.pointer 99, 1, 8, [.nilp]⟩),
  (99, ⟨Try.t63.desc, 1, 24, [.sl 1 0 (fun _ => []) .nil]⟩),
  (100, ⟨TypeDesc.func #[] #[3] false, 1, 8, [.nilf]⟩),
  (101, ⟨TypeDesc.func #[3] #[53] false, 1, 8, [.nilf]⟩),
  (102, ⟨TypeDesc.func #[3] #[51] false, 1, 8, [.nilf]⟩),
  (103, ⟨TypeDesc.func #[51, 51] #[4] false, 1, 8, [.nilf]⟩),
  (104, ⟨TypeDesc.func #[27, 80] #[3] false, 1, 8, [.nilf]⟩),
  (105, ⟨TypeDesc.func #[53] #[34, 3, 3] false, 1, 8, [.nilf]⟩),
  (106, ⟨TypeDesc.func #[3] #[4] false, 1, 8, [.nilf]⟩),
  (107, ⟨TypeDesc.tuple #[34, 3, 3], 1, 0, [.unk]⟩),
  (108, ⟨TypeDesc.func #[29, 82] #[3] false, 1, 8, [.nilf]⟩),
  (109, ⟨TypeDesc.func #[3, 3, 3] #[4] false, 1, 8, [.nilf]⟩),
  (110, ⟨TypeDesc.slice 4, 1, 24, [.sl 1 0 (fun _ => []) .nil]⟩),
  (111, ⟨Try.t111.desc, 3, 40, [.str [], .str [], .bool false]⟩),
  (112, ⟨Try.t111.desc, 3, 40, [.str [], .str [], .bool false]⟩),
  (113, ⟨TypeDesc.func #[32, 3, 45] #[112] false, 1, 8, [.nilf]⟩),
  (114, ⟨TypeDesc.tuple #[22, 4], 1, 0, [.unk]⟩),
  (115, ⟨TypeDesc.func #[22, 112] #[22, 4] false, 1, 8, [.nilf]⟩),
  (116, ⟨TypeDesc.int .u64, 1, 8, [.int .u64 0]⟩),
  (117, ⟨TypeDesc.tuple #[34, 3], 1, 0, [.unk]⟩),
  (118, ⟨TypeDesc.func #[53] #[34, 3] false, 1, 8, [.nilf]⟩),
  (119, ⟨TypeDesc.tuple #[9, 4], 1, 0, [.unk]⟩),
  (120, ⟨TypeDesc.func #[9, 122] #[9, 4] false, 1, 8, [.nilf]⟩),
  (121, ⟨Try.t121.desc, 3, 40, [.str [], .str [], .bool false]⟩),
  (122, ⟨Try.t121.desc, 3, 40, [.str [], .str [], .bool false]⟩),
  (123, ⟨TypeDesc.func #[32, 3, 45] #[122] false, 1, 8, [.nilf]⟩),
  (124, ⟨TypeDesc.func #[4] #[] false, 1, 8, [.nilf]⟩),
  (125, ⟨TypeDesc.func #[51] #[4] false, 1, 8, [.nilf]⟩),
  (126, ⟨TypeDesc.func #[51] #[3] false, 1, 8, [.nilf]⟩),
  (127, ⟨TypeDesc.func #[51, 106] #[4] false, 1, 8, [.nilf]⟩),
  (128, ⟨TypeDesc.func #[45] #[112] false, 1, 8, [.nilf]⟩),
  (129, ⟨TypeDesc.func #[9, 3] #[9] false, 1, 8, [.nilf]⟩),
  (130, ⟨TypeDesc.func #[45, 4] #[112] false, 1, 8, [.nilf]⟩),
  (131, ⟨TypeDesc.func #[51] #[34] false, 1, 8, [.nilf]⟩),
  (132, ⟨TypeDesc.func #[45, 4] #[122] false, 1, 8, [.nilf]⟩),
  (133, ⟨TypeDesc.func #[51, 3, 3] #[3] false, 1, 8, [.nilf]⟩),
  (134, ⟨TypeDesc.func #[51, 106] #[3] false, 1, 8, [.nilf]⟩),
  (135, ⟨TypeDesc.int .i64, 1, 8, [.int .i64 0]⟩),
  (136, ⟨TypeDesc.func #[51, 3] #[4] false, 1, 8, [.nilf]⟩),
  (137, ⟨TypeDesc.tuple #[41, 41], 1, 0, [.unk]⟩),
  (138, ⟨TypeDesc.func #[41, 41] #[41, 41] false, 1, 8, [.nilf]⟩),
  (139, ⟨TypeDesc.func #[9, 9] #[4] false, 1, 8, [.nilf]⟩)]
theorem tab_ok : TabOk Try.prog (tabGet tab) :=
  TabOk.cons (ti := ⟨_, _, _, _⟩) Try.underlying0 (by kernel_rfl) <|
  TabOk.cons (ti := ⟨_, _, _, _⟩) Try.underlying1 (by kernel_rfl) <|
  TabOk.cons (ti := ⟨_, _, _, _⟩) Try.underlying2 (by kernel_rfl) <|
  TabOk.cons (ti := ⟨_, _, _, _⟩) Try.underlying3 (by kernel_rfl) <|
  TabOk.cons (ti := ⟨_, _, _, _⟩) Try.underlying4 (by kernel_rfl) <|
  TabOk.cons (ti := ⟨_, _, _, _⟩) Try.underlying5 (by kernel_rfl) <|
  TabOk.cons (ti := ⟨_, _, _, _⟩) Try.underlying9 (by kernel_rfl) <|
  TabOk.cons (ti := ⟨_, _, _, _⟩) Try.underlying20 (by kernel_rfl) <|
  TabOk.cons (ti := ⟨_, _, _, _⟩) Try.underlying21 (by kernel_rfl) <|
  TabOk.cons (ti := ⟨_, _, _, _⟩) Try.underlying22 (by kernel_rfl) <|
  TabOk.cons (ti := ⟨_, _, _, _⟩) Try.underlying23 (by kernel_rfl) <|
  TabOk.cons (ti := ⟨_, _, _, _⟩) Try.underlying24 (by kernel_rfl) <|
  TabOk.cons (ti := ⟨_, _, _, _⟩) Try.underlying25 (by kernel_rfl) <|
  TabOk.cons (ti := ⟨_, _, _, _⟩) Try.underlying26 (by kernel_rfl) <|
  TabOk.cons (ti := ⟨_, _, _, _⟩) Try.underlying27 (by kernel_rfl) <|
  TabOk.cons (ti := ⟨_, _, _, _⟩) Try.underlying28 (by kernel_rfl) <|
  TabOk.cons (ti := ⟨_, _, _, _⟩) Try.underlying29 (by kernel_rfl) <|
  TabOk.cons (ti := ⟨_, _, _, _⟩) Try.underlying30 (by kernel_rfl) <|
  TabOk.cons (ti := ⟨_, _, _, _⟩) Try.underlying31 (by kernel_rfl) <|
  TabOk.cons (ti := ⟨_, _, _, _⟩) Try.underlying32 (by kernel_rfl) <|
  TabOk.cons (ti := ⟨_, _, _, _⟩) Try.underlying33 (by kernel_rfl) <|
  TabOk.cons (ti := ⟨_, _, _, _⟩) Try.underlying34 (by kernel_rfl) <|
  TabOk.cons (ti := ⟨_, _, _, _⟩) Try.underlying35 (by kernel_rfl) <|
  TabOk.cons (ti := ⟨_, _, _, _⟩) Try.underlying36 (by kernel_rfl) <|
  TabOk.cons (ti := ⟨_, _, _, _⟩) Try.underlying37 (by kernel_rfl) <|
  TabOk.cons (ti := ⟨_, _, _, _⟩) Try.underlying38 (by kernel_rfl) <|
  TabOk.cons (ti := ⟨_, _, _, _⟩) Try.underlying39 (by kernel_rfl) <|
  TabOk.cons (ti := ⟨_, _, _, _⟩) Try.underlying40 (by kernel_rfl) <|
  TabOk.cons (ti := ⟨_, _, _, _⟩) Try.underlying41 (by kernel_rfl) <|
  TabOk.cons (ti := ⟨_, _, _, _⟩) Try.underlying42 (by kernel_rfl) <|
  TabOk.cons (ti := ⟨_, _, _, _⟩) Try.underlying43 (by kernel_rfl) <|
  TabOk.cons (ti := ⟨_, _, _, _⟩) Try.underlying44 (by kernel_rfl) <|
  TabOk.cons (ti := ⟨_, _, _, _⟩) Try.underlying45 (by kernel_rfl) <|
  TabOk.cons (ti := ⟨_, _, _, _⟩) Try.underlying46 (by kernel_rfl) <|
  TabOk.cons (ti := ⟨_, _, _, _⟩) Try.underlying47 (by kernel_rfl) <|
  TabOk.cons (ti := ⟨_, _, _, _⟩) Try.underlying48 (by kernel_rfl) <|
  TabOk.cons (ti := ⟨_, _, _, _⟩) Try.underlying49 (by kernel_rfl) <|
  TabOk.cons (ti := ⟨_, _, _, _⟩) Try.underlying50 (by kernel_rfl) <|
  TabOk.cons (ti := ⟨_, _, _, _⟩) Try.underlying51 (by kernel_rfl) <|
  TabOk.cons (ti := ⟨_, _, _, _⟩) Try.underlying52 (by kernel_rfl) <|
  TabOk.cons (ti := ⟨_, _, _, _⟩) Try.underlying53 (by kernel_rfl) <|
  TabOk.cons (ti := ⟨_, _, _, _⟩) Try.underlying54 (by kernel_rfl) <|
  TabOk.cons (ti := ⟨_, _, _, _⟩) Try.underlying55 (by kernel_rfl) <|
  TabOk.cons (ti := ⟨_, _, _, _⟩) Try.underlying56 (by kernel_rfl) <|
  TabOk.cons (ti := ⟨_, _, _, _⟩) Try.underlying57 (by kernel_rfl) <|
  TabOk.cons (ti := ⟨_, _, _, _⟩) Try.underlying58 (by kernel_rfl) <|
  TabOk.cons (ti := ⟨_, _, _, _⟩) Try.underlying59 (by kernel_rfl) <|
  TabOk.cons (ti := ⟨_, _, _, _⟩) Try.underlying60 (by kernel_rfl) <|
  TabOk.cons (ti := ⟨_, _, _, _⟩) Try.underlying61 (by kernel_rfl) <|
  TabOk.cons (ti := ⟨_, _, _, _⟩) Try.underlying62 (by kernel_rfl) <|
  TabOk.cons (ti := ⟨_, _, _, _⟩) Try.underlying63 (by kernel_rfl) <|
  TabOk.cons (ti := ⟨_, _, _, _⟩) Try.underlying64 (by kernel_rfl) <|
  TabOk.cons (ti := ⟨_, _, _, _⟩) Try.underlying65 (by kernel_rfl) <|
  TabOk.cons (ti := ⟨_, _, _, _⟩) Try.underlying66 (by kernel_rfl) <|
  TabOk.cons (ti := ⟨_, _, _, _⟩) Try.underlying67 (by kernel_rfl) <|
  TabOk.cons (ti := ⟨_, _, _, _⟩) Try.underlying68 (by kernel_rfl) <|
  TabOk.cons (ti := ⟨_, _, _, _⟩) Try.underlying69 (by kernel_rfl) <|
  TabOk.cons (ti := ⟨_, _, _, _⟩) Try.underlying70 (by kernel_rfl) <|
  TabOk.cons (ti := ⟨_, _, _, _⟩) Try.underlying71 (by kernel_rfl) <|
  TabOk.cons (ti := ⟨_, _, _, _⟩) Try.underlying72 (by kernel_rfl) <|
  TabOk.cons (ti := ⟨_, _, _, _⟩) Try.underlying73 (by kernel_rfl) <|
  TabOk.cons (ti := ⟨_, _, _, _⟩) Try.underlying74 (by kernel_rfl) <|
  TabOk.cons (ti := ⟨_, _, _, _⟩) Try.underlying75 (by kernel_rfl) <|
  TabOk.cons (ti := ⟨_, _, _, _⟩) Try.underlying76 (by kernel_rfl) <|
  TabOk.cons (ti := ⟨_, _, _, _⟩) Try.underlying77 (by kernel_rfl) <|
  TabOk.cons (ti := ⟨_, _, _, _⟩) Try.underlying78 (by kernel_rfl) <|
  TabOk.cons (ti := ⟨_, _, _, _⟩) Try.underlying79 (by kernel_rfl) <|
  TabOk.cons (ti := ⟨_, _, _, _⟩) Try.underlying80 (by kernel_rfl) <|
  TabOk.cons (ti := ⟨_, _, _, _⟩) Try.underlying81 (by kernel_rfl) <|
  TabOk.cons (ti := ⟨_, _, _, _⟩) Try.underlying82 (by kernel_rfl) <|
  TabOk.cons (ti := ⟨_, _, _, _⟩) Try.underlying83 (by kernel_rfl) <|
  TabOk.cons (ti := ⟨_, _, _, _⟩) Try.underlying84 (by kernel_rfl) <|
  TabOk.cons (ti := ⟨_, _, _, _⟩) Try.underlying85 (by kernel_rfl) <|
  TabOk.cons (ti := ⟨_, _, _, _⟩) Try.underlying86 (by kernel_rfl) <|
  TabOk.cons (ti := ⟨_, _, _, _⟩) Try.underlying87 (by kernel_rfl) <|
  TabOk.cons (ti := ⟨_, _, _, _⟩) Try.underlying88 (by kernel_rfl) <|
  TabOk.cons (ti := ⟨_, _, _, _⟩) Try.underlying89 (by kernel_rfl) <|
  TabOk.cons (ti := ⟨_, _, _, _⟩) Try.underlying90 (by kernel_rfl) <|
  TabOk.cons (ti := ⟨_, _, _, _⟩) Try.underlying91 (by kernel_rfl) <|
  TabOk.cons (ti := ⟨_, _, _, _⟩) Try.underlying92 (by kernel_rfl) <|
  TabOk.cons (ti := ⟨_, _, _, _⟩) Try.underlying93 (by kernel_rfl) <|
  TabOk.cons (ti := ⟨_, _, _, _⟩) Try.underlying94 (by kernel_rfl) <|
  TabOk.cons (ti := ⟨_, _, _, _⟩) Try.underlying95 (by kernel_rfl) <|
  TabOk.cons (ti := ⟨_, _, _, _⟩) Try.underlying96 (by kernel_rfl) <|
  TabOk.cons (ti := ⟨_, _, _, _⟩) Try.underlying97 (by kernel_rfl) <|
  TabOk.cons (ti := ⟨_, _, _, _⟩) Try.underlying98 (by kernel_rfl) <|
  TabOk.cons (ti := ⟨_, _, _, _⟩) Try.underlying99 (by kernel_rfl) <|
  TabOk.cons (ti := ⟨_, _, _, _⟩) Try.underlying100 (by kernel_rfl) <|
  TabOk.cons (ti := ⟨_, _, _, _⟩) Try.underlying101 (by kernel_rfl) <|
  TabOk.cons (ti := ⟨_, _, _, _⟩) Try.underlying102 (by kernel_rfl) <|
  TabOk.cons (ti := ⟨_, _, _, _⟩) Try.underlying103 (by kernel_rfl) <|
  TabOk.cons (ti := ⟨_, _, _, _⟩) Try.underlying104 (by kernel_rfl) <|
  TabOk.cons (ti := ⟨_, _, _, _⟩) Try.underlying105 (by kernel_rfl) <|
  TabOk.cons (ti := ⟨_, _, _, _⟩) Try.underlying106 (by kernel_rfl) <|
  TabOk.cons (ti := ⟨_, _, _, _⟩) Try.underlying107 (by kernel_rfl) <|
  TabOk.cons (ti := ⟨_, _, _, _⟩) Try.underlying108 (by kernel_rfl) <|
  TabOk.cons (ti := ⟨_, _, _, _⟩) Try.underlying109 (by kernel_rfl) <|
  TabOk.cons (ti := ⟨_, _, _, _⟩) Try.underlying110 (by kernel_rfl) <|
  TabOk.cons (ti := ⟨_, _, _, _⟩) Try.underlying111 (by kernel_rfl) <|
  TabOk.cons (ti := ⟨_, _, _, _⟩) Try.underlying112 (by kernel_rfl) <|
  TabOk.cons (ti := ⟨_, _, _, _⟩) Try.underlying113 (by kernel_rfl) <|
  TabOk.cons (ti := ⟨_, _, _, _⟩) Try.underlying114 (by kernel_rfl) <|
  TabOk.cons (ti := ⟨_, _, _, _⟩) Try.underlying115 (by kernel_rfl) <|
  TabOk.cons (ti := ⟨_, _, _, _⟩) Try.underlying116 (by kernel_rfl) <|
  TabOk.cons (ti := ⟨_, _, _, _⟩) Try.underlying117 (by kernel_rfl) <|
  TabOk.cons (ti := ⟨_, _, _, _⟩) Try.underlying118 (by kernel_rfl) <|
  TabOk.cons (ti := ⟨_, _, _, _⟩) Try.underlying119 (by kernel_rfl) <|
  TabOk.cons (ti := ⟨_, _, _, _⟩) Try.underlying120 (by kernel_rfl) <|
  TabOk.cons (ti := ⟨_, _, _, _⟩) Try.underlying121 (by kernel_rfl) <|
  TabOk.cons (ti := ⟨_, _, _, _⟩) Try.underlying122 (by kernel_rfl) <|
  TabOk.cons (ti := ⟨_, _, _, _⟩) Try.underlying123 (by kernel_rfl) <|
  TabOk.cons (ti := ⟨_, _, _, _⟩) Try.underlying124 (by kernel_rfl) <|
  TabOk.cons (ti := ⟨_, _, _, _⟩) Try.underlying125 (by kernel_rfl) <|
  TabOk.cons (ti := ⟨_, _, _, _⟩) Try.underlying126 (by kernel_rfl) <|
  TabOk.cons (ti := ⟨_, _, _, _⟩) Try.underlying127 (by kernel_rfl) <|
  TabOk.cons (ti := ⟨_, _, _, _⟩) Try.underlying128 (by kernel_rfl) <|
  TabOk.cons (ti := ⟨_, _, _, _⟩) Try.underlying129 (by kernel_rfl) <|
  TabOk.cons (ti := ⟨_, _, _, _⟩) Try.underlying130 (by kernel_rfl) <|
  TabOk.cons (ti := ⟨_, _, _, _⟩) Try.underlying131 (by kernel_rfl) <|
  TabOk.cons (ti := ⟨_, _, _, _⟩) Try.underlying132 (by kernel_rfl) <|
  TabOk.cons (ti := ⟨_, _, _, _⟩) Try.underlying133 (by kernel_rfl) <|
  TabOk.cons (ti := ⟨_, _, _, _⟩) Try.underlying134 (by kernel_rfl) <|
  TabOk.cons (ti := ⟨_, _, _, _⟩) Try.underlying135 (by kernel_rfl) <|
  TabOk.cons (ti := ⟨_, _, _, _⟩) Try.underlying136 (by kernel_rfl) <|
  TabOk.cons (ti := ⟨_, _, _, _⟩) Try.underlying137 (by kernel_rfl) <|
  TabOk.cons (ti := ⟨_, _, _, _⟩) Try.underlying138 (by kernel_rfl) <|
  TabOk.cons (ti := ⟨_, _, _, _⟩) Try.underlying139 (by kernel_rfl) <|
  TabOk.nil _
end Go.Proofs.Ytoglbmhkfkghbaa
/- The frames of the functions, read off the translation by a program; each row is checked. -/
namespace Go.Proofs.Ytoglbmhkfkghbaa
open Go Go.Ab
noncomputable def frames : List (Nat × Frm) := [
  (3, ⟨Try.f3, 24, 1, [2], fun _ => ([], []), fun _ => 5000⟩),
  (4, ⟨Try.f4, 34, 7, [9], fun _ => ([], []), fun _ => 5000⟩),
  (5, ⟨Try.f5, 32, 1, [2, 3, 4, 5, 6, 9], fun _ => ([], []), fun _ => 5000⟩),
  (6, ⟨Try.f6, 63, 1, [2, 3, 4, 5, 6, 7, 8, 9, 12, 34, 36], fun _ => ([], []), fun _ => 5000⟩),
  (7, ⟨Try.f7, 39, 7, [9, 17], fun _ => ([], []), fun _ => 5000⟩),
  (8, ⟨Try.f8, 67, 4, [6, 7, 8, 9, 10, 12, 15, 32], fun _ => ([], []), fun _ => 5000⟩),
  (9, ⟨Try.f9, 59, 6, [7], fun _ => ([], []), fun _ => 5000⟩),
  (10, ⟨Try.f10, 31, 1, [2, 3, 5, 6, 7, 8, 9, 10, 17, 18, 24], fun _ => ([], []), fun _ => 5000⟩),
  (11, ⟨Try.f11, 34, 1, [2, 3, 4, 5, 6, 10, 21, 29], fun _ => ([], []), fun _ => 5000⟩),
  (12, ⟨Try.f12, 88, 7, [28, 33, 42, 47, 57, 62, 72, 77, 87], fun _ => ([], []), fun _ => 5000⟩),
  (13, ⟨Try.f13, 52, 8, [11, 26, 47], fun id => match id with | 10 => ([0, 1, 2, 3, 4, 5, 6, 7, 8, 9, 10, 11, 12, 13], [8, 9, 10, 13]) | _ => ([], []), fun _ => 5000⟩),
  (14, ⟨Try.f14, 18, 6, [9, 16], fun _ => ([], []), fun _ => 5000⟩),
  (15, ⟨Try.f15, 86, 1, [2, 3, 4, 5, 6, 7, 8, 9, 10, 15, 20, 51, 63, 68, 71, 72, 73, 74], fun id => match id with | 19 => ([0, 1, 2, 3, 4, 5, 6], [4, 6]) | _ => ([], []), fun _ => 5000⟩),
  (16, ⟨Try.f16, 90, 1, [2, 3, 4, 5, 6, 7, 10, 14, 19, 58, 83, 87], fun id => match id with | 8 => ([0, 1, 2, 3, 6, 7, 8, 9, 10, 14, 15, 16, 17, 18, 22, 23, 24, 25, 26, 4, 5, 11, 12, 13, 19, 20, 21, 27, 28, 29], [4, 11, 19, 27, 29]) | 13 => ([0, 1, 2, 3, 4, 5, 6, 7, 8, 9, 10, 11, 12, 13, 14, 15, 16], []) | _ => ([], []), fun _ => 5000⟩),
  (17, ⟨Try.f17, 51, 6, [12, 17, 31], fun id => match id with | 6 => ([0, 1, 2, 3, 4, 5, 6, 7, 8, 9, 10, 11], [10]) | _ => ([], []), fun _ => 5000⟩),
  (18, ⟨Try.f18, 25, 1, [2, 3, 4], fun _ => ([], []), fun _ => 5000⟩),
  (19, ⟨Try.f19, 15, 3, [4], fun _ => ([], []), fun _ => 5000⟩),
  (20, ⟨Try.f20, 82, 4, [5, 6, 7, 8, 10, 11, 12, 13, 41, 44, 63, 66, 69, 70, 71, 80], fun _ => ([], []), fun _ => 5000⟩),
  (21, ⟨Try.f21, 169, 2, [3, 5, 7, 9, 11, 13, 15, 17, 25, 26, 27, 28, 42, 43, 44, 45, 57, 58, 59, 60, 83, 84, 85, 86, 98, 99, 100, 101, 131, 132, 133, 134, 146, 147, 148, 149], fun _ => ([], []), fun _ => 5000⟩),
  (22, ⟨Try.f22, 108, 10, [14, 45, 50, 59, 78, 83, 92, 97, 107], fun _ => ([], []), fun _ => 5000⟩),
  (23, ⟨Try.f23, 214, 15, [23, 43, 63, 103, 123, 170, 190], fun id => match id with | 15 => ([0, 1, 2, 3, 4, 5, 6, 7, 8, 9, 10, 11, 12, 13, 14, 15, 16, 17, 18, 19, 20, 21, 22, 23, 24, 25, 26, 27], [25, 26]) | 25 => ([0, 1, 2, 3, 4, 5, 6, 7, 8, 9, 10, 11, 12, 13, 14, 15, 16, 17, 18, 19, 20, 21, 22, 23, 24, 25, 26, 27], [25, 26]) | _ => ([], []), fun _ => 5000⟩),
  (24, ⟨Try.f24, 26, 2, [4, 5, 10, 12, 13, 14, 24], fun id => match id with | 6 => ([0, 1, 2, 3, 4, 5, 6, 7, 8], []) | _ => ([], []), fun _ => 5000⟩),
  (25, ⟨Try.f25, 9, 1, [2, 3], fun _ => ([], []), fun _ => 5000⟩),
  (26, ⟨Try.f26, 47, 6, [32, 33, 34, 35], fun id => match id with | 1 => ([0, 1, 2, 3, 4, 6, 7, 8, 10, 11, 12, 5, 9, 13, 14, 15, 16], [5, 9, 13, 15, 16]) | 7 => ([0, 1, 2, 3, 4, 5, 6], [4, 6]) | _ => ([], []), fun _ => 5000⟩),
  (27, ⟨Try.f27, 226, 1, [2, 3, 4, 5, 6, 7, 8, 9, 10, 11, 12, 13, 14, 15, 16, 17, 18, 19, 20, 32, 52, 68, 109, 125, 172, 188], fun id => match id with | 6 => ([0, 1, 2, 3, 4, 5, 6, 7], [3, 4, 5, 7]) | 17 => ([0, 1, 2, 3, 4, 5, 6, 7, 8, 9, 10, 11, 12, 13, 14, 15, 16, 17, 18], [15, 16, 18]) | 29 => ([0, 1, 2, 3, 4, 5, 6, 7, 8, 9, 10, 11, 12, 13, 14, 15, 16, 17, 18], [15, 16, 18]) | 43 => ([0, 1, 2, 3, 4, 5, 6, 7, 8, 9, 10, 11, 12, 13, 14, 15, 16, 17, 18, 19, 20, 21, 22, 23, 24], [21, 22, 24]) | _ => ([], []), fun _ => 5000⟩),
  (28, ⟨Try.f28, 55, 6, [35, 40, 54], fun id => match id with | 6 => ([0, 1, 2, 3, 4, 5, 6, 7, 8, 9, 10, 11], [10]) | _ => ([], []), fun _ => 5000⟩),
  (29, ⟨Try.f29, 71, 2, [4, 5, 6, 11, 15, 43, 51, 70], fun id => match id with | 6 => ([0, 1, 2, 3, 4, 5, 6, 7, 8, 9, 10, 11, 12, 13, 14, 15, 16, 17, 18, 19, 20, 21, 22, 23, 24, 25], []) | 11 => ([0, 1, 2, 3, 4, 5, 6, 7, 8, 9, 10, 11, 12, 13, 14, 15, 16], []) | _ => ([], []), fun _ => 5000⟩),
  (30, ⟨Try.f30, 97, 2, [4, 5, 6, 11, 15, 69, 77, 96], fun id => match id with | 6 => ([0, 1, 2, 3, 4, 5, 6, 7, 8, 9, 10, 11, 12, 13, 14, 15, 16, 17, 18, 19, 20, 21, 22, 23, 24, 25, 26, 27, 28, 29, 30, 31, 32, 33, 34, 35, 36, 37, 38, 39, 40, 41, 42, 43, 44, 45, 46, 47, 48, 49, 50, 51], []) | 11 => ([0, 1, 2, 3, 4, 5, 6, 7, 8, 9, 10, 11, 12, 13, 14, 15, 16], []) | _ => ([], []), fun _ => 5000⟩),
  (31, ⟨Try.f31, 71, 2, [4, 5, 6, 11, 15, 43, 51, 70], fun id => match id with | 6 => ([0, 1, 2, 3, 4, 5, 6, 7, 8, 9, 10, 11, 12, 13, 14, 15, 16, 17, 18, 19, 20, 21, 22, 23, 24, 25], []) | 11 => ([0, 1, 2, 3, 4, 5, 6, 7, 8, 9, 10, 11, 12, 13, 14, 15, 16], []) | _ => ([], []), fun _ => 5000⟩),
  (32, ⟨Try.f32, 28, 5, [16], fun _ => ([], []), fun _ => 5000⟩),
  (33, ⟨Try.f33, 9, 2, [4], fun _ => ([], []), fun _ => 5000⟩),
  (34, ⟨Try.f34, 6, 3, [], fun _ => ([], []), fun _ => 5000⟩),
  (35, ⟨Try.f35, 16, 7, [], fun _ => ([], []), fun _ => 5000⟩),
  (36, ⟨Try.f36, 9, 2, [4], fun _ => ([], []), fun _ => 5000⟩),
  (37, ⟨Try.f37, 6, 3, [], fun _ => ([], []), fun _ => 5000⟩),
  (38, ⟨Try.f38, 70, 6, [32, 34, 35, 36, 37, 68], fun _ => ([], []), fun _ => 5000⟩),
  (39, ⟨Try.f39, 139, 3, [4, 5, 6, 7, 8, 9, 10, 11, 12, 13, 14, 15, 16, 17, 19, 45, 49, 50, 51, 52, 73, 108, 116, 117, 118, 119, 136], fun _ => ([], []), fun _ => 5000⟩),
  (40, ⟨Try.f40, 48, 2, [5, 6, 7, 8, 9, 10, 17, 21], fun _ => ([], []), fun _ => 5000⟩),
  (41, ⟨Try.f41, 33, 2, [3, 5, 23, 24, 25, 26], fun _ => ([], []), fun _ => 5000⟩),
  (42, ⟨Try.f42, 11, 5, [], fun _ => ([], []), fun _ => 5000⟩),
  (43, ⟨Try.f43, 75, 5, [31, 36, 74], fun _ => ([], []), fun _ => 5000⟩),
  (44, ⟨Try.f44, 144, 3, [4, 5, 6, 7, 8, 9, 10, 11, 12, 13, 42, 46, 114, 123, 142], fun id => match id with | 10 => ([0, 1, 2, 3, 4, 5, 6, 7, 8, 9, 10, 11, 12, 13], [7, 8]) | _ => ([], []), fun _ => 5000⟩),
  (45, ⟨Try.f45, 29, 1, [2, 3, 4, 9, 14], fun _ => ([], []), fun _ => 5000⟩),
  (46, ⟨Try.f46, 37, 2, [3, 4, 5, 26], fun _ => ([], []), fun _ => 5000⟩),
  (47, ⟨Try.f47, 20, 2, [4, 5, 9], fun _ => ([], []), fun _ => 5000⟩),
  (48, ⟨Try.f48, 17, 3, [4, 7, 14], fun _ => ([], []), fun _ => 5000⟩),
  (49, ⟨Try.f49, 136, 1, [2, 3, 4, 5, 6, 8, 9, 10, 20, 21, 22, 27, 28, 29, 53, 54, 55, 60, 61, 62, 92, 93, 94, 99, 100, 101], fun id => match id with | 4 => ([0, 1, 2, 3, 4, 5, 6, 7], [3, 4, 5, 7]) | 11 => ([0, 1, 2, 4, 6, 8, 3, 5, 7, 9, 10, 11, 12, 13, 14], [3, 5, 7, 9, 11, 12, 14]) | 20 => ([0, 1, 2, 4, 6, 8, 3, 5, 7, 9, 10, 11, 12, 13, 14], [3, 5, 7, 9, 11, 12, 14]) | 30 => ([0, 1, 2, 4, 6, 8, 10, 12, 3, 5, 7, 9, 11, 13, 14, 15, 16, 17, 18], [3, 5, 7, 9, 11, 13, 15, 16, 18]) | _ => ([], []), fun _ => 5000⟩),
  (50, ⟨Try.f50, 31, 1, [2, 3, 21, 29], fun id => match id with | 2 => ([0, 1, 2, 3, 4, 5, 6, 7, 8, 9, 10, 11, 12, 13, 14, 15], []) | _ => ([], []), fun _ => 5000⟩),
  (51, ⟨Try.f51, 75, 2, [4, 5, 6, 7, 33, 41, 48, 62], fun id => match id with | 14 => ([0, 1, 2, 3, 4, 5, 6, 7, 8, 9], [5, 6, 7, 9]) | _ => ([], []), fun _ => 5000⟩),
  (52, ⟨Try.f52, 80, 1, [2, 3, 4, 5, 6, 14, 26, 49, 60, 66, 72], fun id => match id with | 5 => ([0, 1, 2, 3, 4, 5, 6, 7, 8, 9], []) | 6 => ([0, 1, 2, 3, 4, 5, 6, 7, 8, 9, 10], []) | _ => ([], []), fun _ => 5000⟩),
  (53, ⟨Try.f53, 25, 2, [4, 5, 6, 16], fun _ => ([], []), fun _ => 5000⟩),
  (54, ⟨Try.f54, 26, 2, [4, 5, 10, 14, 25], fun id => match id with | 6 => ([0, 1, 2, 3, 4, 5, 6, 7, 8], []) | _ => ([], []), fun _ => 5000⟩),
  (55, ⟨Try.f55, 19, 2, [4, 5, 7, 8, 9, 16], fun _ => ([], []), fun _ => 5000⟩),
  (56, ⟨Try.f56, 87, 7, [8, 9, 10, 12, 13, 14, 15, 19, 22, 23, 24, 25, 45, 55, 56, 57, 58, 69, 84], fun id => match id with | 10 => ([0, 1, 2, 3, 4, 5, 6, 7, 8], []) | _ => ([], []), fun _ => 5000⟩),
  (57, ⟨Try.f57, 44, 5, [12, 13, 16, 20, 25, 29, 34], fun id => match id with | 1 => ([0, 1, 2, 3, 4, 5, 6, 7], []) | _ => ([], []), fun _ => 5000⟩),
  (58, ⟨Try.f58, 9, 1, [2], fun _ => ([], []), fun _ => 5000⟩),
  (59, ⟨Try.f59, 17, 1, [2], fun _ => ([], []), fun _ => 5000⟩),
  (60, ⟨Try.f60, 19, 2, [4, 5, 7, 8, 9, 16], fun _ => ([], []), fun _ => 5000⟩),
  (61, ⟨Try.f61, 15, 3, [6], fun _ => ([], []), fun _ => 5000⟩),
  (62, ⟨Try.f62, 5, 1, [2], fun _ => ([], []), fun _ => 5000⟩),
  (63, ⟨Try.f63, 151, 4, [5, 6, 7, 8, 10, 11, 22, 33, 40, 45, 55, 68, 78, 84, 90, 96, 106, 120, 128], fun id => match id with | 16 => ([0, 1, 2, 3, 4, 5, 6, 7, 8, 9, 10, 11], [9, 11]) | 18 => ([0, 1, 2, 4, 5, 3, 6, 7, 8], [3, 6, 8]) | 28 => ([0, 1, 2, 3, 4, 5, 6, 7, 8, 9, 10, 11, 12], [10, 12]) | _ => ([], []), fun _ => 5000⟩),
  (64, ⟨Try.f64, 56, 2, [3, 4, 5, 6, 17, 20, 21, 22, 43], fun id => match id with | 6 => ([0, 1, 2, 3, 4, 5, 6, 7, 8, 9, 10, 11, 12, 13, 14, 15, 16, 17, 18, 19], []) | 9 => ([0, 1, 2, 3, 4, 5, 6, 7, 8, 9, 10, 11, 12], [10]) | _ => ([], []), fun _ => 5000⟩),
  (65, ⟨Try.f65, 107, 11, [18, 23, 30, 43, 48, 76, 81, 94, 105], fun id => match id with | 9 => ([0, 2, 3, 1, 4, 5, 6, 7, 8, 9], [1, 4]) | _ => ([], []), fun _ => 5000⟩),
  (66, ⟨Try.f66, 15, 3, [6], fun _ => ([], []), fun _ => 5000⟩),
  (67, ⟨Try.f67, 5, 1, [2], fun _ => ([], []), fun _ => 5000⟩),
  (68, ⟨Try.f68, 55, 2, [3, 4, 5, 6, 17, 22, 43], fun id => match id with | 6 => ([0, 1, 2, 3, 4, 5, 6, 7, 8, 9, 10, 11, 12, 13, 14, 15, 16, 17, 18], []) | 8 => ([0, 1, 2, 3, 4, 5, 6, 7, 8, 9, 10, 11, 12], []) | _ => ([], []), fun _ => 5000⟩),
  (69, ⟨Try.f69, 242, 4, [5, 6, 8, 9, 24, 35, 46, 64, 74, 80, 91, 102, 113, 128, 139, 153, 167, 177, 183, 202, 227], fun id => match id with | 9 => ([0, 1, 2, 3, 4, 5, 6, 7, 8, 9, 10, 11, 12, 13, 14, 15, 16], [13, 16]) | 33 => ([0, 1, 2, 3, 4, 5, 6, 7, 8, 9, 10, 11, 12, 13, 14, 15, 16, 17], [14, 17]) | _ => ([], []), fun _ => 5000⟩),
  (70, ⟨Try.f70, 19, 1, [2, 3], fun _ => ([], []), fun _ => 5000⟩),
  (71, ⟨Try.f71, 63, 2, [4, 5, 22, 23, 24, 39, 40, 41, 44], fun id => match id with | 6 => ([0, 1, 2, 3, 4, 5, 6, 7], [3, 4, 5, 7]) | 12 => ([0, 1, 2, 3, 4, 5, 6, 7, 8, 9], [5, 6, 7, 9]) | 13 => ([0, 1, 2, 3, 4, 5, 6, 7], [3, 4, 5, 7]) | _ => ([], []), fun _ => 5000⟩),
  (72, ⟨Try.f72, 67, 1, [2, 3, 4, 5, 49, 59], fun _ => ([], []), fun _ => 5000⟩),
  (73, ⟨Try.f73, 6, 1, [3], fun _ => ([], []), fun _ => 5000⟩),
  (74, ⟨Try.f74, 39, 1, [2, 3, 4, 7, 11, 25, 30, 38], fun _ => ([], []), fun _ => 5000⟩),
  (75, ⟨Try.f75, 10, 1, [2, 5], fun _ => ([], []), fun _ => 5000⟩),
  (76, ⟨Try.f76, 9, 2, [4], fun _ => ([], []), fun _ => 5000⟩),
  (77, ⟨Try.f77, 5, 1, [2], fun _ => ([], []), fun _ => 5000⟩),
  (78, ⟨Try.f78, 31, 1, [2, 3, 5, 8, 9, 10, 11, 12, 15, 22, 29], fun _ => ([], []), fun _ => 5000⟩),
  (79, ⟨Try.f79, 8, 1, [2, 5], fun _ => ([], []), fun _ => 5000⟩),
  (80, ⟨Try.f80, 55, 4, [7, 8, 22, 37, 38, 46], fun id => match id with | 6 => ([0, 1, 2, 4, 5, 3, 6, 7, 8, 9, 10, 11, 12, 13], [3, 6, 13]) | _ => ([], []), fun _ => 5000⟩),
  (81, ⟨Try.f81, 9, 2, [4], fun _ => ([], []), fun _ => 5000⟩),
  (82, ⟨Try.f82, 73, 3, [4, 5, 15, 16, 18, 20, 22, 25, 27, 29, 31, 33, 35, 37, 39, 67], fun _ => ([], []), fun _ => 5000⟩),
  (83, ⟨Try.f83, 21, 1, [2, 3, 6, 10, 17, 20], fun _ => ([], []), fun _ => 5000⟩),
  (84, ⟨Try.f84, 16, 3, [4, 5, 11], fun _ => ([], []), fun _ => 5000⟩),
  (85, ⟨Try.f85, 17, 1, [2, 3, 7, 14], fun _ => ([], []), fun _ => 5000⟩),
  (86, ⟨Try.f86, 9, 1, [2], fun _ => ([], []), fun _ => 5000⟩),
  (87, ⟨Try.f87, 17, 1, [2], fun _ => ([], []), fun _ => 5000⟩),
  (88, ⟨Try.f88, 33, 5, [20], fun _ => ([], []), fun _ => 5000⟩),
  (89, ⟨Try.f89, 16, 2, [4, 5, 6, 9], fun _ => ([], []), fun _ => 5000⟩),
  (90, ⟨Try.f90, 71, 3, [4, 5, 15, 16, 20, 29, 39, 43, 47, 51, 55, 59, 63, 65], fun _ => ([], []), fun _ => 5000⟩),
  (91, ⟨Try.f91, 27, 3, [6, 7, 8, 12, 19], fun _ => ([], []), fun _ => 5000⟩),
  (92, ⟨Try.f92, 19, 2, [4, 5, 7, 8, 9, 16], fun _ => ([], []), fun _ => 5000⟩),
  (93, ⟨Try.f93, 19, 1, [2, 3, 5, 7, 8, 9, 10, 11], fun _ => ([], []), fun _ => 5000⟩),
  (94, ⟨Try.f94, 125, 2, [4, 5, 6, 7, 8, 9, 10, 11, 12, 14, 18, 34, 40, 42, 43, 49, 58, 67, 76, 85, 96, 104, 113], fun _ => ([], []), fun _ => 5000⟩),
  (95, ⟨Try.f95, 30, 1, [2, 3, 4, 8, 15, 20, 28], fun _ => ([], []), fun _ => 5000⟩),
  (96, ⟨Try.f96, 9, 2, [4], fun _ => ([], []), fun _ => 5000⟩),
  (97, ⟨Try.f97, 30, 2, [4, 5, 6, 7, 8, 9], fun _ => ([], []), fun _ => 5000⟩),
  (98, ⟨Try.f98, 8, 2, [4], fun _ => ([], []), fun _ => 5000⟩),
  (99, ⟨Try.f99, 25, 2, [7, 21], fun id => match id with | 3 => ([0, 1, 2, 3, 5, 6, 7, 8, 9, 11, 4, 10, 12], [4]) | _ => ([], []), fun _ => 5000⟩),
  (100, ⟨Try.f100, 19, 2, [4, 5], fun _ => ([], []), fun _ => 5000⟩),
  (101, ⟨Try.f101, 8, 1, [2], fun _ => ([], []), fun _ => 5000⟩),
  (102, ⟨Try.f102, 14, 1, [2], fun id => match id with | 1 => ([0, 1, 2, 3, 5, 6, 7, 8, 9, 4, 10, 11], [4, 10]) | _ => ([], []), fun _ => 5000⟩),
  (103, ⟨Try.f103, 19, 2, [4, 5, 7, 8, 9, 16], fun _ => ([], []), fun _ => 5000⟩),
  (104, ⟨Try.f104, 17, 2, [4, 5, 6], fun _ => ([], []), fun _ => 5000⟩),
  (105, ⟨Try.f105, 51, 2, [4, 5, 6, 7, 8, 9, 10, 11, 12, 13], fun _ => ([], []), fun _ => 5000⟩),
  (106, ⟨Try.f106, 18, 2, [4], fun _ => ([], []), fun _ => 5000⟩),
  (107, ⟨Try.f107, 20, 1, [6, 19], fun _ => ([], []), fun _ => 5000⟩),
  (108, ⟨Try.f108, 30, 2, [4], fun id => match id with | 0 => ([0, 1, 2, 3, 6, 9, 10, 11, 12, 13, 4, 5, 7, 8, 14, 15], [4, 8]) | _ => ([], []), fun _ => 5000⟩)]
abbrev eqs : List Nat := [45, 88, 91, 96, 112, 122]
theorem eqs_ok : ∀ t, eqs.contains t = true → Try.prog.eqGuardType Try.prog.depth t = false ∧ Try.prog.stoodInHeld t = false := by
  intro t h
  simp only [eqs, List.contains_eq_mem, List.mem_cons, List.not_mem_nil, or_false, decide_eq_true_eq] at h
  rcases h with rfl | rfl | rfl | rfl | rfl | rfl
  · exact ⟨Try.eqGuardType45, Try.stoodInHeld45⟩
  · exact ⟨Try.eqGuardType88, Try.stoodInHeld88⟩
  · exact ⟨Try.eqGuardType91, Try.stoodInHeld91⟩
  · exact ⟨Try.eqGuardType96, Try.stoodInHeld96⟩
  · exact ⟨Try.eqGuardType112, Try.stoodInHeld112⟩
  · exact ⟨Try.eqGuardType122, Try.stoodInHeld122⟩
theorem frames_ok : FrmOk Try.prog (frmGet frames) :=
  FrmOk.cons Try.func3 rfl (by decide) <|
  FrmOk.cons Try.func4 rfl (by decide) <|
  FrmOk.cons Try.func5 rfl (by decide) <|
  FrmOk.cons Try.func6 rfl (by decide) <|
  FrmOk.cons Try.func7 rfl (by decide) <|
  FrmOk.cons Try.func8 rfl (by decide) <|
  FrmOk.cons Try.func9 rfl (by decide) <|
  FrmOk.cons Try.func10 rfl (by decide) <|
  FrmOk.cons Try.func11 rfl (by decide) <|
  FrmOk.cons Try.func12 rfl (by decide) <|
  FrmOk.cons Try.func13 rfl (by decide) <|
  FrmOk.cons Try.func14 rfl (by decide) <|
  FrmOk.cons Try.func15 rfl (by decide) <|
  FrmOk.cons Try.func16 rfl (by decide) <|
  FrmOk.cons Try.func17 rfl (by decide) <|
  FrmOk.cons Try.func18 rfl (by decide) <|
  FrmOk.cons Try.func19 rfl (by decide) <|
  FrmOk.cons Try.func20 rfl (by decide) <|
  FrmOk.cons Try.func21 rfl (by decide) <|
  FrmOk.cons Try.func22 rfl (by decide) <|
  FrmOk.cons Try.func23 rfl (by decide) <|
  FrmOk.cons Try.func24 rfl (by decide) <|
  FrmOk.cons Try.func25 rfl (by decide) <|
  FrmOk.cons Try.func26 rfl (by decide) <|
  FrmOk.cons Try.func27 rfl (by decide) <|
  FrmOk.cons Try.func28 rfl (by decide) <|
  FrmOk.cons Try.func29 rfl (by decide) <|
  FrmOk.cons Try.func30 rfl (by decide) <|
  FrmOk.cons Try.func31 rfl (by decide) <|
  FrmOk.cons Try.func32 rfl (by decide) <|
  FrmOk.cons Try.func33 rfl (by decide) <|
  FrmOk.cons Try.func34 rfl (by decide) <|
  FrmOk.cons Try.func35 rfl (by decide) <|
  FrmOk.cons Try.func36 rfl (by decide) <|
  FrmOk.cons Try.func37 rfl (by decide) <|
  FrmOk.cons Try.func38 rfl (by decide) <|
  FrmOk.cons Try.func39 rfl (by decide) <|
  FrmOk.cons Try.func40 rfl (by decide) <|
  FrmOk.cons Try.func41 rfl (by decide) <|
  FrmOk.cons Try.func42 rfl (by decide) <|
  FrmOk.cons Try.func43 rfl (by decide) <|
  FrmOk.cons Try.func44 rfl (by decide) <|
  FrmOk.cons Try.func45 rfl (by decide) <|
  FrmOk.cons Try.func46 rfl (by decide) <|
  FrmOk.cons Try.func47 rfl (by decide) <|
  FrmOk.cons Try.func48 rfl (by decide) <|
  FrmOk.cons Try.func49 rfl (by decide) <|
  FrmOk.cons Try.func50 rfl (by decide) <|
  FrmOk.cons Try.func51 rfl (by decide) <|
  FrmOk.cons Try.func52 rfl (by decide) <|
  FrmOk.cons Try.func53 rfl (by decide) <|
  FrmOk.cons Try.func54 rfl (by decide) <|
  FrmOk.cons Try.func55 rfl (by decide) <|
  FrmOk.cons Try.func56 rfl (by decide) <|
  FrmOk.cons Try.func57 rfl (by decide) <|
  FrmOk.cons Try.func58 rfl (by decide) <|
  FrmOk.cons Try.func59 rfl (by decide) <|
  FrmOk.cons Try.func60 rfl (by decide) <|
  FrmOk.cons Try.func61 rfl (by decide) <|
  FrmOk.cons Try.func62 rfl (by decide) <|
  FrmOk.cons Try.func63 rfl (by decide) <|
  FrmOk.cons Try.func64 rfl (by decide) <|
  FrmOk.cons Try.func65 rfl (by decide) <|
  FrmOk.cons Try.func66 rfl (by decide) <|
  FrmOk.cons Try.func67 rfl (by decide) <|
  FrmOk.cons Try.func68 rfl (by decide) <|
  FrmOk.cons Try.func69 rfl (by decide) <|
  FrmOk.cons Try.func70 rfl (by decide) <|
  FrmOk.cons Try.func71 rfl (by decide) <|
  FrmOk.cons Try.func72 rfl (by decide) <|
  FrmOk.cons Try.func73 rfl (by decide) <|
  FrmOk.cons Try.func74 rfl (by decide) <|
  FrmOk.cons Try.func75 rfl (by decide) <|
  FrmOk.cons Try.func76 rfl (by decide) <|
  FrmOk.cons Try.func77 rfl (by decide) <|
  FrmOk.cons Try.func78 rfl (by decide) <|
  FrmOk.cons Try.func79 rfl (by decide) <|
  FrmOk.cons Try.func80 rfl (by decide) <|
  FrmOk.cons Try.func81 rfl (by decide) <|
  FrmOk.cons Try.func82 rfl (by decide) <|
  FrmOk.cons Try.func83 rfl (by decide) <|
  FrmOk.cons Try.func84 rfl (by decide) <|
  FrmOk.cons Try.func85 rfl (by decide) <|
  FrmOk.cons Try.func86 rfl (by decide) <|
  FrmOk.cons Try.func87 rfl (by decide) <|
  FrmOk.cons Try.func88 rfl (by decide) <|
  FrmOk.cons Try.func89 rfl (by decide) <|
  FrmOk.cons Try.func90 rfl (by decide) <|
  FrmOk.cons Try.func91 rfl (by decide) <|
  FrmOk.cons Try.func92 rfl (by decide) <|
  FrmOk.cons Try.func93 rfl (by decide) <|
  FrmOk.cons Try.func94 rfl (by decide) <|
  FrmOk.cons Try.func95 rfl (by decide) <|
  FrmOk.cons Try.func96 rfl (by decide) <|
  FrmOk.cons Try.func97 rfl (by decide) <|
  FrmOk.cons Try.func98 rfl (by decide) <|
  FrmOk.cons Try.func99 rfl (by decide) <|
  FrmOk.cons Try.func100 rfl (by decide) <|
  FrmOk.cons Try.func101 rfl (by decide) <|
  FrmOk.cons Try.func102 rfl (by decide) <|
  FrmOk.cons Try.func103 rfl (by decide) <|
  FrmOk.cons Try.func104 rfl (by decide) <|
  FrmOk.cons Try.func105 rfl (by decide) <|
  FrmOk.cons Try.func106 rfl (by decide) <|
  FrmOk.cons Try.func107 rfl (by decide) <|
  FrmOk.cons Try.func108 rfl (by decide) <|
  FrmOk.nil _
end Go.Proofs.Ytoglbmhkfkghbaa
namespace Go.Proofs.Ytoglbmhkfkghbaa
open Go Go.Ab
theorem mix : Try.prog.follows .mixedOrders = true := by kernel_rfl
noncomputable def E0 (con : Nat → List D → St → Option FnSpec) (n V : Nat) (cross : List Nat) (ord : Nat → List Nat × List Nat) : Senv where
  P := Try.prog
  tt := tabGet tab
  n := n
  dfs := []
  V := V
  cross := cross
  gh := fun _ => []
  gr := []
  unr := fun _ => 0
  cut := fun _ _ _ => none
  ann := fun _ _ _ => none
  ord := ord
  con := con
  eqs := eqs
abbrev con0 : Nat → List D → St → Option FnSpec := fun _ _ _ => none
theorem con0_ok : ConOk Try.prog con0 := fun _ _ _ _ h => nomatch h
theorem inl0 (k : Nat) (ds : List D) (S : St) (R : AEnd → St → Prop) (h : inlD (E0 con0 0 0 [] (fun _ => ([], []))) (frmGet frames) 50 k ds S R) : ACalls Try.prog k ds S R :=
  inlD_ok (E := E0 con0 0 0 [] (fun _ => ([], []))) tab_ok con0_ok mix frames_ok eqs_ok 50 k ds S R h
end Go.Proofs.Ytoglbmhkfkghbaa
namespace Go.Proofs.Ytoglbmhkfkghbaa
open Go Go.Ab

/-! ### checksums -/
def bit1 (c : Nat) : Nat := match c % 2 with
  | 0 => c / 2
  | _ => (c / 2) ^^^ 3988292384
def bits (k c : Nat) : Nat := match k with
  | 0 => c
  | k + 1 => bit1 (bits k c)
def crc (l : List UInt8) (c : Nat) : Nat := match l with
  | [] => c
  | b :: r => crc r (bits 8 (c ^^^ b.toNat))
def sumN (l : List UInt8) : Nat := crc l 4294967295 ^^^ 4294967295

theorem bit1_lt {c : Nat} (h : c < 4294967296) : bit1 c < 4294967296 := by
  unfold bit1
  split
  · omega
  · exact Nat.xor_lt_two_pow (n := 32) (by omega) (by omega)
theorem bits_lt {c : Nat} (h : c < 4294967296) : ∀ k, bits k c < 4294967296
  | 0 => h
  | k + 1 => bit1_lt (bits_lt h k)
theorem byte_xor {c : Nat} (h : c < 4294967296) (b : UInt8) : c ^^^ b.toNat < 4294967296 := Nat.xor_lt_two_pow (n := 32) (by omega) (by have := b.toNat_lt; omega)
theorem crc_lt : ∀ (l : List UInt8) {c : Nat}, c < 4294967296 → crc l c < 4294967296
  | [], _, h => h
  | b :: l, _, h => crc_lt l (bits_lt (byte_xor h b) 8)
theorem crc_app : ∀ (l r : List UInt8) (c : Nat), crc (l ++ r) c = crc r (crc l c)
  | [], _, _ => rfl
  | b :: l, r, c => crc_app l r _
theorem crc_take (l : List UInt8) {x : Nat} (h : x < l.length) (c : Nat) : crc (l.take (x + 1)) c = bits 8 (crc (l.take x) c ^^^ (l.getD x 0).toNat) := by
  rw [List.take_add_one, crc_app, List.getD_eq_getElem?_getD, List.getElem?_eq_getElem h]; rfl
theorem xor32 {a b : Nat} (ha : a < 4294967296) (hb : b < 4294967296) : xorI .u32 a b = ((a ^^^ b : Nat) : Int) := xorI_nat rfl ha hb
theorem and32 {a b : Nat} (ha : a < 4294967296) (hb : b < 4294967296) : andI .u32 a b = ((a &&& b : Nat) : Int) := andI_nat rfl ha hb
theorem not32 {a : Nat} (ha : a < 4294967296) : notI .u32 a = ((a ^^^ 4294967295 : Nat) : Int) := notI_nat rfl ha
theorem wrapB (b : UInt8) : IntKind.u32.wrap (b.toNat : Int) = (b.toNat : Int) := wrap_uns rfl (by have := b.toNat_lt; simp [IntKind.bits]; omega)
theorem low_bit {c : Nat} (h : c < 4294967296) : (andI .u32 (c : Int) 1 == 1) = decide (c % 2 = 1) := by
  have := and32 h (b := 1) (by omega)
  simp only [Int.ofNat_one] at this
  rw [this, Nat.and_one_is_mod]
  by_cases e : c % 2 = 1
  · simp [e]
  · have : c % 2 = 0 := by omega
    simp [this]
theorem half (c : Nat) : Int.fdiv (c : Int) 2 = ((c / 2 : Nat) : Int) := fdiv_nat c 2
theorem bit_1 {c : Nat} (h : c < 4294967296) (e : c % 2 = 1) : xorI .u32 (Int.fdiv (c : Int) 2) 3988292384 = ((bit1 c : Nat) : Int) := by
  rw [half]
  have := xor32 (a := c / 2) (b := 3988292384) (by omega) (by omega)
  rw [show ((3988292384 : Nat) : Int) = 3988292384 from rfl] at this
  rw [this]
  unfold bit1; rw [e]; rfl
theorem bit_0 {c : Nat} (e : c % 2 = 0) : Int.fdiv (c : Int) 2 = ((bit1 c : Nat) : Int) := by
  rw [half]; unfold bit1; rw [e]; rfl
theorem sum_law (l : List UInt8) : notI .u32 ((crc (l.take l.length) 4294967295 : Nat) : Int) = ((sumN l : Nat) : Int) := by
  rw [List.take_length, not32 (crc_lt l (by omega))]; rfl

def sSum : FnSpec where
  β := List UInt8 × Ab.Mode
  α := Unit
  args := fun x => [.sl 1 x.1.length (fun i => [.int .u8 ((x.1.getD i 0).toNat : Int)]) x.2]
  st := fun _ => ⟨[], []⟩
  pre := fun x => x.1.length ≤ 9223372036854775807
  post := fun _ _ => True
  res := fun x _ => .ret (.int .u32 (sumN x.1 : Int))
  out := fun _ _ => ⟨[], []⟩

def inner (l : List UInt8) (d : D) (s1 s2 : Nat) (keep : List Nat) : Option LoopAnn :=
  match d with
  | .int _ z => some { slots := [s1, s2], keep := keep, α := Nat, st := fun k => ([.int .u32 (bits k (crc (l.take z.toNat) 4294967295 ^^^ (l.getD z.toNat 0).toNat) : Int), .int .i64 k], ⟨[], []⟩), inv := fun k => k ≤ 8, mu := fun k => 8 - k }
  | _ => none
noncomputable def E10 (l : List UInt8) : Senv := { E0 con0 31 1 [2, 3, 5, 6, 7, 8, 9, 10, 17, 18, 24] (fun _ => ([], [])) with
  ann := fun b env _ => match b with
    | 0 => some { slots := [3, 9], keep := [7, 8], α := Nat, st := fun i => ([.int .u32 (crc (l.take i) 4294967295 : Int), .int .i64 i], ⟨[], []⟩), inv := fun i => i ≤ l.length, mu := fun i => l.length - i }
    | 2 => inner l (Ab.look env 9) 3 17 [7, 8, 9]
    | _ => none }
theorem sum_ok (l : List UInt8) (m : Ab.Mode) (hl : l.length ≤ 9223372036854775807) : ACalls Try.prog 10 (sSum.args (l, m)) (sSum.st (l, m)) (SpecR sSum (l, m)) := by
  refine con_of (A := sSum) (x := (l, m)) (E := E10 l) ⟨tab_ok, con0_ok, mix, fun _ _ _ _ h => h.elim, eqs_ok⟩ Try.func10 rfl (by kernel_rfl) rfl (by simp [sSum, E10, E0]) ?_
  refine vc_eq (T :=
      (∃ (x : Nat), x ≤ List.length l ∧ ((4294967295 : Int) = (↑(crc (List.take x l) (4294967295 : Nat)) : Int) ∧ (0 : Int) = (↑x : Int) ∧ True) ∧ True ∧ True) ∧ ∀ (x : Nat), x ≤ List.length l → ifB (decide ((↑x : Int) <
      (↑(List.length l) : Int))) (side ((0 : Int) ≤ (↑x : Int) ∧ (↑x : Int) < (↑(List.length l) : Int)) ((∃ (x_1 : Nat), x_1 ≤ (8 : Nat) ∧ (xorI IntKind.u32 (↑(crc (List.take x l) (4294967295 : Nat)) : Int) (IntKind.wrap
      IntKind.u32 (↑(UInt8.toNat (List.getD l (Int.toNat (↑x : Int)) (0 : UInt8))) : Int)) = (↑(bits x_1 (crc (List.take (Int.toNat (↑x : Int)) l) (4294967295 : Nat) ^^^ UInt8.toNat (List.getD l (Int.toNat (↑x : Int)) (0
      : UInt8)))) : Int) ∧ (0 : Int) = (↑x_1 : Int) ∧ True) ∧ True ∧ True) ∧ ∀ (x_1 : Nat), x_1 ≤ (8 : Nat) → ifB (decide ((↑x_1 : Int) < (8 : Int))) (ifB (andI IntKind.u32 (↑(bits x_1 (crc (List.take (Int.toNat (↑x :
      Int)) l) (4294967295 : Nat) ^^^ UInt8.toNat (List.getD l (Int.toNat (↑x : Int)) (0 : UInt8)))) : Int) (1 : Int) == (1 : Int)) ((D.sl (1 : Nat) (List.length l) (fun (i : Nat) => [D.int IntKind.u8 (↑(UInt8.toNat
      (List.getD l i (0 : UInt8))) : Int)]) m = D.sl (1 : Nat) (List.length l) (fun (i : Nat) => [D.int IntKind.u8 (↑(UInt8.toNat (List.getD l i (0 : UInt8))) : Int)]) m ∧ D.int IntKind.i64 (↑(List.length l) : Int) =
      D.int IntKind.i64 (↑(List.length l) : Int) ∧ D.int IntKind.i64 (↑x : Int) = D.int IntKind.i64 (↑x : Int) ∧ True) ∧ ∃ (y : Nat), y ≤ (8 : Nat) ∧ (8 : Nat) - y < (8 : Nat) - x_1 ∧ (xorI IntKind.u32 (Int.fdiv (↑(bits
      x_1 (crc (List.take (Int.toNat (↑x : Int)) l) (4294967295 : Nat) ^^^ UInt8.toNat (List.getD l (Int.toNat (↑x : Int)) (0 : UInt8)))) : Int) (2 : Int)) (3988292384 : Int) = (↑(bits y (crc (List.take (Int.toNat (↑x :
      Int)) l) (4294967295 : Nat) ^^^ UInt8.toNat (List.getD l (Int.toNat (↑x : Int)) (0 : UInt8)))) : Int) ∧ IntKind.wrap IntKind.i64 ((↑x_1 : Int) + (1 : Int)) = (↑y : Int) ∧ True) ∧ True ∧ True) ((D.sl (1 : Nat)
      (List.length l) (fun (i : Nat) => [D.int IntKind.u8 (↑(UInt8.toNat (List.getD l i (0 : UInt8))) : Int)]) m = D.sl (1 : Nat) (List.length l) (fun (i : Nat) => [D.int IntKind.u8 (↑(UInt8.toNat (List.getD l i (0 :
      UInt8))) : Int)]) m ∧ D.int IntKind.i64 (↑(List.length l) : Int) = D.int IntKind.i64 (↑(List.length l) : Int) ∧ D.int IntKind.i64 (↑x : Int) = D.int IntKind.i64 (↑x : Int) ∧ True) ∧ ∃ (y : Nat), y ≤ (8 : Nat) ∧ (8
      : Nat) - y < (8 : Nat) - x_1 ∧ (Int.fdiv (↑(bits x_1 (crc (List.take (Int.toNat (↑x : Int)) l) (4294967295 : Nat) ^^^ UInt8.toNat (List.getD l (Int.toNat (↑x : Int)) (0 : UInt8)))) : Int) (2 : Int) = (↑(bits y (crc
      (List.take (Int.toNat (↑x : Int)) l) (4294967295 : Nat) ^^^ UInt8.toNat (List.getD l (Int.toNat (↑x : Int)) (0 : UInt8)))) : Int) ∧ IntKind.wrap IntKind.i64 ((↑x_1 : Int) + (1 : Int)) = (↑y : Int) ∧ True) ∧ True ∧
      True)) ((D.sl (1 : Nat) (List.length l) (fun (i : Nat) => [D.int IntKind.u8 (↑(UInt8.toNat (List.getD l i (0 : UInt8))) : Int)]) m = D.sl (1 : Nat) (List.length l) (fun (i : Nat) => [D.int IntKind.u8 (↑(UInt8.toNat
      (List.getD l i (0 : UInt8))) : Int)]) m ∧ D.int IntKind.i64 (↑(List.length l) : Int) = D.int IntKind.i64 (↑(List.length l) : Int) ∧ True) ∧ ∃ (y : Nat), y ≤ List.length l ∧ List.length l - y < List.length l - x ∧
      ((↑(bits x_1 (crc (List.take (Int.toNat (↑x : Int)) l) (4294967295 : Nat) ^^^ UInt8.toNat (List.getD l (Int.toNat (↑x : Int)) (0 : UInt8)))) : Int) = (↑(crc (List.take y l) (4294967295 : Nat)) : Int) ∧ IntKind.wrap
      IntKind.i64 ((↑x : Int) + (1 : Int)) = (↑y : Int) ∧ True) ∧ True ∧ True))) (True ∧ ∃ (y : Unit), True ∧ notI IntKind.u32 (↑(crc (List.take x l) (4294967295 : Nat)) : Int) = (↑(sumN l) : Int) ∧ True ∧ True)) (by kernel_rfl) ?_
  have hc := fun x => crc_lt (l.take x) (c := 4294967295) (by omega)
  refine ⟨⟨0, Nat.zero_le _, ⟨rfl, rfl, trivial⟩, trivial, trivial⟩, fun x hx => ?_⟩
  simp only [ifB_iff, side_iff, decide_eq_true_eq, decide_eq_false_iff_not, Int.toNat_natCast, true_and, and_true]
  refine ⟨fun h => ?_, fun h => ⟨(), ?_⟩⟩
  · have hlt : x < l.length := by omega
    have hb := byte_xor (hc x) (l.getD x 0)
    refine ⟨⟨by omega, h⟩, ?_⟩
    refine ⟨⟨0, by omega, ?_, rfl⟩, fun k hk => ?_⟩
    · rw [wrapB, xor32 (hc x) (by have := (l.getD x 0).toNat_lt; omega)]; rfl
    · have hbk := bits_lt hb k
      simp only [low_bit hbk, decide_eq_true_eq, decide_eq_false_iff_not]
      refine ⟨fun h8 => ⟨fun h1 => ⟨k + 1, by omega, by omega, bit_1 hbk h1, ?_⟩, fun h1 => ⟨k + 1, by omega, by omega, bit_0 (by omega), ?_⟩⟩, fun h8 => ⟨x + 1, by omega, by omega, ?_, ?_⟩⟩
      · exact wrap_i64' (by omega) (by omega)
      · exact wrap_i64' (by omega) (by omega)
      · have : k = 8 := by omega
        subst this
        rw [crc_take l hlt]
      · exact wrap_i64' (by omega) (by omega)
  · have : x = l.length := by omega
    subst this
    exact sum_law l
noncomputable def E11 (l : List UInt8) : Senv := { E0 con0 34 1 [2, 3, 4, 5, 6, 10, 21, 29] (fun _ => ([], [])) with
  ann := fun b env _ => match b with
    | 0 => some { slots := [3, 4], keep := [0], α := Nat, st := fun i => ([.int .u32 (crc (l.take i) 4294967295 : Int), .int .i64 i], ⟨[], []⟩), inv := fun i => i ≤ l.length, mu := fun i => l.length - i }
    | 2 => inner l (Ab.look env 4) 3 5 [0, 4]
    | _ => none }
theorem rsum_ok (l : List UInt8) (m : Ab.Mode) (hl : l.length ≤ 9223372036854775807) : ACalls Try.prog 11 (sSum.args (l, m)) (sSum.st (l, m)) (SpecR sSum (l, m)) := by
  refine con_of (A := sSum) (x := (l, m)) (E := E11 l) ⟨tab_ok, con0_ok, mix, fun _ _ _ _ h => h.elim, eqs_ok⟩ Try.func11 rfl (by kernel_rfl) rfl (by simp [sSum, E11, E0]) ?_
  refine vc_eq (T :=
      (∃ (x : Nat), x ≤ List.length l ∧ ((4294967295 : Int) = (↑(crc (List.take x l) (4294967295 : Nat)) : Int) ∧ (0 : Int) = (↑x : Int) ∧ True) ∧ True ∧ True) ∧ ∀ (x : Nat), x ≤ List.length l → ifB (decide ((↑x : Int) <
      (↑(List.length l) : Int))) (side ((0 : Int) ≤ (↑x : Int) ∧ (↑x : Int) < (↑(List.length l) : Int)) ((∃ (x_1 : Nat), x_1 ≤ (8 : Nat) ∧ (xorI IntKind.u32 (↑(crc (List.take x l) (4294967295 : Nat)) : Int) (IntKind.wrap
      IntKind.u32 (↑(UInt8.toNat (List.getD l (Int.toNat (↑x : Int)) (0 : UInt8))) : Int)) = (↑(bits x_1 (crc (List.take (Int.toNat (↑x : Int)) l) (4294967295 : Nat) ^^^ UInt8.toNat (List.getD l (Int.toNat (↑x : Int)) (0
      : UInt8)))) : Int) ∧ (0 : Int) = (↑x_1 : Int) ∧ True) ∧ True ∧ True) ∧ ∀ (x_1 : Nat), x_1 ≤ (8 : Nat) → ifB (decide ((↑x_1 : Int) < (8 : Int))) (ifB (andI IntKind.u32 (↑(bits x_1 (crc (List.take (Int.toNat (↑x :
      Int)) l) (4294967295 : Nat) ^^^ UInt8.toNat (List.getD l (Int.toNat (↑x : Int)) (0 : UInt8)))) : Int) (1 : Int) == (1 : Int)) ((D.sl (1 : Nat) (List.length l) (fun (i : Nat) => [D.int IntKind.u8 (↑(UInt8.toNat
      (List.getD l i (0 : UInt8))) : Int)]) m = D.sl (1 : Nat) (List.length l) (fun (i : Nat) => [D.int IntKind.u8 (↑(UInt8.toNat (List.getD l i (0 : UInt8))) : Int)]) m ∧ D.int IntKind.i64 (↑x : Int) = D.int IntKind.i64
      (↑x : Int) ∧ True) ∧ ∃ (y : Nat), y ≤ (8 : Nat) ∧ (8 : Nat) - y < (8 : Nat) - x_1 ∧ (xorI IntKind.u32 (Int.fdiv (↑(bits x_1 (crc (List.take (Int.toNat (↑x : Int)) l) (4294967295 : Nat) ^^^ UInt8.toNat (List.getD l
      (Int.toNat (↑x : Int)) (0 : UInt8)))) : Int) (2 : Int)) (3988292384 : Int) = (↑(bits y (crc (List.take (Int.toNat (↑x : Int)) l) (4294967295 : Nat) ^^^ UInt8.toNat (List.getD l (Int.toNat (↑x : Int)) (0 : UInt8))))
      : Int) ∧ IntKind.wrap IntKind.i64 ((↑x_1 : Int) + (1 : Int)) = (↑y : Int) ∧ True) ∧ True ∧ True) ((D.sl (1 : Nat) (List.length l) (fun (i : Nat) => [D.int IntKind.u8 (↑(UInt8.toNat (List.getD l i (0 : UInt8))) :
      Int)]) m = D.sl (1 : Nat) (List.length l) (fun (i : Nat) => [D.int IntKind.u8 (↑(UInt8.toNat (List.getD l i (0 : UInt8))) : Int)]) m ∧ D.int IntKind.i64 (↑x : Int) = D.int IntKind.i64 (↑x : Int) ∧ True) ∧ ∃ (y :
      Nat), y ≤ (8 : Nat) ∧ (8 : Nat) - y < (8 : Nat) - x_1 ∧ (Int.fdiv (↑(bits x_1 (crc (List.take (Int.toNat (↑x : Int)) l) (4294967295 : Nat) ^^^ UInt8.toNat (List.getD l (Int.toNat (↑x : Int)) (0 : UInt8)))) : Int)
      (2 : Int) = (↑(bits y (crc (List.take (Int.toNat (↑x : Int)) l) (4294967295 : Nat) ^^^ UInt8.toNat (List.getD l (Int.toNat (↑x : Int)) (0 : UInt8)))) : Int) ∧ IntKind.wrap IntKind.i64 ((↑x_1 : Int) + (1 : Int)) =
      (↑y : Int) ∧ True) ∧ True ∧ True)) ((D.sl (1 : Nat) (List.length l) (fun (i : Nat) => [D.int IntKind.u8 (↑(UInt8.toNat (List.getD l i (0 : UInt8))) : Int)]) m = D.sl (1 : Nat) (List.length l) (fun (i : Nat) =>
      [D.int IntKind.u8 (↑(UInt8.toNat (List.getD l i (0 : UInt8))) : Int)]) m ∧ True) ∧ ∃ (y : Nat), y ≤ List.length l ∧ List.length l - y < List.length l - x ∧ ((↑(bits x_1 (crc (List.take (Int.toNat (↑x : Int)) l)
      (4294967295 : Nat) ^^^ UInt8.toNat (List.getD l (Int.toNat (↑x : Int)) (0 : UInt8)))) : Int) = (↑(crc (List.take y l) (4294967295 : Nat)) : Int) ∧ IntKind.wrap IntKind.i64 ((↑x : Int) + (1 : Int)) = (↑y : Int) ∧
      True) ∧ True ∧ True))) (True ∧ ∃ (y : Unit), True ∧ xorI IntKind.u32 (↑(crc (List.take x l) (4294967295 : Nat)) : Int) (4294967295 : Int) = (↑(sumN l) : Int) ∧ True ∧ True)) (by kernel_rfl) ?_
  have hc := fun x => crc_lt (l.take x) (c := 4294967295) (by omega)
  refine ⟨⟨0, Nat.zero_le _, ⟨rfl, rfl, trivial⟩, trivial, trivial⟩, fun x hx => ?_⟩
  simp only [ifB_iff, side_iff, decide_eq_true_eq, decide_eq_false_iff_not, Int.toNat_natCast, true_and, and_true]
  refine ⟨fun h => ?_, fun h => ⟨(), ?_⟩⟩
  · have hlt : x < l.length := by omega
    have hb := byte_xor (hc x) (l.getD x 0)
    refine ⟨⟨by omega, h⟩, ?_⟩
    refine ⟨⟨0, by omega, ?_, rfl⟩, fun k hk => ?_⟩
    · rw [wrapB, xor32 (hc x) (by have := (l.getD x 0).toNat_lt; omega)]; rfl
    · have hbk := bits_lt hb k
      simp only [low_bit hbk, decide_eq_true_eq, decide_eq_false_iff_not]
      refine ⟨fun h8 => ⟨fun h1 => ⟨k + 1, by omega, by omega, bit_1 hbk h1, ?_⟩, fun h1 => ⟨k + 1, by omega, by omega, bit_0 (by omega), ?_⟩⟩, fun h8 => ⟨x + 1, by omega, by omega, ?_, ?_⟩⟩
      · exact wrap_i64' (by omega) (by omega)
      · exact wrap_i64' (by omega) (by omega)
      · have : k = 8 := by omega
        subst this
        rw [crc_take l hlt]
      · exact wrap_i64' (by omega) (by omega)
  · have : x = l.length := by omega
    subst this
    rw [← sum_law l, not32 (hc _)]
    exact xor32 (b := 4294967295) (hc _) (by omega)
end Go.Proofs.Ytoglbmhkfkghbaa
namespace Go.Proofs.Ytoglbmhkfkghbaa
open Go Go.Ab

/-- The code of the program that returns at once. -/
def in0 : List D := [.int .i64 25, .int .i64 0, .int .i64 0, .int .i64 0]
def fn0 (m : Ab.Mode) : List D := [.int .i64 0, .sl 4 1 (fun i => ([in0] : List (List D)).getD i []) m]
def nils : D := .sl 1 0 (fun _ => []) .nil
def c0 (m m' : Ab.Mode) : D := .agg [nils, .sl 2 1 (fun i => ([fn0 m'] : List (List D)).getD i []) m, nils, nils]
def b0 : List (List D) := [65, 76, 67, 49, 0, 2, 0, 2, 50, 0, 0, 0, 0, 0, 116, 248, 41, 197].map fun n => [.int .u8 n]
def d0 (m : Ab.Mode) : D := .sl 1 18 (fun i => b0.getD i []) m

theorem sum_fits {k n : Nat} {f : Nat → List D} {m : Ab.Mode} {S : St} (h : ∀ l m, l.length ≤ 9223372036854775807 → ACalls Try.prog k (sSum.args (l, m)) (sSum.st (l, m)) (SpecR sSum (l, m))) :
    (∀ y, (sSum.fits (bytesOf n f, m) (rowsB n f = true)).pre y → ACalls Try.prog k ((sSum.fits (bytesOf n f, m) (rowsB n f = true)).args y) ((sSum.fits (bytesOf n f, m) (rowsB n f = true)).st y) (SpecR (sSum.fits (bytesOf n f, m) (rowsB n f = true)) y)) ∧ (∀ y, (sSum.fits (bytesOf n f, m) (rowsB n f = true)).fit = some y → (sSum.fits (bytesOf n f, m) (rowsB n f = true)).pre y → weakL [.sl 1 n f m] ((sSum.fits (bytesOf n f, m) (rowsB n f = true)).args y) ∧ leS ((sSum.fits (bytesOf n f, m) (rowsB n f = true)).st y) S) ∧ ((sSum.fits (bytesOf n f, m) (rowsB n f = true)).all = true → ∀ y, (sSum.fits (bytesOf n f, m) (rowsB n f = true)).pre y → weakL [.sl 1 n f m] ((sSum.fits (bytesOf n f, m) (rowsB n f = true)).args y) ∧ (sSum.fits (bytesOf n f, m) (rowsB n f = true)).st y = S) := by
  refine FnSpec.fits_ok (A := sSum) (fun y hy => h y.1 y.2 hy) fun hr => ⟨?_, by simp [sSum, leS, leO, leT, nodupB, chk_iff]⟩
  simp only [sSum, weakL, weakD, chk_iff]
  refine ⟨⟨by simp, by simp [bytesOf], fun i hi => ?_, weakM_refl m⟩, trivial⟩
  have hb : rowB (f i) = true := List.all_eq_true.1 hr i (List.mem_range.2 hi)
  have hg : (bytesOf n f).getD i 0 = rowByte (f i) := by
    simp [bytesOf, List.getD_eq_getElem?_getD, hi]
  rw [hg]
  unfold rowB at hb
  split at hb
  · rename_i d hd
    rw [hd]
    have := byteB_eq hb
    simp only [rowByte]
    rw [← this]
  · cases hb
/-- Contracts that the closed runs use. -/
def conS (k : Nat) (ds : List D) (_ : St) : Option FnSpec :=
  match k with
  | 10 => match ds with
    | [.sl 1 n f m] => some (sSum.fits (bytesOf n f, m) (rowsB n f = true))
    | _ => none
  | 11 => match ds with
    | [.sl 1 n f m] => some (sSum.fits (bytesOf n f, m) (rowsB n f = true))
    | _ => none
  | _ => none
theorem conS_ok : ConOk Try.prog conS := by
  intro k ds S A h
  unfold conS at h
  split at h
  · split at h
    · injection h with h; subst h
      exact sum_fits sum_ok
    · cases h
  · split at h
    · injection h with h; subst h
      exact sum_fits rsum_ok
    · cases h
  · cases h
theorem inlS {con : Nat → List D → St → Option FnSpec} (hc : ConOk Try.prog con) (k : Nat) (ds : List D) (S : St) (R : AEnd → St → Prop) (h : inlD (E0 con 0 0 [] (fun _ => ([], []))) (frmGet frames) 50 k ds S R) : ACalls Try.prog k ds S R :=
  inlD_ok (E := E0 con 0 0 [] (fun _ => ([], []))) tab_ok hc mix frames_ok eqs_ok 50 k ds S R h
end Go.Proofs.Ytoglbmhkfkghbaa
namespace Go.Proofs.Ytoglbmhkfkghbaa
open Go Go.Ab

/-! ### numbers as bytes -/
def bsl (l : List UInt8) (m : Ab.Mode) : D := .sl 1 l.length (fun i => [.int .u8 ((l.getD i 0).toNat : Int)]) m
def isl (l : List Int) (m : Ab.Mode) : D := .sl 1 l.length (fun i => [.int .i64 (l.getD i 0)]) m
def uBf (k u : Nat) : List UInt8 := match k with
  | 0 => [UInt8.ofNat u]
  | k + 1 => match Nat.blt u 128 with
    | true => [UInt8.ofNat u]
    | false => UInt8.ofNat (u % 128 + 128) :: uBf k (u / 128)
def zig (n : Int) : Nat := match n with
  | .ofNat k => 2 * k
  | .negSucc k => 2 * k + 1
def numsB (l : List Int) : List UInt8 := l.flatMap fun n => uBf 9 (zig n)
def i64B (z : Int) : Bool := decide (-9223372036854775808 ≤ z) && decide (z ≤ 9223372036854775807)

theorem uBf_len : ∀ k u, (uBf k u).length ≤ k + 1 ∧ 1 ≤ (uBf k u).length
  | 0, u => by simp [uBf]
  | k + 1, u => by
    unfold uBf
    split
    · simp
    · have := uBf_len k (u / 128); simp; omega
theorem numsB_len : ∀ (l : List Int), (numsB l).length ≤ 10 * l.length
  | [] => by simp [numsB]
  | n :: l => by
    have h1 := numsB_len l
    have h2 := uBf_len 9 (zig n)
    simp only [numsB, List.flatMap_cons, List.length_append, List.length_cons] at h1 ⊢
    omega
theorem numsB_take (ns : List Int) {i : Nat} (h : i < ns.length) : numsB (ns.take (i + 1)) = numsB (ns.take i) ++ uBf 9 (zig (ns.getD i 0)) := by
  unfold numsB
  rw [List.take_add_one, List.flatMap_append, List.getElem?_eq_getElem h]
  congr 1
  simp [List.getD_eq_getElem?_getD, h]
theorem uBf_end {k u : Nat} (h : u < 128) : uBf k u = [UInt8.ofNat u] := by
  cases k with
  | zero => rfl
  | succ k => unfold uBf; rw [show Nat.blt u 128 = true from by simpa using h]
theorem uBf_go {k u : Nat} (h : 128 ≤ u) : uBf (k + 1) u = UInt8.ofNat (u % 128 + 128) :: uBf k (u / 128) := by
  conv => lhs; unfold uBf
  rw [show Nat.blt u 128 = false from by
    have e := Nat.blt_eq (x := u) (y := 128)
    cases hb : Nat.blt u 128 with
    | false => rfl
    | true => rw [hb] at e; simp at e; omega]
set_option maxRecDepth 100000 in
theorem or128 : ∀ a, a < 256 → a ||| 128 = a % 128 + 128 := by decide
theorem orB (u : Nat) : orI .u8 (IntKind.u8.wrap (u : Int)) 128 = ((UInt8.ofNat (u % 128 + 128)).toNat : Int) := by
  have h1 : IntKind.u8.wrap (u : Int) = ((u % 256 : Nat) : Int) := by rw [IntKind.wrap_u8]; omega
  rw [h1]
  have h2 := orI_nat (k := .u8) rfl (a := u % 256) (b := 128) (by simp [IntKind.bits]; omega) (by simp [IntKind.bits])
  rw [show ((128 : Nat) : Int) = 128 from rfl] at h2
  rw [h2, or128 _ (by omega), UInt8.toNat_ofNat']
  omega
theorem wrapU8 {u : Nat} (h : u < 128) : IntKind.u8.wrap (u : Int) = ((UInt8.ofNat u).toNat : Int) := by
  rw [IntKind.wrap_u8, UInt8.toNat_ofNat']; omega
theorem not64 {a : Nat} (h : a < 18446744073709551616) : notI .u64 a = ((18446744073709551615 - a : Nat) : Int) := by
  rw [notI_nat (k := .u64) rfl (by simpa [IntKind.bits] using h)]
  have e := congrArg BitVec.toNat (BitVec.xor_allOnes (x := BitVec.ofNat 64 a))
  rw [BitVec.toNat_xor, BitVec.toNat_allOnes, BitVec.toNat_not, BitVec.toNat_ofNat, Nat.mod_eq_of_lt (by simpa using h)] at e
  rw [show IntKind.u64.bits = 64 from rfl, e]
  try rfl
theorem zig_pos {n : Int} (h : ¬ n < 0) (hb : i64B n = true) : IntKind.u64.wrap (IntKind.u64.wrap n * 2) = (zig n : Int) ∧ zig n < 2 ^ 64 := by
  simp only [i64B, Bool.and_eq_true, decide_eq_true_eq] at hb
  cases n with
  | ofNat k => simp only [zig, IntKind.wrap_u64, Int.ofNat_eq_natCast] at *; omega
  | negSucc k => exact (h (Int.negSucc_lt_zero k)).elim
theorem zig_neg {n : Int} (h : n < 0) (hb : i64B n = true) : notI .u64 (IntKind.u64.wrap (IntKind.u64.wrap n * 2)) = (zig n : Int) ∧ zig n < 2 ^ 64 := by
  simp only [i64B, Bool.and_eq_true, decide_eq_true_eq] at hb
  cases n with
  | ofNat k => simp only [Int.ofNat_eq_natCast] at h; omega
  | negSucc k =>
    have e : IntKind.u64.wrap (IntKind.u64.wrap (Int.negSucc k) * 2) = ((18446744073709551616 - 2 * k - 2 : Nat) : Int) := by
      simp only [IntKind.wrap_u64, Int.negSucc_eq] at *; omega
    simp only [Int.negSucc_eq] at hb
    rw [e, not64 (by omega)]
    simp only [zig]
    omega
theorem app_row {l : List UInt8} {z : Int} {b : UInt8} (h : z = (b.toNat : Int)) (i : Nat) (hi : i < l.length + 1) :
    appF l.length (fun i => [D.int .u8 ((l.getD i 0).toNat : Int)]) (fun i => [[D.int .u8 z]].getD i []) i = [D.int .u8 (((l ++ [b]).getD i 0).toNat : Int)] := by
  simp only [appF]
  split
  · rename_i hlt
    simp [List.getD_eq_getElem?_getD, List.getElem?_append_left hlt]
  · have : i = l.length := by omega
    subst this
    simp [List.getD_eq_getElem?_getD, h]

/-- One round of the inner loop. -/
theorem num_step {j u : Nat} {l l' : List UInt8} {ns : List Int} {i : Nat} (hi : i < ns.length) (h : j ≤ 9 ∧ u < 2 ^ (64 - 7 * j) ∧ l'.length ≤ l.length + 10 * ns.length ∧ l' ++ uBf (9 - j) u = l ++ numsB (ns.take (i + 1))) (h8 : 128 ≤ u) :
    j + 1 ≤ 9 ∧ u / 128 < 2 ^ (64 - 7 * (j + 1)) ∧ (l' ++ [UInt8.ofNat (u % 128 + 128)]).length ≤ l.length + 10 * ns.length ∧ (l' ++ [UInt8.ofNat (u % 128 + 128)]) ++ uBf (9 - (j + 1)) (u / 128) = l ++ numsB (ns.take (i + 1)) := by
  obtain ⟨h1, h2, _, h4⟩ := h
  have hj : j ≤ 8 := by
    by_cases e : j = 9
    · subst e; simp at h2; omega
    · omega
  have h5 : (l' ++ [UInt8.ofNat (u % 128 + 128)]) ++ uBf (9 - (j + 1)) (u / 128) = l ++ numsB (ns.take (i + 1)) := by
    rw [← h4, show 9 - j = (9 - (j + 1)) + 1 by omega, uBf_go h8]; simp
  refine ⟨by omega, ?_, ?_, h5⟩
  · have e : 64 - 7 * j = (64 - 7 * (j + 1)) + 7 := by omega
    rw [e, Nat.pow_add] at h2
    omega
  · have e := congrArg List.length h5
    have e2 := numsB_len (ns.take (i + 1))
    simp only [List.length_append, List.length_take] at e e2 ⊢
    omega
theorem num_last {j u : Nat} {l l' : List UInt8} {ns : List Int} {i : Nat} (h : j ≤ 9 ∧ u < 2 ^ (64 - 7 * j) ∧ l'.length ≤ l.length + 10 * ns.length ∧ l' ++ uBf (9 - j) u = l ++ numsB (ns.take (i + 1))) (h8 : u < 128) :
    l' ++ [UInt8.ofNat u] = l ++ numsB (ns.take (i + 1)) := by
  rw [← h.2.2.2, uBf_end h8]

/-- The inner loop's rounds, as the condition asks for them. -/
theorem num_body {l : List UInt8} {ns : List Int} {i : Nat} (hl : l.length + 10 * ns.length ≤ 70368744177664) (hlt : i < ns.length) (y : Nat × Nat × List UInt8 × Nat)
    (h : y.fst ≤ 9 ∧ y.snd.fst < 2 ^ (64 - 7 * y.fst) ∧ y.snd.snd.fst.length ≤ l.length + 10 * ns.length ∧ y.snd.snd.fst ++ uBf (9 - y.fst) y.snd.fst = l ++ numsB (ns.take (i + 1))) :
    (128 ≤ (y.snd.fst : Int) → ((y.snd.snd.fst.length + 1) * 1 ≤ 140737488355328 ∧ y.snd.snd.fst.length + 1 ≤ 9223372036854775807) ∧ ∀ t : Nat, ∃ z : Nat × Nat × List UInt8 × Nat, (z.fst ≤ 9 ∧ z.snd.fst < 2 ^ (64 - 7 * z.fst) ∧ z.snd.snd.fst.length ≤ l.length + 10 * ns.length ∧ z.snd.snd.fst ++ uBf (9 - z.fst) z.snd.fst = l ++ numsB (ns.take (i + 1))) ∧ z.snd.fst < y.snd.fst ∧ Int.fdiv (y.snd.fst : Int) 128 = (z.snd.fst : Int) ∧
      (y.snd.snd.fst.length + 1 = z.snd.snd.fst.length ∧ (∀ k : Nat, k < y.snd.snd.fst.length + 1 → appF y.snd.snd.fst.length (fun i => [D.int .u8 ((y.snd.snd.fst.getD i 0).toNat : Int)]) (fun i => [[D.int .u8 (orI .u8 (IntKind.u8.wrap (y.snd.fst : Int)) 128)]].getD i []) k = [D.int .u8 ((z.snd.snd.fst.getD k 0).toNat : Int)]) ∧ t = z.snd.snd.snd) ∧ t = z.snd.snd.snd) ∧
    (¬ 128 ≤ (y.snd.fst : Int) → ((y.snd.snd.fst.length + 1) * 1 ≤ 140737488355328 ∧ y.snd.snd.fst.length + 1 ≤ 9223372036854775807) ∧ ∀ t : Nat, ∃ z : Nat × Nat, z.fst ≤ ns.length ∧ ns.length - z.fst < ns.length - i ∧ IntKind.i64.wrap ((i : Int) + 1) = (z.fst : Int) ∧
      (y.snd.snd.fst.length + 1 = (l ++ numsB (ns.take z.fst)).length ∧ (∀ k : Nat, k < y.snd.snd.fst.length + 1 → appF y.snd.snd.fst.length (fun i => [D.int .u8 ((y.snd.snd.fst.getD i 0).toNat : Int)]) (fun i => [[D.int .u8 (IntKind.u8.wrap (y.snd.fst : Int))]].getD i []) k = [D.int .u8 (((l ++ numsB (ns.take z.fst)).getD k 0).toNat : Int)]) ∧ t = z.snd) ∧ t = z.snd) := by
  obtain ⟨j, u, l', t0⟩ := y
  simp only at h ⊢
  refine ⟨fun h8 => ⟨by omega, fun t => ?_⟩, fun h8 => ⟨by omega, fun t => ?_⟩⟩
  · refine ⟨(j + 1, u / 128, l' ++ [UInt8.ofNat (u % 128 + 128)], t), num_step hlt h (by omega), by simp only; omega, fdiv_nat u 128, ⟨by simp, fun k hk => app_row (orB u) k hk, rfl⟩, rfl⟩
  · have e := num_last h (by omega)
    refine ⟨(i + 1, t), by simp only; omega, by simp only; omega, ?_, ⟨?_, fun k hk => ?_, rfl⟩, rfl⟩
    · exact wrap_i64' (by omega) (by omega)
    · simp only; rw [← e]; simp
    · simp only; rw [← e]; exact app_row (wrapU8 (by omega)) k hk

def sNum (x t : Nat) (l : List UInt8) (md : Ab.Mode) (ts : List (Nat × Nat)) (ns : List Int) (m : Ab.Mode) : FnSpec where
  β := Unit
  α := Nat
  args := fun _ => [.ref 0 x 0, isl ns m]
  st := fun _ => ⟨[(0, x, .cells [bsl l md])], ts⟩
  pre := fun _ => True
  post := fun _ _ => True
  res := fun _ _ => .ret (.tup [])
  out := fun _ t' => ⟨[(0, x, .cells [bsl (l ++ numsB ns) (.tok 0 t')])], [(0, t')]⟩

/-- The bytes that are written when one number is. -/
def goal (l : List UInt8) (ns : List Int) (d : D) : List UInt8 :=
  match d with
  | .int _ z => l ++ numsB (ns.take (z.toNat + 1))
  | _ => []
noncomputable def E40 (x : Nat) (l : List UInt8) (ns : List Int) (gh : List Ab.Place) : Senv := { E0 con0 48 2 [5, 6, 7, 8, 9, 10, 17, 21] (fun _ => ([], [])) with
  gh := fun b => match b with
    | 0 => gh
    | _ => []
  ann := fun b env _ => match b with
    | 0 => some { slots := [9], keep := [0, 7, 8], α := Nat × Nat, st := fun y => ([.int .i64 y.1], ⟨[(0, x, .cells [bsl (l ++ numsB (ns.take y.1)) (.tok 0 y.2)])], [(0, y.2)]⟩), inv := fun y => y.1 ≤ ns.length, mu := fun y => ns.length - y.1 }
    | 2 => some { slots := [6], keep := [0, 7, 8, 9], α := Nat × Nat × List UInt8 × Nat, st := fun y => ([.int .u64 y.2.1], ⟨[(0, x, .cells [bsl y.2.2.1 (.tok 0 y.2.2.2)])], [(0, y.2.2.2)]⟩), inv := fun y => y.1 ≤ 9 ∧ y.2.1 < 2 ^ (64 - 7 * y.1) ∧ y.2.2.1.length ≤ l.length + 10 * ns.length ∧ y.2.2.1 ++ uBf (9 - y.1) y.2.1 = goal l ns (Ab.look env 9), mu := fun y => y.2.1 }
    | _ => none }
theorem num_ok (x t : Nat) (l : List UInt8) (ns : List Int) (m : Ab.Mode) (hl : l.length + 10 * ns.length ≤ 70368744177664) (hn : ∀ z, z ∈ ns → i64B z = true) :
    ACalls Try.prog 40 ((sNum x t l (.tok 0 t) [(0, t)] ns m).args ()) ((sNum x t l (.tok 0 t) [(0, t)] ns m).st ()) (SpecR (sNum x t l (.tok 0 t) [(0, t)] ns m) ()) := by
  refine con_of (A := sNum x t l (.tok 0 t) [(0, t)] ns m) (x := ()) (E := E40 x l ns []) ⟨tab_ok, con0_ok, mix, fun _ _ _ _ h => h.elim, eqs_ok⟩ Try.func40 rfl (by kernel_rfl) rfl (by simp [sNum, E40, E0]) ?_
  refine vc_eq (T :=
      (∃ (x_1 : Nat × Nat), Prod.fst x_1 ≤ List.length ns ∧ ((0 : Int) = (↑(Prod.fst x_1) : Int) ∧ True) ∧ (x = x ∧ ((List.length l = List.length (l ++ numsB (List.take (Prod.fst x_1) ns)) ∧ (∀ (i : Nat), i < List.length
      l → [D.int IntKind.u8 (↑(UInt8.toNat (List.getD l i (0 : UInt8))) : Int)] = [D.int IntKind.u8 (↑(UInt8.toNat (List.getD (l ++ numsB (List.take (Prod.fst x_1) ns)) i (0 : UInt8))) : Int)]) ∧ t = Prod.snd x_1) ∧
      True) ∧ True) ∧ t = Prod.snd x_1 ∧ True) ∧ ∀ (x_1 : Nat × Nat), Prod.fst x_1 ≤ List.length ns → ifB (decide ((↑(Prod.fst x_1) : Int) < (↑(List.length ns) : Int))) (side ((0 : Int) ≤ (↑(Prod.fst x_1) : Int) ∧
      (↑(Prod.fst x_1) : Int) < (↑(List.length ns) : Int)) (ifB (decide (List.getD ns (Int.toNat (↑(Prod.fst x_1) : Int)) (0 : Int) < (0 : Int))) ((∃ (x_2 : Nat × Nat × List UInt8 × Nat), (Prod.fst x_2 ≤ (9 : Nat) ∧
      Prod.fst (Prod.snd x_2) < (2 : Nat) ^ ((64 : Nat) - (7 : Nat) * Prod.fst x_2) ∧ List.length (Prod.fst (Prod.snd (Prod.snd x_2))) ≤ List.length l + (10 : Nat) * List.length ns ∧ Prod.fst (Prod.snd (Prod.snd x_2)) ++
      uBf ((9 : Nat) - Prod.fst x_2) (Prod.fst (Prod.snd x_2)) = goal l ns (D.int IntKind.i64 (↑(Prod.fst x_1) : Int))) ∧ (notI IntKind.u64 (IntKind.wrap IntKind.u64 (IntKind.wrap IntKind.u64 (List.getD ns (Int.toNat
      (↑(Prod.fst x_1) : Int)) (0 : Int)) * (2 : Int))) = (↑(Prod.fst (Prod.snd x_2)) : Int) ∧ True) ∧ (x = x ∧ ((List.length (l ++ numsB (List.take (Prod.fst x_1) ns)) = List.length (Prod.fst (Prod.snd (Prod.snd x_2)))
      ∧ (∀ (i : Nat), i < List.length (l ++ numsB (List.take (Prod.fst x_1) ns)) → [D.int IntKind.u8 (↑(UInt8.toNat (List.getD (l ++ numsB (List.take (Prod.fst x_1) ns)) i (0 : UInt8))) : Int)] = [D.int IntKind.u8
      (↑(UInt8.toNat (List.getD (Prod.fst (Prod.snd (Prod.snd x_2))) i (0 : UInt8))) : Int)]) ∧ Prod.snd x_1 = Prod.snd (Prod.snd (Prod.snd x_2))) ∧ True) ∧ True) ∧ Prod.snd x_1 = Prod.snd (Prod.snd (Prod.snd x_2)) ∧
      True) ∧ ∀ (x_2 : Nat × Nat × List UInt8 × Nat), Prod.fst x_2 ≤ (9 : Nat) ∧ Prod.fst (Prod.snd x_2) < (2 : Nat) ^ ((64 : Nat) - (7 : Nat) * Prod.fst x_2) ∧ List.length (Prod.fst (Prod.snd (Prod.snd x_2))) ≤
      List.length l + (10 : Nat) * List.length ns ∧ Prod.fst (Prod.snd (Prod.snd x_2)) ++ uBf ((9 : Nat) - Prod.fst x_2) (Prod.fst (Prod.snd x_2)) = goal l ns (D.int IntKind.i64 (↑(Prod.fst x_1) : Int)) → ifB (decide
      ((128 : Int) ≤ (↑(Prod.fst (Prod.snd x_2)) : Int))) (x = x ∧ Prod.snd (Prod.snd (Prod.snd x_2)) = Prod.snd (Prod.snd (Prod.snd x_2)) ∧ side ((List.length (Prod.fst (Prod.snd (Prod.snd x_2))) + (1 : Nat)) * (1 :
      Nat) ≤ (140737488355328 : Nat) ∧ List.length (Prod.fst (Prod.snd (Prod.snd x_2))) + (1 : Nat) ≤ (9223372036854775807 : Nat)) (∀ (t : Nat), x = x ∧ (D.ref (0 : Nat) x (0 : Nat) = D.ref (0 : Nat) x (0 : Nat) ∧ D.sl
      (1 : Nat) (List.length ns) (fun (i : Nat) => [D.int IntKind.i64 (List.getD ns i (0 : Int))]) m = D.sl (1 : Nat) (List.length ns) (fun (i : Nat) => [D.int IntKind.i64 (List.getD ns i (0 : Int))]) m ∧ D.int
      IntKind.i64 (↑(List.length ns) : Int) = D.int IntKind.i64 (↑(List.length ns) : Int) ∧ D.int IntKind.i64 (↑(Prod.fst x_1) : Int) = D.int IntKind.i64 (↑(Prod.fst x_1) : Int) ∧ True) ∧ ∃ (y : Nat × Nat × List UInt8 ×
      Nat), (Prod.fst y ≤ (9 : Nat) ∧ Prod.fst (Prod.snd y) < (2 : Nat) ^ ((64 : Nat) - (7 : Nat) * Prod.fst y) ∧ List.length (Prod.fst (Prod.snd (Prod.snd y))) ≤ List.length l + (10 : Nat) * List.length ns ∧ Prod.fst
      (Prod.snd (Prod.snd y)) ++ uBf ((9 : Nat) - Prod.fst y) (Prod.fst (Prod.snd y)) = goal l ns (D.int IntKind.i64 (↑(Prod.fst x_1) : Int))) ∧ Prod.fst (Prod.snd y) < Prod.fst (Prod.snd x_2) ∧ (Int.fdiv (↑(Prod.fst
      (Prod.snd x_2)) : Int) (128 : Int) = (↑(Prod.fst (Prod.snd y)) : Int) ∧ True) ∧ (x = x ∧ ((List.length (Prod.fst (Prod.snd (Prod.snd x_2))) + (1 : Nat) = List.length (Prod.fst (Prod.snd (Prod.snd y))) ∧ (∀ (i :
      Nat), i < List.length (Prod.fst (Prod.snd (Prod.snd x_2))) + (1 : Nat) → appF (List.length (Prod.fst (Prod.snd (Prod.snd x_2)))) (fun (i : Nat) => [D.int IntKind.u8 (↑(UInt8.toNat (List.getD (Prod.fst (Prod.snd
      (Prod.snd x_2))) i (0 : UInt8))) : Int)]) (fun (i : Nat) => List.getD [[D.int IntKind.u8 (orI IntKind.u8 (IntKind.wrap IntKind.u8 (↑(Prod.fst (Prod.snd x_2)) : Int)) (128 : Int))]] i []) i = [D.int IntKind.u8
      (↑(UInt8.toNat (List.getD (Prod.fst (Prod.snd (Prod.snd y))) i (0 : UInt8))) : Int)]) ∧ t = Prod.snd (Prod.snd (Prod.snd y))) ∧ True) ∧ True) ∧ t = Prod.snd (Prod.snd (Prod.snd y)) ∧ True)) (x = x ∧ Prod.snd
      (Prod.snd (Prod.snd x_2)) = Prod.snd (Prod.snd (Prod.snd x_2)) ∧ side ((List.length (Prod.fst (Prod.snd (Prod.snd x_2))) + (1 : Nat)) * (1 : Nat) ≤ (140737488355328 : Nat) ∧ List.length (Prod.fst (Prod.snd
      (Prod.snd x_2))) + (1 : Nat) ≤ (9223372036854775807 : Nat)) (∀ (t : Nat), x = x ∧ (D.ref (0 : Nat) x (0 : Nat) = D.ref (0 : Nat) x (0 : Nat) ∧ D.sl (1 : Nat) (List.length ns) (fun (i : Nat) => [D.int IntKind.i64
      (List.getD ns i (0 : Int))]) m = D.sl (1 : Nat) (List.length ns) (fun (i : Nat) => [D.int IntKind.i64 (List.getD ns i (0 : Int))]) m ∧ D.int IntKind.i64 (↑(List.length ns) : Int) = D.int IntKind.i64 (↑(List.length
      ns) : Int) ∧ True) ∧ ∃ (y : Nat × Nat), Prod.fst y ≤ List.length ns ∧ List.length ns - Prod.fst y < List.length ns - Prod.fst x_1 ∧ (IntKind.wrap IntKind.i64 ((↑(Prod.fst x_1) : Int) + (1 : Int)) = (↑(Prod.fst y) :
      Int) ∧ True) ∧ (x = x ∧ ((List.length (Prod.fst (Prod.snd (Prod.snd x_2))) + (1 : Nat) = List.length (l ++ numsB (List.take (Prod.fst y) ns)) ∧ (∀ (i : Nat), i < List.length (Prod.fst (Prod.snd (Prod.snd x_2))) +
      (1 : Nat) → appF (List.length (Prod.fst (Prod.snd (Prod.snd x_2)))) (fun (i : Nat) => [D.int IntKind.u8 (↑(UInt8.toNat (List.getD (Prod.fst (Prod.snd (Prod.snd x_2))) i (0 : UInt8))) : Int)]) (fun (i : Nat) =>
      List.getD [[D.int IntKind.u8 (IntKind.wrap IntKind.u8 (↑(Prod.fst (Prod.snd x_2)) : Int))]] i []) i = [D.int IntKind.u8 (↑(UInt8.toNat (List.getD (l ++ numsB (List.take (Prod.fst y) ns)) i (0 : UInt8))) : Int)]) ∧
      t = Prod.snd y) ∧ True) ∧ True) ∧ t = Prod.snd y ∧ True))) ((∃ (x_2 : Nat × Nat × List UInt8 × Nat), (Prod.fst x_2 ≤ (9 : Nat) ∧ Prod.fst (Prod.snd x_2) < (2 : Nat) ^ ((64 : Nat) - (7 : Nat) * Prod.fst x_2) ∧
      List.length (Prod.fst (Prod.snd (Prod.snd x_2))) ≤ List.length l + (10 : Nat) * List.length ns ∧ Prod.fst (Prod.snd (Prod.snd x_2)) ++ uBf ((9 : Nat) - Prod.fst x_2) (Prod.fst (Prod.snd x_2)) = goal l ns (D.int
      IntKind.i64 (↑(Prod.fst x_1) : Int))) ∧ (IntKind.wrap IntKind.u64 (IntKind.wrap IntKind.u64 (List.getD ns (Int.toNat (↑(Prod.fst x_1) : Int)) (0 : Int)) * (2 : Int)) = (↑(Prod.fst (Prod.snd x_2)) : Int) ∧ True) ∧
      (x = x ∧ ((List.length (l ++ numsB (List.take (Prod.fst x_1) ns)) = List.length (Prod.fst (Prod.snd (Prod.snd x_2))) ∧ (∀ (i : Nat), i < List.length (l ++ numsB (List.take (Prod.fst x_1) ns)) → [D.int IntKind.u8
      (↑(UInt8.toNat (List.getD (l ++ numsB (List.take (Prod.fst x_1) ns)) i (0 : UInt8))) : Int)] = [D.int IntKind.u8 (↑(UInt8.toNat (List.getD (Prod.fst (Prod.snd (Prod.snd x_2))) i (0 : UInt8))) : Int)]) ∧ Prod.snd
      x_1 = Prod.snd (Prod.snd (Prod.snd x_2))) ∧ True) ∧ True) ∧ Prod.snd x_1 = Prod.snd (Prod.snd (Prod.snd x_2)) ∧ True) ∧ ∀ (x_2 : Nat × Nat × List UInt8 × Nat), Prod.fst x_2 ≤ (9 : Nat) ∧ Prod.fst (Prod.snd x_2) <
      (2 : Nat) ^ ((64 : Nat) - (7 : Nat) * Prod.fst x_2) ∧ List.length (Prod.fst (Prod.snd (Prod.snd x_2))) ≤ List.length l + (10 : Nat) * List.length ns ∧ Prod.fst (Prod.snd (Prod.snd x_2)) ++ uBf ((9 : Nat) - Prod.fst
      x_2) (Prod.fst (Prod.snd x_2)) = goal l ns (D.int IntKind.i64 (↑(Prod.fst x_1) : Int)) → ifB (decide ((128 : Int) ≤ (↑(Prod.fst (Prod.snd x_2)) : Int))) (x = x ∧ Prod.snd (Prod.snd (Prod.snd x_2)) = Prod.snd
      (Prod.snd (Prod.snd x_2)) ∧ side ((List.length (Prod.fst (Prod.snd (Prod.snd x_2))) + (1 : Nat)) * (1 : Nat) ≤ (140737488355328 : Nat) ∧ List.length (Prod.fst (Prod.snd (Prod.snd x_2))) + (1 : Nat) ≤
      (9223372036854775807 : Nat)) (∀ (t : Nat), x = x ∧ (D.ref (0 : Nat) x (0 : Nat) = D.ref (0 : Nat) x (0 : Nat) ∧ D.sl (1 : Nat) (List.length ns) (fun (i : Nat) => [D.int IntKind.i64 (List.getD ns i (0 : Int))]) m =
      D.sl (1 : Nat) (List.length ns) (fun (i : Nat) => [D.int IntKind.i64 (List.getD ns i (0 : Int))]) m ∧ D.int IntKind.i64 (↑(List.length ns) : Int) = D.int IntKind.i64 (↑(List.length ns) : Int) ∧ D.int IntKind.i64
      (↑(Prod.fst x_1) : Int) = D.int IntKind.i64 (↑(Prod.fst x_1) : Int) ∧ True) ∧ ∃ (y : Nat × Nat × List UInt8 × Nat), (Prod.fst y ≤ (9 : Nat) ∧ Prod.fst (Prod.snd y) < (2 : Nat) ^ ((64 : Nat) - (7 : Nat) * Prod.fst
      y) ∧ List.length (Prod.fst (Prod.snd (Prod.snd y))) ≤ List.length l + (10 : Nat) * List.length ns ∧ Prod.fst (Prod.snd (Prod.snd y)) ++ uBf ((9 : Nat) - Prod.fst y) (Prod.fst (Prod.snd y)) = goal l ns (D.int
      IntKind.i64 (↑(Prod.fst x_1) : Int))) ∧ Prod.fst (Prod.snd y) < Prod.fst (Prod.snd x_2) ∧ (Int.fdiv (↑(Prod.fst (Prod.snd x_2)) : Int) (128 : Int) = (↑(Prod.fst (Prod.snd y)) : Int) ∧ True) ∧ (x = x ∧ ((List.length
      (Prod.fst (Prod.snd (Prod.snd x_2))) + (1 : Nat) = List.length (Prod.fst (Prod.snd (Prod.snd y))) ∧ (∀ (i : Nat), i < List.length (Prod.fst (Prod.snd (Prod.snd x_2))) + (1 : Nat) → appF (List.length (Prod.fst
      (Prod.snd (Prod.snd x_2)))) (fun (i : Nat) => [D.int IntKind.u8 (↑(UInt8.toNat (List.getD (Prod.fst (Prod.snd (Prod.snd x_2))) i (0 : UInt8))) : Int)]) (fun (i : Nat) => List.getD [[D.int IntKind.u8 (orI IntKind.u8
      (IntKind.wrap IntKind.u8 (↑(Prod.fst (Prod.snd x_2)) : Int)) (128 : Int))]] i []) i = [D.int IntKind.u8 (↑(UInt8.toNat (List.getD (Prod.fst (Prod.snd (Prod.snd y))) i (0 : UInt8))) : Int)]) ∧ t = Prod.snd (Prod.snd
      (Prod.snd y))) ∧ True) ∧ True) ∧ t = Prod.snd (Prod.snd (Prod.snd y)) ∧ True)) (x = x ∧ Prod.snd (Prod.snd (Prod.snd x_2)) = Prod.snd (Prod.snd (Prod.snd x_2)) ∧ side ((List.length (Prod.fst (Prod.snd (Prod.snd
      x_2))) + (1 : Nat)) * (1 : Nat) ≤ (140737488355328 : Nat) ∧ List.length (Prod.fst (Prod.snd (Prod.snd x_2))) + (1 : Nat) ≤ (9223372036854775807 : Nat)) (∀ (t : Nat), x = x ∧ (D.ref (0 : Nat) x (0 : Nat) = D.ref (0
      : Nat) x (0 : Nat) ∧ D.sl (1 : Nat) (List.length ns) (fun (i : Nat) => [D.int IntKind.i64 (List.getD ns i (0 : Int))]) m = D.sl (1 : Nat) (List.length ns) (fun (i : Nat) => [D.int IntKind.i64 (List.getD ns i (0 :
      Int))]) m ∧ D.int IntKind.i64 (↑(List.length ns) : Int) = D.int IntKind.i64 (↑(List.length ns) : Int) ∧ True) ∧ ∃ (y : Nat × Nat), Prod.fst y ≤ List.length ns ∧ List.length ns - Prod.fst y < List.length ns -
      Prod.fst x_1 ∧ (IntKind.wrap IntKind.i64 ((↑(Prod.fst x_1) : Int) + (1 : Int)) = (↑(Prod.fst y) : Int) ∧ True) ∧ (x = x ∧ ((List.length (Prod.fst (Prod.snd (Prod.snd x_2))) + (1 : Nat) = List.length (l ++ numsB
      (List.take (Prod.fst y) ns)) ∧ (∀ (i : Nat), i < List.length (Prod.fst (Prod.snd (Prod.snd x_2))) + (1 : Nat) → appF (List.length (Prod.fst (Prod.snd (Prod.snd x_2)))) (fun (i : Nat) => [D.int IntKind.u8
      (↑(UInt8.toNat (List.getD (Prod.fst (Prod.snd (Prod.snd x_2))) i (0 : UInt8))) : Int)]) (fun (i : Nat) => List.getD [[D.int IntKind.u8 (IntKind.wrap IntKind.u8 (↑(Prod.fst (Prod.snd x_2)) : Int))]] i []) i = [D.int
      IntKind.u8 (↑(UInt8.toNat (List.getD (l ++ numsB (List.take (Prod.fst y) ns)) i (0 : UInt8))) : Int)]) ∧ t = Prod.snd y) ∧ True) ∧ True) ∧ t = Prod.snd y ∧ True))))) (True ∧ ∃ (y : Nat), True ∧ True ∧ (x = x ∧
      ((List.length (l ++ numsB (List.take (Prod.fst x_1) ns)) = List.length (l ++ numsB ns) ∧ (∀ (i : Nat), i < List.length (l ++ numsB (List.take (Prod.fst x_1) ns)) → [D.int IntKind.u8 (↑(UInt8.toNat (List.getD (l ++
      numsB (List.take (Prod.fst x_1) ns)) i (0 : UInt8))) : Int)] = [D.int IntKind.u8 (↑(UInt8.toNat (List.getD (l ++ numsB ns) i (0 : UInt8))) : Int)]) ∧ Prod.snd x_1 = y) ∧ True) ∧ True) ∧ Prod.snd x_1 = y ∧ True)) (by kernel_rfl) ?_
  simp only [ifB_iff, side_iff, decide_eq_true_eq, decide_eq_false_iff_not, true_and, and_true, Int.toNat_natCast, goal]
  refine ⟨?_, ?_⟩
  · exact ⟨(0, t), Nat.zero_le _, rfl, ⟨by simp [numsB], fun k _ => by simp [numsB], rfl⟩, rfl⟩
  · rintro ⟨i, t1⟩ hi
    simp only at hi
    have hstart : ∀ n, n ∈ ns → ∀ hlt : i < ns.length, zig (ns.getD i 0) < 2 ^ 64 → (0 : Nat) ≤ 9 ∧ zig (ns.getD i 0) < 2 ^ (64 - 7 * 0) ∧ (l ++ numsB (ns.take i)).length ≤ l.length + 10 * ns.length ∧ (l ++ numsB (ns.take i)) ++ uBf (9 - 0) (zig (ns.getD i 0)) = l ++ numsB (ns.take (i + 1)) := by
      intro n _ hlt hz
      refine ⟨by omega, hz, ?_, ?_⟩
      · have := numsB_len (ns.take i)
        simp only [List.length_append, List.length_take] at this ⊢
        omega
      · rw [numsB_take ns hlt, List.append_assoc]
    have hin : ∀ hlt : i < ns.length, ns.getD i 0 ∈ ns := fun hlt => by
      rw [List.getD_eq_getElem?_getD, List.getElem?_eq_getElem hlt]; exact List.getElem_mem hlt
    refine ⟨fun hlt => ⟨⟨by omega, hlt⟩, fun hneg => ⟨?_, num_body hl (by simpa using hlt)⟩, fun hpos => ⟨?_, num_body hl (by simpa using hlt)⟩⟩, fun hge => ?_⟩
    · have hlt : i < ns.length := by simpa using hlt
      obtain ⟨z1, z2⟩ := zig_neg hneg (hn _ (hin hlt))
      exact ⟨(0, zig (ns.getD i 0), l ++ numsB (ns.take i), t1), hstart _ (hin hlt) hlt z2, z1, ⟨rfl, fun _ _ => rfl, rfl⟩, rfl⟩
    · have hlt : i < ns.length := by simpa using hlt
      obtain ⟨z1, z2⟩ := zig_pos hpos (hn _ (hin hlt))
      exact ⟨(0, zig (ns.getD i 0), l ++ numsB (ns.take i), t1), hstart _ (hin hlt) hlt z2, z1, ⟨rfl, fun _ _ => rfl, rfl⟩, rfl⟩
    · have : i = ns.length := by simp only at hge; omega
      subst this
      refine ⟨t1, ⟨?_, ?_, rfl⟩, rfl⟩
      · simp
      · intro k hk; simp
theorem numF_ok (x : Nat) (l : List UInt8) (ns : List Int) (m : Ab.Mode) (hl : l.length + 10 * ns.length ≤ 70368744177664) (hn : ∀ z, z ∈ ns → i64B z = true) :
    ACalls Try.prog 40 ((sNum x 0 l .full [] ns m).args ()) ((sNum x 0 l .full [] ns m).st ()) (SpecR (sNum x 0 l .full [] ns m) ()) := by
  refine con_of (A := sNum x 0 l .full [] ns m) (x := ()) (E := E40 x l ns [.cell 0 0]) ⟨tab_ok, con0_ok, mix, fun _ _ _ _ h => h.elim, eqs_ok⟩ Try.func40 rfl (by kernel_rfl) rfl (by simp [sNum, E40, E0]) ?_
  refine vc_eq (T :=
      ∀ (t : Nat), (∃ (x_1 : Nat × Nat), Prod.fst x_1 ≤ List.length ns ∧ ((0 : Int) = (↑(Prod.fst x_1) : Int) ∧ True) ∧ (x = x ∧ ((List.length l = List.length (l ++ numsB (List.take (Prod.fst x_1) ns)) ∧ (∀ (i : Nat), i
      < List.length l → [D.int IntKind.u8 (↑(UInt8.toNat (List.getD l i (0 : UInt8))) : Int)] = [D.int IntKind.u8 (↑(UInt8.toNat (List.getD (l ++ numsB (List.take (Prod.fst x_1) ns)) i (0 : UInt8))) : Int)]) ∧ t =
      Prod.snd x_1) ∧ True) ∧ True) ∧ t = Prod.snd x_1 ∧ True) ∧ ∀ (x_1 : Nat × Nat), Prod.fst x_1 ≤ List.length ns → ifB (decide ((↑(Prod.fst x_1) : Int) < (↑(List.length ns) : Int))) (side ((0 : Int) ≤ (↑(Prod.fst x_1)
      : Int) ∧ (↑(Prod.fst x_1) : Int) < (↑(List.length ns) : Int)) (ifB (decide (List.getD ns (Int.toNat (↑(Prod.fst x_1) : Int)) (0 : Int) < (0 : Int))) ((∃ (x_2 : Nat × Nat × List UInt8 × Nat), (Prod.fst x_2 ≤ (9 :
      Nat) ∧ Prod.fst (Prod.snd x_2) < (2 : Nat) ^ ((64 : Nat) - (7 : Nat) * Prod.fst x_2) ∧ List.length (Prod.fst (Prod.snd (Prod.snd x_2))) ≤ List.length l + (10 : Nat) * List.length ns ∧ Prod.fst (Prod.snd (Prod.snd
      x_2)) ++ uBf ((9 : Nat) - Prod.fst x_2) (Prod.fst (Prod.snd x_2)) = goal l ns (D.int IntKind.i64 (↑(Prod.fst x_1) : Int))) ∧ (notI IntKind.u64 (IntKind.wrap IntKind.u64 (IntKind.wrap IntKind.u64 (List.getD ns
      (Int.toNat (↑(Prod.fst x_1) : Int)) (0 : Int)) * (2 : Int))) = (↑(Prod.fst (Prod.snd x_2)) : Int) ∧ True) ∧ (x = x ∧ ((List.length (l ++ numsB (List.take (Prod.fst x_1) ns)) = List.length (Prod.fst (Prod.snd
      (Prod.snd x_2))) ∧ (∀ (i : Nat), i < List.length (l ++ numsB (List.take (Prod.fst x_1) ns)) → [D.int IntKind.u8 (↑(UInt8.toNat (List.getD (l ++ numsB (List.take (Prod.fst x_1) ns)) i (0 : UInt8))) : Int)] = [D.int
      IntKind.u8 (↑(UInt8.toNat (List.getD (Prod.fst (Prod.snd (Prod.snd x_2))) i (0 : UInt8))) : Int)]) ∧ Prod.snd x_1 = Prod.snd (Prod.snd (Prod.snd x_2))) ∧ True) ∧ True) ∧ Prod.snd x_1 = Prod.snd (Prod.snd (Prod.snd
      x_2)) ∧ True) ∧ ∀ (x_2 : Nat × Nat × List UInt8 × Nat), Prod.fst x_2 ≤ (9 : Nat) ∧ Prod.fst (Prod.snd x_2) < (2 : Nat) ^ ((64 : Nat) - (7 : Nat) * Prod.fst x_2) ∧ List.length (Prod.fst (Prod.snd (Prod.snd x_2))) ≤
      List.length l + (10 : Nat) * List.length ns ∧ Prod.fst (Prod.snd (Prod.snd x_2)) ++ uBf ((9 : Nat) - Prod.fst x_2) (Prod.fst (Prod.snd x_2)) = goal l ns (D.int IntKind.i64 (↑(Prod.fst x_1) : Int)) → ifB (decide
      ((128 : Int) ≤ (↑(Prod.fst (Prod.snd x_2)) : Int))) (x = x ∧ Prod.snd (Prod.snd (Prod.snd x_2)) = Prod.snd (Prod.snd (Prod.snd x_2)) ∧ side ((List.length (Prod.fst (Prod.snd (Prod.snd x_2))) + (1 : Nat)) * (1 :
      Nat) ≤ (140737488355328 : Nat) ∧ List.length (Prod.fst (Prod.snd (Prod.snd x_2))) + (1 : Nat) ≤ (9223372036854775807 : Nat)) (∀ (t : Nat), x = x ∧ (D.ref (0 : Nat) x (0 : Nat) = D.ref (0 : Nat) x (0 : Nat) ∧ D.sl
      (1 : Nat) (List.length ns) (fun (i : Nat) => [D.int IntKind.i64 (List.getD ns i (0 : Int))]) m = D.sl (1 : Nat) (List.length ns) (fun (i : Nat) => [D.int IntKind.i64 (List.getD ns i (0 : Int))]) m ∧ D.int
      IntKind.i64 (↑(List.length ns) : Int) = D.int IntKind.i64 (↑(List.length ns) : Int) ∧ D.int IntKind.i64 (↑(Prod.fst x_1) : Int) = D.int IntKind.i64 (↑(Prod.fst x_1) : Int) ∧ True) ∧ ∃ (y : Nat × Nat × List UInt8 ×
      Nat), (Prod.fst y ≤ (9 : Nat) ∧ Prod.fst (Prod.snd y) < (2 : Nat) ^ ((64 : Nat) - (7 : Nat) * Prod.fst y) ∧ List.length (Prod.fst (Prod.snd (Prod.snd y))) ≤ List.length l + (10 : Nat) * List.length ns ∧ Prod.fst
      (Prod.snd (Prod.snd y)) ++ uBf ((9 : Nat) - Prod.fst y) (Prod.fst (Prod.snd y)) = goal l ns (D.int IntKind.i64 (↑(Prod.fst x_1) : Int))) ∧ Prod.fst (Prod.snd y) < Prod.fst (Prod.snd x_2) ∧ (Int.fdiv (↑(Prod.fst
      (Prod.snd x_2)) : Int) (128 : Int) = (↑(Prod.fst (Prod.snd y)) : Int) ∧ True) ∧ (x = x ∧ ((List.length (Prod.fst (Prod.snd (Prod.snd x_2))) + (1 : Nat) = List.length (Prod.fst (Prod.snd (Prod.snd y))) ∧ (∀ (i :
      Nat), i < List.length (Prod.fst (Prod.snd (Prod.snd x_2))) + (1 : Nat) → appF (List.length (Prod.fst (Prod.snd (Prod.snd x_2)))) (fun (i : Nat) => [D.int IntKind.u8 (↑(UInt8.toNat (List.getD (Prod.fst (Prod.snd
      (Prod.snd x_2))) i (0 : UInt8))) : Int)]) (fun (i : Nat) => List.getD [[D.int IntKind.u8 (orI IntKind.u8 (IntKind.wrap IntKind.u8 (↑(Prod.fst (Prod.snd x_2)) : Int)) (128 : Int))]] i []) i = [D.int IntKind.u8
      (↑(UInt8.toNat (List.getD (Prod.fst (Prod.snd (Prod.snd y))) i (0 : UInt8))) : Int)]) ∧ t = Prod.snd (Prod.snd (Prod.snd y))) ∧ True) ∧ True) ∧ t = Prod.snd (Prod.snd (Prod.snd y)) ∧ True)) (x = x ∧ Prod.snd
      (Prod.snd (Prod.snd x_2)) = Prod.snd (Prod.snd (Prod.snd x_2)) ∧ side ((List.length (Prod.fst (Prod.snd (Prod.snd x_2))) + (1 : Nat)) * (1 : Nat) ≤ (140737488355328 : Nat) ∧ List.length (Prod.fst (Prod.snd
      (Prod.snd x_2))) + (1 : Nat) ≤ (9223372036854775807 : Nat)) (∀ (t : Nat), x = x ∧ (D.ref (0 : Nat) x (0 : Nat) = D.ref (0 : Nat) x (0 : Nat) ∧ D.sl (1 : Nat) (List.length ns) (fun (i : Nat) => [D.int IntKind.i64
      (List.getD ns i (0 : Int))]) m = D.sl (1 : Nat) (List.length ns) (fun (i : Nat) => [D.int IntKind.i64 (List.getD ns i (0 : Int))]) m ∧ D.int IntKind.i64 (↑(List.length ns) : Int) = D.int IntKind.i64 (↑(List.length
      ns) : Int) ∧ True) ∧ ∃ (y : Nat × Nat), Prod.fst y ≤ List.length ns ∧ List.length ns - Prod.fst y < List.length ns - Prod.fst x_1 ∧ (IntKind.wrap IntKind.i64 ((↑(Prod.fst x_1) : Int) + (1 : Int)) = (↑(Prod.fst y) :
      Int) ∧ True) ∧ (x = x ∧ ((List.length (Prod.fst (Prod.snd (Prod.snd x_2))) + (1 : Nat) = List.length (l ++ numsB (List.take (Prod.fst y) ns)) ∧ (∀ (i : Nat), i < List.length (Prod.fst (Prod.snd (Prod.snd x_2))) +
      (1 : Nat) → appF (List.length (Prod.fst (Prod.snd (Prod.snd x_2)))) (fun (i : Nat) => [D.int IntKind.u8 (↑(UInt8.toNat (List.getD (Prod.fst (Prod.snd (Prod.snd x_2))) i (0 : UInt8))) : Int)]) (fun (i : Nat) =>
      List.getD [[D.int IntKind.u8 (IntKind.wrap IntKind.u8 (↑(Prod.fst (Prod.snd x_2)) : Int))]] i []) i = [D.int IntKind.u8 (↑(UInt8.toNat (List.getD (l ++ numsB (List.take (Prod.fst y) ns)) i (0 : UInt8))) : Int)]) ∧
      t = Prod.snd y) ∧ True) ∧ True) ∧ t = Prod.snd y ∧ True))) ((∃ (x_2 : Nat × Nat × List UInt8 × Nat), (Prod.fst x_2 ≤ (9 : Nat) ∧ Prod.fst (Prod.snd x_2) < (2 : Nat) ^ ((64 : Nat) - (7 : Nat) * Prod.fst x_2) ∧
      List.length (Prod.fst (Prod.snd (Prod.snd x_2))) ≤ List.length l + (10 : Nat) * List.length ns ∧ Prod.fst (Prod.snd (Prod.snd x_2)) ++ uBf ((9 : Nat) - Prod.fst x_2) (Prod.fst (Prod.snd x_2)) = goal l ns (D.int
      IntKind.i64 (↑(Prod.fst x_1) : Int))) ∧ (IntKind.wrap IntKind.u64 (IntKind.wrap IntKind.u64 (List.getD ns (Int.toNat (↑(Prod.fst x_1) : Int)) (0 : Int)) * (2 : Int)) = (↑(Prod.fst (Prod.snd x_2)) : Int) ∧ True) ∧
      (x = x ∧ ((List.length (l ++ numsB (List.take (Prod.fst x_1) ns)) = List.length (Prod.fst (Prod.snd (Prod.snd x_2))) ∧ (∀ (i : Nat), i < List.length (l ++ numsB (List.take (Prod.fst x_1) ns)) → [D.int IntKind.u8
      (↑(UInt8.toNat (List.getD (l ++ numsB (List.take (Prod.fst x_1) ns)) i (0 : UInt8))) : Int)] = [D.int IntKind.u8 (↑(UInt8.toNat (List.getD (Prod.fst (Prod.snd (Prod.snd x_2))) i (0 : UInt8))) : Int)]) ∧ Prod.snd
      x_1 = Prod.snd (Prod.snd (Prod.snd x_2))) ∧ True) ∧ True) ∧ Prod.snd x_1 = Prod.snd (Prod.snd (Prod.snd x_2)) ∧ True) ∧ ∀ (x_2 : Nat × Nat × List UInt8 × Nat), Prod.fst x_2 ≤ (9 : Nat) ∧ Prod.fst (Prod.snd x_2) <
      (2 : Nat) ^ ((64 : Nat) - (7 : Nat) * Prod.fst x_2) ∧ List.length (Prod.fst (Prod.snd (Prod.snd x_2))) ≤ List.length l + (10 : Nat) * List.length ns ∧ Prod.fst (Prod.snd (Prod.snd x_2)) ++ uBf ((9 : Nat) - Prod.fst
      x_2) (Prod.fst (Prod.snd x_2)) = goal l ns (D.int IntKind.i64 (↑(Prod.fst x_1) : Int)) → ifB (decide ((128 : Int) ≤ (↑(Prod.fst (Prod.snd x_2)) : Int))) (x = x ∧ Prod.snd (Prod.snd (Prod.snd x_2)) = Prod.snd
      (Prod.snd (Prod.snd x_2)) ∧ side ((List.length (Prod.fst (Prod.snd (Prod.snd x_2))) + (1 : Nat)) * (1 : Nat) ≤ (140737488355328 : Nat) ∧ List.length (Prod.fst (Prod.snd (Prod.snd x_2))) + (1 : Nat) ≤
      (9223372036854775807 : Nat)) (∀ (t : Nat), x = x ∧ (D.ref (0 : Nat) x (0 : Nat) = D.ref (0 : Nat) x (0 : Nat) ∧ D.sl (1 : Nat) (List.length ns) (fun (i : Nat) => [D.int IntKind.i64 (List.getD ns i (0 : Int))]) m =
      D.sl (1 : Nat) (List.length ns) (fun (i : Nat) => [D.int IntKind.i64 (List.getD ns i (0 : Int))]) m ∧ D.int IntKind.i64 (↑(List.length ns) : Int) = D.int IntKind.i64 (↑(List.length ns) : Int) ∧ D.int IntKind.i64
      (↑(Prod.fst x_1) : Int) = D.int IntKind.i64 (↑(Prod.fst x_1) : Int) ∧ True) ∧ ∃ (y : Nat × Nat × List UInt8 × Nat), (Prod.fst y ≤ (9 : Nat) ∧ Prod.fst (Prod.snd y) < (2 : Nat) ^ ((64 : Nat) - (7 : Nat) * Prod.fst
      y) ∧ List.length (Prod.fst (Prod.snd (Prod.snd y))) ≤ List.length l + (10 : Nat) * List.length ns ∧ Prod.fst (Prod.snd (Prod.snd y)) ++ uBf ((9 : Nat) - Prod.fst y) (Prod.fst (Prod.snd y)) = goal l ns (D.int
      IntKind.i64 (↑(Prod.fst x_1) : Int))) ∧ Prod.fst (Prod.snd y) < Prod.fst (Prod.snd x_2) ∧ (Int.fdiv (↑(Prod.fst (Prod.snd x_2)) : Int) (128 : Int) = (↑(Prod.fst (Prod.snd y)) : Int) ∧ True) ∧ (x = x ∧ ((List.length
      (Prod.fst (Prod.snd (Prod.snd x_2))) + (1 : Nat) = List.length (Prod.fst (Prod.snd (Prod.snd y))) ∧ (∀ (i : Nat), i < List.length (Prod.fst (Prod.snd (Prod.snd x_2))) + (1 : Nat) → appF (List.length (Prod.fst
      (Prod.snd (Prod.snd x_2)))) (fun (i : Nat) => [D.int IntKind.u8 (↑(UInt8.toNat (List.getD (Prod.fst (Prod.snd (Prod.snd x_2))) i (0 : UInt8))) : Int)]) (fun (i : Nat) => List.getD [[D.int IntKind.u8 (orI IntKind.u8
      (IntKind.wrap IntKind.u8 (↑(Prod.fst (Prod.snd x_2)) : Int)) (128 : Int))]] i []) i = [D.int IntKind.u8 (↑(UInt8.toNat (List.getD (Prod.fst (Prod.snd (Prod.snd y))) i (0 : UInt8))) : Int)]) ∧ t = Prod.snd (Prod.snd
      (Prod.snd y))) ∧ True) ∧ True) ∧ t = Prod.snd (Prod.snd (Prod.snd y)) ∧ True)) (x = x ∧ Prod.snd (Prod.snd (Prod.snd x_2)) = Prod.snd (Prod.snd (Prod.snd x_2)) ∧ side ((List.length (Prod.fst (Prod.snd (Prod.snd
      x_2))) + (1 : Nat)) * (1 : Nat) ≤ (140737488355328 : Nat) ∧ List.length (Prod.fst (Prod.snd (Prod.snd x_2))) + (1 : Nat) ≤ (9223372036854775807 : Nat)) (∀ (t : Nat), x = x ∧ (D.ref (0 : Nat) x (0 : Nat) = D.ref (0
      : Nat) x (0 : Nat) ∧ D.sl (1 : Nat) (List.length ns) (fun (i : Nat) => [D.int IntKind.i64 (List.getD ns i (0 : Int))]) m = D.sl (1 : Nat) (List.length ns) (fun (i : Nat) => [D.int IntKind.i64 (List.getD ns i (0 :
      Int))]) m ∧ D.int IntKind.i64 (↑(List.length ns) : Int) = D.int IntKind.i64 (↑(List.length ns) : Int) ∧ True) ∧ ∃ (y : Nat × Nat), Prod.fst y ≤ List.length ns ∧ List.length ns - Prod.fst y < List.length ns -
      Prod.fst x_1 ∧ (IntKind.wrap IntKind.i64 ((↑(Prod.fst x_1) : Int) + (1 : Int)) = (↑(Prod.fst y) : Int) ∧ True) ∧ (x = x ∧ ((List.length (Prod.fst (Prod.snd (Prod.snd x_2))) + (1 : Nat) = List.length (l ++ numsB
      (List.take (Prod.fst y) ns)) ∧ (∀ (i : Nat), i < List.length (Prod.fst (Prod.snd (Prod.snd x_2))) + (1 : Nat) → appF (List.length (Prod.fst (Prod.snd (Prod.snd x_2)))) (fun (i : Nat) => [D.int IntKind.u8
      (↑(UInt8.toNat (List.getD (Prod.fst (Prod.snd (Prod.snd x_2))) i (0 : UInt8))) : Int)]) (fun (i : Nat) => List.getD [[D.int IntKind.u8 (IntKind.wrap IntKind.u8 (↑(Prod.fst (Prod.snd x_2)) : Int))]] i []) i = [D.int
      IntKind.u8 (↑(UInt8.toNat (List.getD (l ++ numsB (List.take (Prod.fst y) ns)) i (0 : UInt8))) : Int)]) ∧ t = Prod.snd y) ∧ True) ∧ True) ∧ t = Prod.snd y ∧ True))))) (True ∧ ∃ (y : Nat), True ∧ True ∧ (x = x ∧
      ((List.length (l ++ numsB (List.take (Prod.fst x_1) ns)) = List.length (l ++ numsB ns) ∧ (∀ (i : Nat), i < List.length (l ++ numsB (List.take (Prod.fst x_1) ns)) → [D.int IntKind.u8 (↑(UInt8.toNat (List.getD (l ++
      numsB (List.take (Prod.fst x_1) ns)) i (0 : UInt8))) : Int)] = [D.int IntKind.u8 (↑(UInt8.toNat (List.getD (l ++ numsB ns) i (0 : UInt8))) : Int)]) ∧ Prod.snd x_1 = y) ∧ True) ∧ True) ∧ Prod.snd x_1 = y ∧ True)) (by kernel_rfl) ?_
  simp only [ifB_iff, side_iff, decide_eq_true_eq, decide_eq_false_iff_not, true_and, and_true, Int.toNat_natCast, goal]
  intro t
  refine ⟨?_, ?_⟩
  · exact ⟨(0, t), Nat.zero_le _, rfl, ⟨by simp [numsB], fun k _ => by simp [numsB], rfl⟩, rfl⟩
  · rintro ⟨i, t1⟩ hi
    simp only at hi
    have hstart : ∀ n, n ∈ ns → ∀ hlt : i < ns.length, zig (ns.getD i 0) < 2 ^ 64 → (0 : Nat) ≤ 9 ∧ zig (ns.getD i 0) < 2 ^ (64 - 7 * 0) ∧ (l ++ numsB (ns.take i)).length ≤ l.length + 10 * ns.length ∧ (l ++ numsB (ns.take i)) ++ uBf (9 - 0) (zig (ns.getD i 0)) = l ++ numsB (ns.take (i + 1)) := by
      intro n _ hlt hz
      refine ⟨by omega, hz, ?_, ?_⟩
      · have := numsB_len (ns.take i)
        simp only [List.length_append, List.length_take] at this ⊢
        omega
      · rw [numsB_take ns hlt, List.append_assoc]
    have hin : ∀ hlt : i < ns.length, ns.getD i 0 ∈ ns := fun hlt => by
      rw [List.getD_eq_getElem?_getD, List.getElem?_eq_getElem hlt]; exact List.getElem_mem hlt
    refine ⟨fun hlt => ⟨⟨by omega, hlt⟩, fun hneg => ⟨?_, num_body hl (by simpa using hlt)⟩, fun hpos => ⟨?_, num_body hl (by simpa using hlt)⟩⟩, fun hge => ?_⟩
    · have hlt : i < ns.length := by simpa using hlt
      obtain ⟨z1, z2⟩ := zig_neg hneg (hn _ (hin hlt))
      exact ⟨(0, zig (ns.getD i 0), l ++ numsB (ns.take i), t1), hstart _ (hin hlt) hlt z2, z1, ⟨rfl, fun _ _ => rfl, rfl⟩, rfl⟩
    · have hlt : i < ns.length := by simpa using hlt
      obtain ⟨z1, z2⟩ := zig_pos hpos (hn _ (hin hlt))
      exact ⟨(0, zig (ns.getD i 0), l ++ numsB (ns.take i), t1), hstart _ (hin hlt) hlt z2, z1, ⟨rfl, fun _ _ => rfl, rfl⟩, rfl⟩
    · have : i = ns.length := by simp only at hge; omega
      subst this
      refine ⟨t1, ⟨?_, ?_, rfl⟩, rfl⟩
      · simp
      · intro k hk; simp
end Go.Proofs.Ytoglbmhkfkghbaa
namespace Go.Proofs.Ytoglbmhkfkghbaa
open Go Go.Ab
set_option maxRecDepth 100000

def sNumK (k kt x : Nat) (l : List UInt8) (md : Ab.Mode) (ts : List (Nat × Nat)) (ns : List Int) (m : Ab.Mode) : FnSpec where
  β := Unit
  α := Nat × List UInt8
  args := fun _ => [.ref k x 0, isl ns m]
  st := fun _ => ⟨[(k, x, .cells [bsl l md])], ts⟩
  pre := fun _ => True
  post := fun _ y => y.2 = l ++ numsB ns
  res := fun _ _ => .ret (.tup [])
  out := fun _ y => ⟨[(k, x, .cells [bsl y.2 (.tok kt y.1)])], [(kt, y.1)]⟩
theorem numK_ok (k kt x t : Nat) (l : List UInt8) (ns : List Int) (m : Ab.Mode) (hl : l.length + 10 * ns.length ≤ 70368744177664) (hn : ∀ z, z ∈ ns → i64B z = true) :
    ACalls Try.prog 40 ((sNumK k kt x l (.tok kt t) [(kt, t)] ns m).args ()) ((sNumK k kt x l (.tok kt t) [(kt, t)] ns m).st ()) (SpecR (sNumK k kt x l (.tok kt t) [(kt, t)] ns m) ()) := by
  refine (num_ok x t l ns m hl hn).respec (A' := sNumK k kt x l (.tok kt t) [(kt, t)] ns m) (x' := ()) ?_ ?_ fun y _ => ⟨(y, l ++ numsB ns), rfl, ?_, ?_⟩
  · simp [sNumK, sNum, weakL, weakD, chk, isl, weakM_refl]
  · simp [sNumK, sNum, posS, posO, posT, weakO, weakL, weakD, chk, bsl, weakM]
  · simp [sNumK, sNum, weakEnd, weakD, weakL]
  · simp [sNumK, sNum, posS, posO, posT, weakO, weakL, weakD, chk, bsl, weakM]; rfl
theorem numFK_ok (k kt x : Nat) (l : List UInt8) (ns : List Int) (m : Ab.Mode) (hl : l.length + 10 * ns.length ≤ 70368744177664) (hn : ∀ z, z ∈ ns → i64B z = true) :
    ACalls Try.prog 40 ((sNumK k kt x l .full [] ns m).args ()) ((sNumK k kt x l .full [] ns m).st ()) (SpecR (sNumK k kt x l .full [] ns m) ()) := by
  refine (numF_ok x l ns m hl hn).respec (A' := sNumK k kt x l .full [] ns m) (x' := ()) ?_ ?_ fun y _ => ⟨(y, l ++ numsB ns), rfl, ?_, ?_⟩
  · simp [sNumK, sNum, weakL, weakD, chk, isl, weakM_refl]
  · simp [sNumK, sNum, posS, posO, posT, weakO, weakL, weakD, chk, bsl, weakM]
  · simp [sNumK, sNum, weakEnd, weakD, weakL]
  · simp [sNumK, sNum, posS, posO, posT, weakO, weakL, weakD, chk, bsl, weakM]; rfl

def rowInt : List D → Int
  | [.int _ z] => z
  | _ => 0
def rowI64 : List D → Bool
  | [.int .i64 z] => i64B z
  | _ => false
def intsOf (n : Nat) (f : Nat → List D) : List Int := (List.range n).map fun i => rowInt (f i)
def intsB (n : Nat) (f : Nat → List D) : Bool := (List.range n).all fun i => rowI64 (f i)
def fitP (n0 : Nat) (g : Nat → List D) (n : Nat) (f : Nat → List D) : Prop := rowsB n0 g = true ∧ intsB n f = true ∧ n0 + 10 * n ≤ 70368744177664
theorem bsl_weak {n : Nat} {g : Nat → List D} {m : Ab.Mode} (h : rowsB n g = true) : weakD (.sl 1 n g m) (bsl (bytesOf n g) m) := by
  simp only [bsl, weakD, chk_iff]
  refine ⟨by simp, by simp [bytesOf], fun i hi => ?_, weakM_refl m⟩
  have hb : rowB (g i) = true := List.all_eq_true.1 h i (List.mem_range.2 hi)
  have hg : (bytesOf n g).getD i 0 = rowByte (g i) := by simp [bytesOf, List.getD_eq_getElem?_getD, hi]
  rw [hg]
  unfold rowB at hb
  split at hb
  · rename_i d hd
    rw [hd]
    have := byteB_eq hb
    simp only [rowByte]
    rw [← this]
  · cases hb
theorem isl_weak {n : Nat} {f : Nat → List D} {m : Ab.Mode} (h : intsB n f = true) : weakD (.sl 1 n f m) (isl (intsOf n f) m) := by
  simp only [isl, weakD, chk_iff]
  refine ⟨by simp, by simp [intsOf], fun i hi => ?_, weakM_refl m⟩
  have hb : rowI64 (f i) = true := List.all_eq_true.1 h i (List.mem_range.2 hi)
  have hg : (intsOf n f).getD i 0 = rowInt (f i) := by simp [intsOf, List.getD_eq_getElem?_getD, hi]
  rw [hg]
  unfold rowI64 at hb
  split at hb
  · rename_i z hd; rw [hd]; rfl
  · cases hb
theorem ints_i64 {n : Nat} {f : Nat → List D} (h : intsB n f = true) : ∀ z, z ∈ intsOf n f → i64B z = true := by
  intro z hz
  simp only [intsOf, List.mem_map, List.mem_range] at hz
  obtain ⟨i, hi, rfl⟩ := hz
  have hb : rowI64 (f i) = true := List.all_eq_true.1 h i (List.mem_range.2 hi)
  unfold rowI64 at hb
  split at hb
  · rename_i z hd; rw [hd]; exact hb
  · cases hb
def tokIs (ts : List (Nat × Nat)) (kt t : Nat) : Prop :=
  match getT ts kt with
  | some t' => t' = t
  | none => False
def conW (con : Nat → List D → St → Option FnSpec) (k : Nat) (ds : List D) (S : St) : Option FnSpec :=
  match k with
  | 40 => match ds with
    | [.ref k x 0, .sl 1 n f m] => match getO S.objs k with
      | some (y, .cells [.sl 1 n0 g md]) => match md with
        | .tok kt t => some ((sNumK k kt x (bytesOf n0 g) (.tok kt t) [(kt, t)] (intsOf n f) m).fits () (y = x ∧ tokIs S.toks kt t ∧ fitP n0 g n f))
        | .full => some ((sNumK k (nextTok S.toks) x (bytesOf n0 g) .full [] (intsOf n f) m).fits () (y = x ∧ fitP n0 g n f))
        | _ => none
      | _ => none
    | _ => none
  | _ => con k ds S
theorem conW_ok {con : Nat → List D → St → Option FnSpec} (hc : ConOk Try.prog con) : ConOk Try.prog (conW con) := by
  intro k ds S A h
  unfold conW at h
  split at h
  · split at h
    · rename_i k x n f m
      split at h
      · rename_i y n0 g md hg
        split at h
        · rename_i kt t
          injection h with h; subst h
          have key : ∀ p : fitP n0 g n f, ACalls Try.prog 40 ((sNumK k kt x (bytesOf n0 g) (.tok kt t) [(kt, t)] (intsOf n f) m).args ()) ((sNumK k kt x (bytesOf n0 g) (.tok kt t) [(kt, t)] (intsOf n f) m).st ()) (SpecR (sNumK k kt x (bytesOf n0 g) (.tok kt t) [(kt, t)] (intsOf n f) m) ()) := fun p =>
            numK_ok k kt x t _ _ m (by simpa [bytesOf, intsOf] using p.2.2) (ints_i64 p.2.1)
          refine ⟨fun _ hy => key hy.1.2.2, fun _ _ hy => ?_, fun h => nomatch h⟩
          obtain ⟨⟨e, ht, p⟩, _⟩ := hy
          subst e
          refine ⟨⟨by simp [weakD, chk], isl_weak p.2.1, trivial⟩, chk_iff.2 ⟨rfl, ?_, ?_⟩⟩
          · simp only [FnSpec.fits, sNumK, leO, hg]
            exact ⟨trivial, ⟨bsl_weak p.1, trivial⟩, trivial⟩
          · unfold tokIs at ht
            simp only [FnSpec.fits, sNumK, leT]
            split at ht
            · rename_i t' e; rw [e]; exact ⟨ht, trivial⟩
            · exact ht.elim
        · injection h with h; subst h
          have key : ∀ p : fitP n0 g n f, ACalls Try.prog 40 ((sNumK k (nextTok S.toks) x (bytesOf n0 g) .full [] (intsOf n f) m).args ()) ((sNumK k (nextTok S.toks) x (bytesOf n0 g) .full [] (intsOf n f) m).st ()) (SpecR (sNumK k (nextTok S.toks) x (bytesOf n0 g) .full [] (intsOf n f) m) ()) := fun p =>
            numFK_ok k _ x _ _ m (by simpa [bytesOf, intsOf] using p.2.2) (ints_i64 p.2.1)
          refine ⟨fun _ hy => key hy.1.2, fun _ _ hy => ?_, fun h => nomatch h⟩
          obtain ⟨⟨e, p⟩, _⟩ := hy
          subst e
          refine ⟨⟨by simp [weakD, chk], isl_weak p.2.1, trivial⟩, chk_iff.2 ⟨rfl, ?_, trivial⟩⟩
          simp only [FnSpec.fits, sNumK, leO, hg]
          exact ⟨trivial, ⟨bsl_weak p.1, trivial⟩, trivial⟩
        · cases h
      · cases h
    · cases h
  · exact hc _ _ _ _ h
theorem bytesOf_bsl (l : List UInt8) : bytesOf l.length (fun i => [.int .u8 ((l.getD i 0).toNat : Int)]) = l := by
  apply List.ext_getElem
  · simp [bytesOf]
  · intro i h1 h2
    simp only [bytesOf, List.getElem_map, List.getElem_range, rowByte, Ab.byteOf, List.getD_eq_getElem?_getD, List.getElem?_eq_getElem h2, Option.getD_some, Int.toNat_natCast, UInt8.ofNat_toNat]
theorem rowsB_bsl (l : List UInt8) : rowsB l.length (fun i => [.int .u8 ((l.getD i 0).toNat : Int)]) = true := by
  simp only [rowsB, List.all_eq_true, List.mem_range]
  intro i _
  have := (l.getD i 0).toNat_lt
  simp only [rowB, Ab.byteB, Bool.and_eq_true, decide_eq_true_eq]; omega
end Go.Proofs.Ytoglbmhkfkghbaa
