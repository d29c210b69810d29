/- Functions of the given program and what each of them computes: lemmas towards the statement, their conditions stated with each of them. -/
import Derived.Test.YtflbmbkhjcbhoaaGreatDoorAb3
import Derived.Test.YtflbmbkhjcbhoaaGreatDoorProg
import Derived.KernelRfl
import Derived.Shelf.Strings.Builder1
import Derived.Shelf.Strings.Builder2
import Derived.Shelf.Strings.OnBuilder
import Derived.Shelf.Strings.BuilderF
import Derived.Shelf.Strconv.Itoa0
import Derived.Shelf.Strconv.Itoa1
import Derived.Shelf.LaysM
import Derived.Shelf.Strconv.Itoa2
import Derived.Shelf.Strconv.Itoa3
import Derived.Shelf.Strconv.Itoa4
import Derived.Shelf.Strings.Prefix
import Derived.Shelf.Bits.Mul64
import Derived.Shelf.Strings.Repeat
import Derived.Lib.Repeat
import Derived.Lib.LaidTab
import Derived.Lib.ItoaNum
import Derived.Lib.TrailingZeros
import Derived.Calls
import Derived.Below
import Derived.Laws.Entries
import Derived.Laws.Build
import Derived.Laws.Concat
import Derived.Laws.AppendOwn
import Derived.Laws.IdiomStrings
import Derived.Laws.BytesString
import Derived.Laws.NewFold
import Derived.Laws.MakeOwn
import Derived.Laws.IdiomCopy
import Derived.Laws.Shifts
import Derived.Laws.Strings
import Derived.Laws.Strings2
import Derived.Laws.Strings3
import Derived.Laws.RangeString
import Derived.MapKept
import Derived.Laws.StructEq
import Derived.Orders
import Derived.Scope
import Derived.ProofKit
import Derived.WalkKit
import Derived.OpenShut
import Derived.Recover
import Derived.Lib.AppendIntMem
import Derived.Lib.ItoaLen
import Derived.Test.YtflbmbkhjcbhoaaGreatDoorCards
import Derived.Test.YtflbmbkhjcbhoaaGreatDoorTie
import Derived.Deep.DeepHandedRow
import Derived.Stop.LaidErr
import Derived.Lib.Join
import Derived.Lib.Builder
import Derived.Lib.UnsafeStr
import Derived.Laws.BitsLemmas
namespace Go.Proofs.YtflbmbkhjcbhoaaGreatDoor
open Go Go.Ab
noncomputable def tab:List (Nat × TI) := [
  (0,⟨TypeDesc.tuple #[],1,0,[.unk]⟩),
  (1,⟨TypeDesc.func #[] #[] false,1,8,[.nilf]⟩),
  (2,⟨TypeDesc.int .i64,1,8,[.int .i64 0]⟩),
  (3,⟨TypeDesc.int .i64,1,8,[.int .i64 0]⟩),
  (4,⟨TypeDesc.bool,1,1,[.bool false]⟩),
  (5,⟨TypeDesc.int .u8,1,1,[.int .u8 0]⟩),
  (9,⟨TypeDesc.string,1,16,[.str []]⟩),
  (20,⟨TypeDesc.interface #[],1,16,[.nili]⟩),
  (21,⟨TypeDesc.int .i32,1,4,[.int .i32 0]⟩),
  (22,⟨TypeDesc.slice 52,1,24,[.sl 1 0 (fun _ => []) .nil]⟩),
  (23,⟨TypeDesc.slice 40,1,24,[.sl 1 0 (fun _ => []) .nil]⟩),
  (24,⟨TypeDesc.slice 56,1,24,[.sl 1 0 (fun _ => []) .nil]⟩),
  (25,⟨TypeDesc.slice 59,1,24,[.sl 1 0 (fun _ => []) .nil]⟩),
  (26,⟨Tryz.t26.desc,4,96,[.sl 1 0 (fun _ => []) .nil,.sl 1 0 (fun _ => []) .nil,.sl 1 0 (fun _ => []) .nil,.sl 1 0 (fun _ => []) .nil]⟩),
  (27,⟨Tryz.t26.desc,4,96,[.sl 1 0 (fun _ => []) .nil,.sl 1 0 (fun _ => []) .nil,.sl 1 0 (fun _ => []) .nil,.sl 1 0 (fun _ => []) .nil]⟩),
  (28,⟨TypeDesc.func #[27] #[4] false,1,8,[.nilf]⟩),
  (29,⟨TypeDesc.func #[] #[4] false,1,8,[.nilf]⟩),
  (30,⟨TypeDesc.int .i64,1,8,[.int .i64 0]⟩),
  (31,⟨TypeDesc.func #[27] #[30] false,1,8,[.nilf]⟩),
  (32,⟨TypeDesc.tuple #[3,4],1,0,[.unk]⟩),
  (33,⟨TypeDesc.func #[27,3] #[3,4] false,1,8,[.nilf]⟩),
  (34,⟨TypeDesc.func #[27,3] #[4] false,1,8,[.nilf]⟩),
  (35,⟨TypeDesc.func #[27] #[9] false,1,8,[.nilf]⟩),
  (36,⟨TypeDesc.func #[27,27] #[4] false,1,8,[.nilf]⟩),
  (37,⟨TypeDesc.slice 4,1,24,[.sl 1 0 (fun _ => []) .nil]⟩),
  (38,⟨TypeDesc.slice 46,1,24,[.sl 1 0 (fun _ => []) .nil]⟩),
  (39,⟨Tryz.t39.desc,2,32,[.int .i64 0,.sl 1 0 (fun _ => []) .nil]⟩),
  (40,⟨Tryz.t39.desc,2,32,[.int .i64 0,.sl 1 0 (fun _ => []) .nil]⟩),
  (41,⟨Tryz.t41.desc,3,40,[.str [],.str [],.bool false]⟩),
  (42,⟨Tryz.t41.desc,3,40,[.str [],.str [],.bool false]⟩),
  (43,⟨TypeDesc.func #[27,3,46] #[42] false,1,8,[.nilf]⟩),
  (44,⟨TypeDesc.int .i64,1,8,[.int .i64 0]⟩),
  (45,⟨Tryz.t45.desc,4,32,[.int .i64 0,.int .i64 0,.int .i64 0,.int .i64 0]⟩),
  (46,⟨Tryz.t45.desc,4,32,[.int .i64 0,.int .i64 0,.int .i64 0,.int .i64 0]⟩),
  (47,⟨TypeDesc.func #[27,3,37] #[4] false,1,8,[.nilf]⟩),
  (48,⟨TypeDesc.func #[52,3] #[3] false,1,8,[.nilf]⟩),
  (49,⟨TypeDesc.int .i64,1,8,[.int .i64 0]⟩),
  (50,⟨TypeDesc.slice 3,1,24,[.sl 1 0 (fun _ => []) .nil]⟩),
  (51,⟨Tryz.t51.desc,4,80,[.int .i64 0,.sl 1 0 (fun _ => []) .nil,.sl 1 0 (fun _ => []) .nil,.sl 1 0 (fun _ => []) .nil]⟩),
  (52,⟨Tryz.t51.desc,4,80,[.int .i64 0,.sl 1 0 (fun _ => []) .nil,.sl 1 0 (fun _ => []) .nil,.sl 1 0 (fun _ => []) .nil]⟩),
  (53,⟨TypeDesc.slice 78,1,24,[.sl 1 0 (fun _ => []) .nil]⟩),
  (54,⟨TypeDesc.int .i64,1,8,[.int .i64 0]⟩),
  (55,⟨Tryz.t55.desc,4,48,[.int .i64 0,.sl 1 0 (fun _ => []) .nil,.int .i64 0,.int .i64 0]⟩),
  (56,⟨Tryz.t55.desc,4,48,[.int .i64 0,.sl 1 0 (fun _ => []) .nil,.int .i64 0,.int .i64 0]⟩),
  (57,⟨TypeDesc.slice 82,1,24,[.sl 1 0 (fun _ => []) .nil]⟩),
  (58,⟨Tryz.t58.desc,2,32,[.int .i64 0,.sl 1 0 (fun _ => []) .nil]⟩),
  (59,⟨Tryz.t58.desc,2,32,[.int .i64 0,.sl 1 0 (fun _ => []) .nil]⟩),
  (60,⟨TypeDesc.func #[44] #[27] false,1,8,[.nilf]⟩),
  (61,⟨TypeDesc.func #[22,63] #[4] false,1,8,[.nilf]⟩),
  (62,⟨TypeDesc.func #[52] #[30] false,1,8,[.nilf]⟩),
  (63,⟨TypeDesc.func #[52] #[4] false,1,8,[.nilf]⟩),
  (64,⟨TypeDesc.func #[24,65] #[4] false,1,8,[.nilf]⟩),
  (65,⟨TypeDesc.func #[56] #[4] false,1,8,[.nilf]⟩),
  (66,⟨TypeDesc.pointer 69,1,8,[.nilp]⟩),
  (67,⟨TypeDesc.slice 5,1,24,[.sl 1 0 (fun _ => []) .nil]⟩),
  (68,⟨Tryz.t68.desc,2,32,[.nilp,.sl 1 0 (fun _ => []) .nil]⟩),
  (69,⟨Tryz.t68.desc,2,32,[.nilp,.sl 1 0 (fun _ => []) .nil]⟩),
  (70, ⟨TypeDesc.interface #[("Error", 83)], 1, 16, [.nili]⟩),
  (71, ⟨TypeDesc.interface #[("Error", 83)], 1, 16, [.nili]⟩),
  (72,⟨TypeDesc.tuple #[3,71],1,0,[.unk]⟩),
  (73,⟨TypeDesc.func #[9] #[3,71] false,1,8,[.nilf]⟩),
  (74,⟨TypeDesc.func #[9,117] #[9] true,1,8,[.nilf]⟩),
  (75,⟨TypeDesc.func #[52] #[9] false,1,8,[.nilf]⟩),
  (76,⟨TypeDesc.func #[3,46] #[9] false,1,8,[.nilf]⟩),
  (77,⟨Tryz.t77.desc,4,32,[.int .i64 0,.int .i64 0,.int .i64 0,.int .i64 0]⟩),
  (78,⟨Tryz.t77.desc,4,32,[.int .i64 0,.int .i64 0,.int .i64 0,.int .i64 0]⟩),
  (79,⟨TypeDesc.func #[3] #[9] false,1,8,[.nilf]⟩),
  (80,⟨TypeDesc.int .i64,1,8,[.int .i64 0]⟩),
  (81,⟨Tryz.t81.desc,6,48,[.int .i64 0,.int .i64 0,.int .i64 0,.int .i64 0,.int .i64 0,.int .i64 0]⟩),
  (82,⟨Tryz.t81.desc,6,48,[.int .i64 0,.int .i64 0,.int .i64 0,.int .i64 0,.int .i64 0,.int .i64 0]⟩),
  (83,⟨TypeDesc.func #[] #[9] false,1,8,[.nilf]⟩),
  (84,⟨TypeDesc.func #[3,56] #[9] false,1,8,[.nilf]⟩),
  (85,⟨TypeDesc.func #[3,59] #[9] false,1,8,[.nilf]⟩),
  (86,⟨TypeDesc.func #[22,22,87] #[4] false,1,8,[.nilf]⟩),
  (87,⟨TypeDesc.func #[52,52] #[4] false,1,8,[.nilf]⟩),
  (88,⟨TypeDesc.func #[23,23,90] #[4] false,1,8,[.nilf]⟩),
  (89,⟨TypeDesc.func #[38,38] #[4] false,1,8,[.nilf]⟩),
  (90,⟨TypeDesc.func #[40,40] #[4] false,1,8,[.nilf]⟩),
  (91,⟨TypeDesc.func #[24,24,93] #[4] false,1,8,[.nilf]⟩),
  (92,⟨TypeDesc.func #[53,53] #[4] false,1,8,[.nilf]⟩),
  (93,⟨TypeDesc.func #[56,56] #[4] false,1,8,[.nilf]⟩),
  (94,⟨TypeDesc.func #[25,25,96] #[4] false,1,8,[.nilf]⟩),
  (95,⟨TypeDesc.func #[57,57] #[4] false,1,8,[.nilf]⟩),
  (96,⟨TypeDesc.func #[59,59] #[4] false,1,8,[.nilf]⟩),
  (97,⟨TypeDesc.func #[23,23] #[4] false,1,8,[.nilf]⟩),
  (98,⟨TypeDesc.func #[24,24] #[4] false,1,8,[.nilf]⟩),
  (99,⟨TypeDesc.func #[25,25] #[4] false,1,8,[.nilf]⟩),
  (100,⟨TypeDesc.func #[3,3,3] #[4] false,1,8,[.nilf]⟩),
  (101,⟨TypeDesc.func #[9,3] #[9] false,1,8,[.nilf]⟩),
  (102,⟨TypeDesc.func #[3] #[4] false,1,8,[.nilf]⟩),
  (103,⟨TypeDesc.func #[46,4] #[42] false,1,8,[.nilf]⟩),
  (104,⟨TypeDesc.func #[22,63] #[3] false,1,8,[.nilf]⟩),
  (105,⟨TypeDesc.func #[52] #[30,3,3] false,1,8,[.nilf]⟩),
  (106,⟨TypeDesc.tuple #[30,3,3],1,0,[.unk]⟩),
  (107,⟨TypeDesc.func #[24,65] #[3] false,1,8,[.nilf]⟩),
  (108,⟨Tryz.t108.desc,3,40,[.str [],.str [],.bool false]⟩),
  (109,⟨Tryz.t108.desc,3,40,[.str [],.str [],.bool false]⟩),
  (110,⟨TypeDesc.func #[27,3,46] #[109] false,1,8,[.nilf]⟩),
  (111,⟨TypeDesc.tuple #[67,4],1,0,[.unk]⟩),
  (112,⟨TypeDesc.func #[67,109] #[67,4] false,1,8,[.nilf]⟩),
  (113,⟨TypeDesc.tuple #[30,3],1,0,[.unk]⟩),
  (114,⟨TypeDesc.func #[52] #[30,3] false,1,8,[.nilf]⟩),
  (115,⟨TypeDesc.tuple #[9,4],1,0,[.unk]⟩),
  (116,⟨TypeDesc.func #[9,42] #[9,4] false,1,8,[.nilf]⟩),
  (117,⟨TypeDesc.slice 20,1,24,[.sl 1 0 (fun _ => []) .nil]⟩),
  (118,⟨TypeDesc.func #[44] #[9] false,1,8,[.nilf]⟩),
  (119,⟨TypeDesc.pointer 5,1,8,[.nilp]⟩),
  (120,⟨TypeDesc.func #[50,50] #[4] false,1,8,[.nilf]⟩),
  (121,⟨TypeDesc.func #[50,102] #[4] false,1,8,[.nilf]⟩),
  (122,⟨TypeDesc.func #[50] #[4] false,1,8,[.nilf]⟩),
  (123,⟨TypeDesc.func #[50] #[3] false,1,8,[.nilf]⟩),
  (124,⟨TypeDesc.func #[46] #[109] false,1,8,[.nilf]⟩),
  (125,⟨TypeDesc.func #[46,4] #[109] false,1,8,[.nilf]⟩),
  (126,⟨TypeDesc.func #[50] #[30] false,1,8,[.nilf]⟩),
  (127,⟨TypeDesc.func #[52] #[3] false,1,8,[.nilf]⟩),
  (128,⟨TypeDesc.unsafePointer,1,8,[.nilp]⟩),
  (129,⟨TypeDesc.func #[128] #[128] false,1,8,[.nilf]⟩),
  (130,⟨TypeDesc.func #[21,50] #[9] true,1,8,[.nilf]⟩),
  (131,⟨TypeDesc.func #[136] #[9] true,1,8,[.nilf]⟩),
  (132,⟨TypeDesc.func #[52] #[52] false,1,8,[.nilf]⟩),
  (133,⟨TypeDesc.func #[52,3] #[52] false,1,8,[.nilf]⟩),
  (134,⟨TypeDesc.func #[50] #[9] false,1,8,[.nilf]⟩),
  (135,⟨TypeDesc.array 28 9,28,448,[.str [],.str [],.str [],.str [],.str [],.str [],.str [],.str [],.str [],.str [],.str [],.str [],.str [],.str [],.str [],.str [],.str [],.str [],.str [],.str [],.str [],.str [],.str [],.str [],.str [],.str [],.str [],.str []]⟩),
  (136,⟨TypeDesc.slice 9,1,24,[.sl 1 0 (fun _ => []) .nil]⟩),
  (137,⟨TypeDesc.func #[50,102] #[3] false,1,8,[.nilf]⟩),
  (138,⟨TypeDesc.int .i64,1,8,[.int .i64 0]⟩),
  (139,⟨TypeDesc.func #[21,21] #[9] false,1,8,[.nilf]⟩),
  (140,⟨TypeDesc.func #[136,9] #[9] false,1,8,[.nilf]⟩),
  (141,⟨TypeDesc.func #[5] #[71] false,1,8,[.nilf]⟩),
  (142,⟨TypeDesc.func #[2,3] #[9] false,1,8,[.nilf]⟩),
  (143,⟨TypeDesc.func #[3,3] #[9] false,1,8,[.nilf]⟩),
  (144,⟨TypeDesc.func #[50,3] #[4] false,1,8,[.nilf]⟩),
  (145,⟨TypeDesc.int .u64,1,8,[.int .u64 0]⟩),
  (146,⟨TypeDesc.tuple #[145,145],1,0,[.unk]⟩),
  (147,⟨TypeDesc.func #[145,145] #[145,145] false,1,8,[.nilf]⟩),
  (148,⟨TypeDesc.func #[9,9] #[4] false,1,8,[.nilf]⟩),
  (149,⟨TypeDesc.func #[3] #[] false,1,8,[.nilf]⟩),
  (150,⟨TypeDesc.func #[] #[3] false,1,8,[.nilf]⟩),
  (151,⟨TypeDesc.array 24 5,24,24,[.int .u8 0,.int .u8 0,.int .u8 0,.int .u8 0,.int .u8 0,.int .u8 0,.int .u8 0,.int .u8 0,.int .u8 0,.int .u8 0,.int .u8 0,.int .u8 0,.int .u8 0,.int .u8 0,.int .u8 0,.int .u8 0,.int .u8 0,.int .u8 0,.int .u8 0,.int .u8 0,.int .u8 0,.int .u8 0,.int .u8 0,.int .u8 0]⟩),
  (152,⟨TypeDesc.int .u64,1,8,[.int .u64 0]⟩),
  (153,⟨TypeDesc.func #[152] #[3] false,1,8,[.nilf]⟩),
  (154,⟨TypeDesc.func #[67,152] #[] false,1,8,[.nilf]⟩),
  (155,⟨TypeDesc.tuple #[67,9],1,0,[.unk]⟩),
  (156,⟨TypeDesc.func #[67,152,3,4,4] #[67,9] false,1,8,[.nilf]⟩),
  (157,⟨TypeDesc.func #[3] #[3] false,1,8,[.nilf]⟩),
  (158,⟨TypeDesc.func #[50,3] #[3] false,1,8,[.nilf]⟩),
  (159,⟨TypeDesc.int .u32,1,4,[.int .u32 0]⟩),
  (160,⟨TypeDesc.tuple #[159,159],1,0,[.unk]⟩),
  (161,⟨TypeDesc.func #[159,159] #[159,159] false,1,8,[.nilf]⟩),
  (162,⟨TypeDesc.tuple #[152,152],1,0,[.unk]⟩),
  (163,⟨TypeDesc.func #[152,152] #[152,152] false,1,8,[.nilf]⟩),
  (164,⟨TypeDesc.func #[4] #[3] false,1,8,[.nilf]⟩),
  (165,⟨TypeDesc.array 20 152,20,160,[.int .u64 0,.int .u64 0,.int .u64 0,.int .u64 0,.int .u64 0,.int .u64 0,.int .u64 0,.int .u64 0,.int .u64 0,.int .u64 0,.int .u64 0,.int .u64 0,.int .u64 0,.int .u64 0,.int .u64 0,.int .u64 0,.int .u64 0,.int .u64 0,.int .u64 0,.int .u64 0]⟩),
  (166,⟨TypeDesc.array 65 5,65,65,List.replicate 65 (.int .u8 0)⟩),
  (167,⟨TypeDesc.func #[145] #[3] false,1,8,[.nilf]⟩),
  (168,⟨TypeDesc.func #[3] #[67] false,1,8,[.nilf]⟩),
  (169,⟨TypeDesc.func #[159] #[3] false,1,8,[.nilf]⟩)]
theorem tab_ok:TabOk Tryz.prog (tabGet tab) :=
  TabOk.cons (ti := ⟨_,_,_,_⟩) Tryz.underlying0 (by kernel_rfl) <|
  TabOk.cons (ti := ⟨_,_,_,_⟩) Tryz.underlying1 (by kernel_rfl) <|
  TabOk.cons (ti := ⟨_,_,_,_⟩) Tryz.underlying2 (by kernel_rfl) <|
  TabOk.cons (ti := ⟨_,_,_,_⟩) Tryz.underlying3 (by kernel_rfl) <|
  TabOk.cons (ti := ⟨_,_,_,_⟩) Tryz.underlying4 (by kernel_rfl) <|
  TabOk.cons (ti := ⟨_,_,_,_⟩) Tryz.underlying5 (by kernel_rfl) <|
  TabOk.cons (ti := ⟨_,_,_,_⟩) Tryz.underlying9 (by kernel_rfl) <|
  TabOk.cons (ti := ⟨_,_,_,_⟩) Tryz.underlying20 (by kernel_rfl) <|
  TabOk.cons (ti := ⟨_,_,_,_⟩) Tryz.underlying21 (by kernel_rfl) <|
  TabOk.cons (ti := ⟨_,_,_,_⟩) Tryz.underlying22 (by kernel_rfl) <|
  TabOk.cons (ti := ⟨_,_,_,_⟩) Tryz.underlying23 (by kernel_rfl) <|
  TabOk.cons (ti := ⟨_,_,_,_⟩) Tryz.underlying24 (by kernel_rfl) <|
  TabOk.cons (ti := ⟨_,_,_,_⟩) Tryz.underlying25 (by kernel_rfl) <|
  TabOk.cons (ti := ⟨_,_,_,_⟩) Tryz.underlying26 (by kernel_rfl) <|
  TabOk.cons (ti := ⟨_,_,_,_⟩) Tryz.underlying27 (by kernel_rfl) <|
  TabOk.cons (ti := ⟨_,_,_,_⟩) Tryz.underlying28 (by kernel_rfl) <|
  TabOk.cons (ti := ⟨_,_,_,_⟩) Tryz.underlying29 (by kernel_rfl) <|
  TabOk.cons (ti := ⟨_,_,_,_⟩) Tryz.underlying30 (by kernel_rfl) <|
  TabOk.cons (ti := ⟨_,_,_,_⟩) Tryz.underlying31 (by kernel_rfl) <|
  TabOk.cons (ti := ⟨_,_,_,_⟩) Tryz.underlying32 (by kernel_rfl) <|
  TabOk.cons (ti := ⟨_,_,_,_⟩) Tryz.underlying33 (by kernel_rfl) <|
  TabOk.cons (ti := ⟨_,_,_,_⟩) Tryz.underlying34 (by kernel_rfl) <|
  TabOk.cons (ti := ⟨_,_,_,_⟩) Tryz.underlying35 (by kernel_rfl) <|
  TabOk.cons (ti := ⟨_,_,_,_⟩) Tryz.underlying36 (by kernel_rfl) <|
  TabOk.cons (ti := ⟨_,_,_,_⟩) Tryz.underlying37 (by kernel_rfl) <|
  TabOk.cons (ti := ⟨_,_,_,_⟩) Tryz.underlying38 (by kernel_rfl) <|
  TabOk.cons (ti := ⟨_,_,_,_⟩) Tryz.underlying39 (by kernel_rfl) <|
  TabOk.cons (ti := ⟨_,_,_,_⟩) Tryz.underlying40 (by kernel_rfl) <|
  TabOk.cons (ti := ⟨_,_,_,_⟩) Tryz.underlying41 (by kernel_rfl) <|
  TabOk.cons (ti := ⟨_,_,_,_⟩) Tryz.underlying42 (by kernel_rfl) <|
  TabOk.cons (ti := ⟨_,_,_,_⟩) Tryz.underlying43 (by kernel_rfl) <|
  TabOk.cons (ti := ⟨_,_,_,_⟩) Tryz.underlying44 (by kernel_rfl) <|
  TabOk.cons (ti := ⟨_,_,_,_⟩) Tryz.underlying45 (by kernel_rfl) <|
  TabOk.cons (ti := ⟨_,_,_,_⟩) Tryz.underlying46 (by kernel_rfl) <|
  TabOk.cons (ti := ⟨_,_,_,_⟩) Tryz.underlying47 (by kernel_rfl) <|
  TabOk.cons (ti := ⟨_,_,_,_⟩) Tryz.underlying48 (by kernel_rfl) <|
  TabOk.cons (ti := ⟨_,_,_,_⟩) Tryz.underlying49 (by kernel_rfl) <|
  TabOk.cons (ti := ⟨_,_,_,_⟩) Tryz.underlying50 (by kernel_rfl) <|
  TabOk.cons (ti := ⟨_,_,_,_⟩) Tryz.underlying51 (by kernel_rfl) <|
  TabOk.cons (ti := ⟨_,_,_,_⟩) Tryz.underlying52 (by kernel_rfl) <|
  TabOk.cons (ti := ⟨_,_,_,_⟩) Tryz.underlying53 (by kernel_rfl) <|
  TabOk.cons (ti := ⟨_,_,_,_⟩) Tryz.underlying54 (by kernel_rfl) <|
  TabOk.cons (ti := ⟨_,_,_,_⟩) Tryz.underlying55 (by kernel_rfl) <|
  TabOk.cons (ti := ⟨_,_,_,_⟩) Tryz.underlying56 (by kernel_rfl) <|
  TabOk.cons (ti := ⟨_,_,_,_⟩) Tryz.underlying57 (by kernel_rfl) <|
  TabOk.cons (ti := ⟨_,_,_,_⟩) Tryz.underlying58 (by kernel_rfl) <|
  TabOk.cons (ti := ⟨_,_,_,_⟩) Tryz.underlying59 (by kernel_rfl) <|
  TabOk.cons (ti := ⟨_,_,_,_⟩) Tryz.underlying60 (by kernel_rfl) <|
  TabOk.cons (ti := ⟨_,_,_,_⟩) Tryz.underlying61 (by kernel_rfl) <|
  TabOk.cons (ti := ⟨_,_,_,_⟩) Tryz.underlying62 (by kernel_rfl) <|
  TabOk.cons (ti := ⟨_,_,_,_⟩) Tryz.underlying63 (by kernel_rfl) <|
  TabOk.cons (ti := ⟨_,_,_,_⟩) Tryz.underlying64 (by kernel_rfl) <|
  TabOk.cons (ti := ⟨_,_,_,_⟩) Tryz.underlying65 (by kernel_rfl) <|
  TabOk.cons (ti := ⟨_,_,_,_⟩) Tryz.underlying66 (by kernel_rfl) <|
  TabOk.cons (ti := ⟨_,_,_,_⟩) Tryz.underlying67 (by kernel_rfl) <|
  TabOk.cons (ti := ⟨_,_,_,_⟩) Tryz.underlying68 (by kernel_rfl) <|
  TabOk.cons (ti := ⟨_,_,_,_⟩) Tryz.underlying69 (by kernel_rfl) <|
  TabOk.cons (ti := ⟨_,_,_,_⟩) Tryz.underlying70 (by kernel_rfl) <|
  TabOk.cons (ti := ⟨_,_,_,_⟩) Tryz.underlying71 (by kernel_rfl) <|
  TabOk.cons (ti := ⟨_,_,_,_⟩) Tryz.underlying72 (by kernel_rfl) <|
  TabOk.cons (ti := ⟨_,_,_,_⟩) Tryz.underlying73 (by kernel_rfl) <|
  TabOk.cons (ti := ⟨_,_,_,_⟩) Tryz.underlying74 (by kernel_rfl) <|
  TabOk.cons (ti := ⟨_,_,_,_⟩) Tryz.underlying75 (by kernel_rfl) <|
  TabOk.cons (ti := ⟨_,_,_,_⟩) Tryz.underlying76 (by kernel_rfl) <|
  TabOk.cons (ti := ⟨_,_,_,_⟩) Tryz.underlying77 (by kernel_rfl) <|
  TabOk.cons (ti := ⟨_,_,_,_⟩) Tryz.underlying78 (by kernel_rfl) <|
  TabOk.cons (ti := ⟨_,_,_,_⟩) Tryz.underlying79 (by kernel_rfl) <|
  TabOk.cons (ti := ⟨_,_,_,_⟩) Tryz.underlying80 (by kernel_rfl) <|
  TabOk.cons (ti := ⟨_,_,_,_⟩) Tryz.underlying81 (by kernel_rfl) <|
  TabOk.cons (ti := ⟨_,_,_,_⟩) Tryz.underlying82 (by kernel_rfl) <|
  TabOk.cons (ti := ⟨_,_,_,_⟩) Tryz.underlying83 (by kernel_rfl) <|
  TabOk.cons (ti := ⟨_,_,_,_⟩) Tryz.underlying84 (by kernel_rfl) <|
  TabOk.cons (ti := ⟨_,_,_,_⟩) Tryz.underlying85 (by kernel_rfl) <|
  TabOk.cons (ti := ⟨_,_,_,_⟩) Tryz.underlying86 (by kernel_rfl) <|
  TabOk.cons (ti := ⟨_,_,_,_⟩) Tryz.underlying87 (by kernel_rfl) <|
  TabOk.cons (ti := ⟨_,_,_,_⟩) Tryz.underlying88 (by kernel_rfl) <|
  TabOk.cons (ti := ⟨_,_,_,_⟩) Tryz.underlying89 (by kernel_rfl) <|
  TabOk.cons (ti := ⟨_,_,_,_⟩) Tryz.underlying90 (by kernel_rfl) <|
  TabOk.cons (ti := ⟨_,_,_,_⟩) Tryz.underlying91 (by kernel_rfl) <|
  TabOk.cons (ti := ⟨_,_,_,_⟩) Tryz.underlying92 (by kernel_rfl) <|
  TabOk.cons (ti := ⟨_,_,_,_⟩) Tryz.underlying93 (by kernel_rfl) <|
  TabOk.cons (ti := ⟨_,_,_,_⟩) Tryz.underlying94 (by kernel_rfl) <|
  TabOk.cons (ti := ⟨_,_,_,_⟩) Tryz.underlying95 (by kernel_rfl) <|
  TabOk.cons (ti := ⟨_,_,_,_⟩) Tryz.underlying96 (by kernel_rfl) <|
  TabOk.cons (ti := ⟨_,_,_,_⟩) Tryz.underlying97 (by kernel_rfl) <|
  TabOk.cons (ti := ⟨_,_,_,_⟩) Tryz.underlying98 (by kernel_rfl) <|
  TabOk.cons (ti := ⟨_,_,_,_⟩) Tryz.underlying99 (by kernel_rfl) <|
  TabOk.cons (ti := ⟨_,_,_,_⟩) Tryz.underlying100 (by kernel_rfl) <|
  TabOk.cons (ti := ⟨_,_,_,_⟩) Tryz.underlying101 (by kernel_rfl) <|
  TabOk.cons (ti := ⟨_,_,_,_⟩) Tryz.underlying102 (by kernel_rfl) <|
  TabOk.cons (ti := ⟨_,_,_,_⟩) Tryz.underlying103 (by kernel_rfl) <|
  TabOk.cons (ti := ⟨_,_,_,_⟩) Tryz.underlying104 (by kernel_rfl) <|
  TabOk.cons (ti := ⟨_,_,_,_⟩) Tryz.underlying105 (by kernel_rfl) <|
  TabOk.cons (ti := ⟨_,_,_,_⟩) Tryz.underlying106 (by kernel_rfl) <|
  TabOk.cons (ti := ⟨_,_,_,_⟩) Tryz.underlying107 (by kernel_rfl) <|
  TabOk.cons (ti := ⟨_,_,_,_⟩) Tryz.underlying108 (by kernel_rfl) <|
  TabOk.cons (ti := ⟨_,_,_,_⟩) Tryz.underlying109 (by kernel_rfl) <|
  TabOk.cons (ti := ⟨_,_,_,_⟩) Tryz.underlying110 (by kernel_rfl) <|
  TabOk.cons (ti := ⟨_,_,_,_⟩) Tryz.underlying111 (by kernel_rfl) <|
  TabOk.cons (ti := ⟨_,_,_,_⟩) Tryz.underlying112 (by kernel_rfl) <|
  TabOk.cons (ti := ⟨_,_,_,_⟩) Tryz.underlying113 (by kernel_rfl) <|
  TabOk.cons (ti := ⟨_,_,_,_⟩) Tryz.underlying114 (by kernel_rfl) <|
  TabOk.cons (ti := ⟨_,_,_,_⟩) Tryz.underlying115 (by kernel_rfl) <|
  TabOk.cons (ti := ⟨_,_,_,_⟩) Tryz.underlying116 (by kernel_rfl) <|
  TabOk.cons (ti := ⟨_,_,_,_⟩) Tryz.underlying117 (by kernel_rfl) <|
  TabOk.cons (ti := ⟨_,_,_,_⟩) Tryz.underlying118 (by kernel_rfl) <|
  TabOk.cons (ti := ⟨_,_,_,_⟩) Tryz.underlying119 (by kernel_rfl) <|
  TabOk.cons (ti := ⟨_,_,_,_⟩) Tryz.underlying120 (by kernel_rfl) <|
  TabOk.cons (ti := ⟨_,_,_,_⟩) Tryz.underlying121 (by kernel_rfl) <|
  TabOk.cons (ti := ⟨_,_,_,_⟩) Tryz.underlying122 (by kernel_rfl) <|
  TabOk.cons (ti := ⟨_,_,_,_⟩) Tryz.underlying123 (by kernel_rfl) <|
  TabOk.cons (ti := ⟨_,_,_,_⟩) Tryz.underlying124 (by kernel_rfl) <|
  TabOk.cons (ti := ⟨_,_,_,_⟩) Tryz.underlying125 (by kernel_rfl) <|
  TabOk.cons (ti := ⟨_,_,_,_⟩) Tryz.underlying126 (by kernel_rfl) <|
  TabOk.cons (ti := ⟨_,_,_,_⟩) Tryz.underlying127 (by kernel_rfl) <|
  TabOk.cons (ti := ⟨_,_,_,_⟩) Tryz.underlying128 (by kernel_rfl) <|
  TabOk.cons (ti := ⟨_,_,_,_⟩) Tryz.underlying129 (by kernel_rfl) <|
  TabOk.cons (ti := ⟨_,_,_,_⟩) Tryz.underlying130 (by kernel_rfl) <|
  TabOk.cons (ti := ⟨_,_,_,_⟩) Tryz.underlying131 (by kernel_rfl) <|
  TabOk.cons (ti := ⟨_,_,_,_⟩) Tryz.underlying132 (by kernel_rfl) <|
  TabOk.cons (ti := ⟨_,_,_,_⟩) Tryz.underlying133 (by kernel_rfl) <|
  TabOk.cons (ti := ⟨_,_,_,_⟩) Tryz.underlying134 (by kernel_rfl) <|
  TabOk.cons (ti := ⟨_,_,_,_⟩) Tryz.underlying135 (by kernel_rfl) <|
  TabOk.cons (ti := ⟨_,_,_,_⟩) Tryz.underlying136 (by kernel_rfl) <|
  TabOk.cons (ti := ⟨_,_,_,_⟩) Tryz.underlying137 (by kernel_rfl) <|
  TabOk.cons (ti := ⟨_,_,_,_⟩) Tryz.underlying138 (by kernel_rfl) <|
  TabOk.cons (ti := ⟨_,_,_,_⟩) Tryz.underlying139 (by kernel_rfl) <|
  TabOk.cons (ti := ⟨_,_,_,_⟩) Tryz.underlying140 (by kernel_rfl) <|
  TabOk.cons (ti := ⟨_,_,_,_⟩) Tryz.underlying141 (by kernel_rfl) <|
  TabOk.cons (ti := ⟨_,_,_,_⟩) Tryz.underlying142 (by kernel_rfl) <|
  TabOk.cons (ti := ⟨_,_,_,_⟩) Tryz.underlying143 (by kernel_rfl) <|
  TabOk.cons (ti := ⟨_,_,_,_⟩) Tryz.underlying144 (by kernel_rfl) <|
  TabOk.cons (ti := ⟨_,_,_,_⟩) Tryz.underlying145 (by kernel_rfl) <|
  TabOk.cons (ti := ⟨_,_,_,_⟩) Tryz.underlying146 (by kernel_rfl) <|
  TabOk.cons (ti := ⟨_,_,_,_⟩) Tryz.underlying147 (by kernel_rfl) <|
  TabOk.cons (ti := ⟨_,_,_,_⟩) Tryz.underlying148 (by kernel_rfl) <|
  TabOk.cons (ti := ⟨_,_,_,_⟩) Tryz.underlying149 (by kernel_rfl) <|
  TabOk.cons (ti := ⟨_,_,_,_⟩) Tryz.underlying150 (by kernel_rfl) <|
  TabOk.cons (ti := ⟨_,_,_,_⟩) Tryz.underlying151 (by kernel_rfl) <|
  TabOk.cons (ti := ⟨_,_,_,_⟩) Tryz.underlying152 (by kernel_rfl) <|
  TabOk.cons (ti := ⟨_,_,_,_⟩) Tryz.underlying153 (by kernel_rfl) <|
  TabOk.cons (ti := ⟨_,_,_,_⟩) Tryz.underlying154 (by kernel_rfl) <|
  TabOk.cons (ti := ⟨_,_,_,_⟩) Tryz.underlying155 (by kernel_rfl) <|
  TabOk.cons (ti := ⟨_,_,_,_⟩) Tryz.underlying156 (by kernel_rfl) <|
  TabOk.cons (ti := ⟨_,_,_,_⟩) Tryz.underlying157 (by kernel_rfl) <|
  TabOk.cons (ti := ⟨_,_,_,_⟩) Tryz.underlying158 (by kernel_rfl) <|
  TabOk.cons (ti := ⟨_,_,_,_⟩) Tryz.underlying159 (by kernel_rfl) <|
  TabOk.cons (ti := ⟨_,_,_,_⟩) Tryz.underlying160 (by kernel_rfl) <|
  TabOk.cons (ti := ⟨_,_,_,_⟩) Tryz.underlying161 (by kernel_rfl) <|
  TabOk.cons (ti := ⟨_,_,_,_⟩) Tryz.underlying162 (by kernel_rfl) <|
  TabOk.cons (ti := ⟨_,_,_,_⟩) Tryz.underlying163 (by kernel_rfl) <|
  TabOk.cons (ti := ⟨_,_,_,_⟩) Tryz.underlying164 (by kernel_rfl) <|
  TabOk.cons (ti := ⟨_,_,_,_⟩) Tryz.underlying165 (by kernel_rfl) <|
  TabOk.cons (ti := ⟨_,_,_,_⟩) Tryz.underlying166 (by kernel_rfl) <|
  TabOk.cons (ti := ⟨_,_,_,_⟩) Tryz.underlying167 (by kernel_rfl) <|
  TabOk.cons (ti := ⟨_,_,_,_⟩) Tryz.underlying168 (by kernel_rfl) <|
  TabOk.cons (ti := ⟨_,_,_,_⟩) Tryz.underlying169 (by kernel_rfl) <|
  TabOk.nil _
end Go.Proofs.YtflbmbkhjcbhoaaGreatDoor
namespace Go.Proofs.YtflbmbkhjcbhoaaGreatDoor
open Go Go.Ab
noncomputable def frames:List (Nat × Frm) := [
  (3,{ fn := Tryz.f3,n := 15,V := 3,cross := [5],ord := fun id => match id with | 3 => ([0,2,1,3,4,5,6,7,8],[1,3,6]) | _ => ([],[]) }),
  (4,{ fn := Tryz.f4,n := 36,V := 3,cross := [4,5,6,7,8,11],ord := fun _ => ([],[]) }),
  (5,{ fn := Tryz.f5,n := 15,V := 3,cross := [5],ord := fun id => match id with | 3 => ([0,2,1,3,4,5,6,7,8],[1,3,6]) | _ => ([],[]) }),
  (6,{ fn := Tryz.f6,n := 48,V := 6,cross := [13,35],ord := fun id => match id with | 6 => ([0,1,2,3,5,4,6,7,8,9,10,11,12],[4,6,10]) | _ => ([],[]) }),
  (7,{ fn := Tryz.f7,n := 114,V := 4,cross := [6,7,8,9,10,11,12,13,32,43,49,63,74,103,106],ord := fun id => match id with | 10 => ([0,1,2,3,4,5,6,7,8],[6,7,8]) | _ => ([],[]) }),
  (8,{ fn := Tryz.f8,n := 104,V := 8,cross := [31,50,70,90],ord := fun _ => ([],[]) }),
  (9,{ fn := Tryz.f9,n := 44,V := 3,cross := [],ord := fun _ => ([],[]) }),
  (10,{ fn := Tryz.f10,n := 82,V := 4,cross := [5,6,7,8,10,11,12,13,41,44,63,66,69,70,71,80],ord := fun _ => ([],[]) }),
  (11,{ fn := Tryz.f11,n := 108,V := 10,cross := [14,45,50,59,78,83,92,97,107],ord := fun _ => ([],[]) }),
  (12,{ fn := Tryz.f12,n := 25,V := 3,cross := [4,5,19],ord := fun _ => ([],[]) }),
  (13,{ fn := Tryz.f13,n := 25,V := 3,cross := [4,5,19],ord := fun _ => ([],[]) }),
  (14,{ fn := Tryz.f14,n := 175,V := 16,cross := [17,20,22,23,24,25,39,40,41,42,56,57,58,59,70,71,72,73,95,96,97,98,127,128,129,130,144,145,146,147],ord := fun id => match id with | 26 => ([0,1,2,3,6,7,8,9,10,11,12,13,14,15,16,17,18,4,5,19,20,21],[4,19,20,21]) | 36 => ([0,1,4,5,6,7,8,9,10,11,12,13,14,15,16,17,18,2,3,19,20,21],[2,19,20,21]) | _ => ([],[]) }),
  (15,{ fn := Tryz.f15,n := 112,V := 9,cross := [11,16,37,63,83,99],ord := fun id => match id with | 7 => ([0,1,2,6,7,8,9,10,3,4,5,11,12,13,14],[3,11]) | 11 => ([0,1,2,6,7,8,9,10,11,3,4,5,12,13,14,15],[3,12]) | _ => ([],[]) }),
  (16,{ fn := Tryz.f16,n := 31,V := 5,cross := [],ord := fun _ => ([],[]) }),
  (17,{ fn := Tryz.f17,n := 51,V := 6,cross := [12,17,31],ord := fun id => match id with | 6 => ([0,1,2,3,4,5,6,7,8,9,10,11],[10]) | _ => ([],[]) }),
  (18,{ fn := Tryz.f18,n := 242,V := 4,cross := [5,6,8,9,24,35,46,64,74,80,91,102,113,128,139,153,167,177,183,202,227],ord := fun id => match id with | 9 => ([0,1,2,3,4,5,6,7,8,9,10,11,12,13,14,15,16],[13,16]) | 33 => ([0,1,2,3,4,5,6,7,8,9,10,11,12,13,14,15,16,17],[14,17]) | _ => ([],[]) }),
  (19,{ fn := Tryz.f19,n := 41,V := 3,cross := [4,5,6,24],ord := fun _ => ([],[]) }),
  (20,{ fn := Tryz.f20,n := 18,V := 1,cross := [2],ord := fun _ => ([],[]) }),
  (21,{ fn := Tryz.f21,n := 9,V := 2,cross := [4],ord := fun _ => ([],[]) }),
  (22,{ fn := Tryz.f22,n := 6,V := 3,cross := [],ord := fun _ => ([],[]) }),
  (23,{ fn := Tryz.f23,n := 16,V := 7,cross := [],ord := fun _ => ([],[]) }),
  (24,{ fn := Tryz.f24,n := 9,V := 2,cross := [4],ord := fun _ => ([],[]) }),
  (25,{ fn := Tryz.f25,n := 6,V := 3,cross := [],ord := fun _ => ([],[]) }),
  (26,{ fn := Tryz.f26,n := 70,V := 6,cross := [32,34,35,36,37,68],ord := fun _ => ([],[]) }),
  (27,{ fn := Tryz.f27,n := 139,V := 3,cross := [4,5,6,7,8,9,10,11,12,13,14,15,16,17,19,45,49,50,51,52,73,108,116,117,118,119,136],ord := fun _ => ([],[]) }),
  (28,{ fn := Tryz.f28,n := 11,V := 5,cross := [],ord := fun _ => ([],[]) }),
  (29,{ fn := Tryz.f29,n := 75,V := 5,cross := [31,36,74],ord := fun _ => ([],[]) }),
  (30,{ fn := Tryz.f30,n := 144,V := 3,cross := [4,5,6,7,8,9,10,11,12,13,42,46,114,123,142],ord := fun id => match id with | 10 => ([0,1,2,3,4,5,6,7,8,9,10,11,12,13],[7,8]) | _ => ([],[]) }),
  (31,{ fn := Tryz.f31,n := 19,V := 2,cross := [4,5],ord := fun _ => ([],[]) }),
  (32,{ fn := Tryz.f32,n := 36,V := 2,cross := [4,5,7,8,9,11,12,13,14,17,19,20,26,27],ord := fun _ => ([],[]) }),
  (33,{ fn := Tryz.f33,n := 8,V := 3,cross := [5],ord := fun _ => ([],[]) }),
  (34,{ fn := Tryz.f34,n := 55,V := 2,cross := [3,4,5,12,13,25],ord := fun id => match id with | 19 => ([0,3,4,5,6,7,1,2,8,9,10,11],[1,8,9,10]) | _ => ([],[]) }),
  (35,{ fn := Tryz.f35,n := 13,V := 1,cross := [2,3,8],ord := fun _ => ([],[]) }),
  (36,{ fn := Tryz.f36,n := 14,V := 1,cross := [2],ord := fun id => match id with | 1 => ([0,1,2,3,5,6,7,8,9,4,10,11],[4,10]) | _ => ([],[]) }),
  (37,{ fn := Tryz.f37,n := 6,V := 1,cross := [2],ord := fun _ => ([],[]) }),
  (38,{ fn := Tryz.f38,n := 8,V := 3,cross := [5],ord := fun _ => ([],[]) }),
  (39,{ fn := Tryz.f39,n := 53,V := 2,cross := [3,4,5,15,16,28],ord := fun id => match id with | 1 => ([0,4,5,1,2,3,6,7,8],[1,6]) | 5 => ([0,1,2,5,6,3,4,7,8,9],[3,7]) | _ => ([],[]) }),
  (40,{ fn := Tryz.f40,n := 66,V := 2,cross := [3,4,5,6,7,31],ord := fun id => match id with | 1 => ([0,4,5,9,10,14,15,1,2,3,6,7,8,11,12,13,16,17,18,19],[1,6,11,16]) | 6 => ([0,1,2,3,4,5,8,9,12,13,16,17,21,22,6,7,10,11,14,15,18,19,20,23,24,25,26],[6,10,14,18,23]) | _ => ([],[]) }),
  (41,{ fn := Tryz.f41,n := 57,V := 2,cross := [3,4,5,6,7,21],ord := fun id => match id with | 1 => ([0,4,5,1,2,3,6,7,8,9],[1,6]) | 6 => ([0,1,2,3,6,7,10,11,14,15,18,19,22,23,4,5,8,9,12,13,16,17,20,21,24,25,26,27],[4,8,12,16,20,24]) | _ => ([],[]) }),
  (42,{ fn := Tryz.f42,n := 32,V := 3,cross := [6,7,8,9,14,15,16,17,18,30],ord := fun _ => ([],[]) }),
  (43,{ fn := Tryz.f43,n := 31,V := 5,cross := [],ord := fun _ => ([],[]) }),
  (44,{ fn := Tryz.f44,n := 32,V := 3,cross := [6,7,8,9,14,15,16,17,18,30],ord := fun _ => ([],[]) }),
  (45,{ fn := Tryz.f45,n := 17,V := 5,cross := [],ord := fun _ => ([],[]) }),
  (46,{ fn := Tryz.f46,n := 26,V := 2,cross := [4,5,10,12,13,14,24],ord := fun id => match id with | 6 => ([0,1,2,3,4,5,6,7,8],[]) | _ => ([],[]) }),
  (47,{ fn := Tryz.f47,n := 32,V := 3,cross := [6,7,8,9,14,15,16,17,18,30],ord := fun _ => ([],[]) }),
  (48,{ fn := Tryz.f48,n := 31,V := 5,cross := [],ord := fun _ => ([],[]) }),
  (49,{ fn := Tryz.f49,n := 26,V := 2,cross := [4,5,10,12,13,14,24],ord := fun id => match id with | 6 => ([0,1,2,3,4,5,6,7,8],[]) | _ => ([],[]) }),
  (50,{ fn := Tryz.f50,n := 32,V := 3,cross := [6,7,8,9,14,15,16,17,18,30],ord := fun _ => ([],[]) }),
  (51,{ fn := Tryz.f51,n := 17,V := 5,cross := [],ord := fun _ => ([],[]) }),
  (52,{ fn := Tryz.f52,n := 26,V := 2,cross := [4,5,10,12,13,14,24],ord := fun id => match id with | 6 => ([0,1,2,3,4,5,6,7,8],[]) | _ => ([],[]) }),
  (53,{ fn := Tryz.f53,n := 55,V := 6,cross := [35,40,54],ord := fun id => match id with | 6 => ([0,1,2,3,4,5,6,7,8,9,10,11],[10]) | _ => ([],[]) }),
  (54,{ fn := Tryz.f54,n := 71,V := 2,cross := [4,5,6,11,15,43,51,70],ord := fun id => match id with | 6 => ([0,1,2,3,4,5,6,7,8,9,10,11,12,13,14,15,16,17,18,19,20,21,22,23,24,25],[]) | 11 => ([0,1,2,3,4,5,6,7,8,9,10,11,12,13,14,15,16],[]) | _ => ([],[]) }),
  (55,{ fn := Tryz.f55,n := 97,V := 2,cross := [4,5,6,11,15,69,77,96],ord := fun id => match id with | 6 => ([0,1,2,3,4,5,6,7,8,9,10,11,12,13,14,15,16,17,18,19,20,21,22,23,24,25,26,27,28,29,30,31,32,33,34,35,36,37,38,39,40,41,42,43,44,45,46,47,48,49,50,51],[]) | 11 => ([0,1,2,3,4,5,6,7,8,9,10,11,12,13,14,15,16],[]) | _ => ([],[]) }),
  (56,{ fn := Tryz.f56,n := 71,V := 2,cross := [4,5,6,11,15,43,51,70],ord := fun id => match id with | 6 => ([0,1,2,3,4,5,6,7,8,9,10,11,12,13,14,15,16,17,18,19,20,21,22,23,24,25],[]) | 11 => ([0,1,2,3,4,5,6,7,8,9,10,11,12,13,14,15,16],[]) | _ => ([],[]) }),
  (57,{ fn := Tryz.f57,n := 15,V := 3,cross := [6],ord := fun _ => ([],[]) }),
  (58,{ fn := Tryz.f58,n := 16,V := 2,cross := [4,5,6,9],ord := fun _ => ([],[]) }),
  (59,{ fn := Tryz.f59,n := 5,V := 1,cross := [2],ord := fun _ => ([],[]) }),
  (60,{ fn := Tryz.f60,n := 71,V := 3,cross := [4,5,15,16,20,29,39,43,47,51,55,59,63,65],ord := fun _ => ([],[]) }),
  (61,{ fn := Tryz.f61,n := 19,V := 2,cross := [4,5,7,8,9,16],ord := fun _ => ([],[]) }),
  (62,{ fn := Tryz.f62,n := 87,V := 7,cross := [8,9,10,12,13,14,15,19,22,23,24,25,45,55,56,57,58,69,84],ord := fun id => match id with | 10 => ([0,1,2,3,4,5,6,7,8],[]) | _ => ([],[]) }),
  (63,{ fn := Tryz.f63,n := 44,V := 5,cross := [12,13,16,20,25,29,34],ord := fun id => match id with | 1 => ([0,1,2,3,4,5,6,7],[]) | _ => ([],[]) }),
  (64,{ fn := Tryz.f64,n := 9,V := 1,cross := [2],ord := fun _ => ([],[]) }),
  (65,{ fn := Tryz.f65,n := 17,V := 1,cross := [2],ord := fun _ => ([],[]) }),
  (66,{ fn := Tryz.f66,n := 19,V := 2,cross := [4,5,7,8,9,16],ord := fun _ => ([],[]) }),
  (67,{ fn := Tryz.f67,n := 15,V := 3,cross := [6],ord := fun _ => ([],[]) }),
  (68,{ fn := Tryz.f68,n := 5,V := 1,cross := [2],ord := fun _ => ([],[]) }),
  (69,{ fn := Tryz.f69,n := 151,V := 4,cross := [5,6,7,8,10,11,22,33,40,45,55,68,78,84,90,96,106,120,128],ord := fun id => match id with | 16 => ([0,1,2,3,4,5,6,7,8,9,10,11],[9,11]) | 18 => ([0,1,2,4,5,3,6,7,8],[3,6,8]) | 28 => ([0,1,2,3,4,5,6,7,8,9,10,11,12],[10,12]) | _ => ([],[]) }),
  (70,{ fn := Tryz.f70,n := 56,V := 2,cross := [3,4,5,6,17,20,21,22,43],ord := fun id => match id with | 6 => ([0,1,2,3,4,5,6,7,8,9,10,11,12,13,14,15,16,17,18,19],[]) | 9 => ([0,1,2,3,4,5,6,7,8,9,10,11,12],[10]) | _ => ([],[]) }),
  (71,{ fn := Tryz.f71,n := 107,V := 11,cross := [18,23,30,43,48,76,81,94,105],ord := fun id => match id with | 9 => ([0,2,3,1,4,5,6,7,8,9],[1,4]) | _ => ([],[]) }),
  (72,{ fn := Tryz.f72,n := 55,V := 2,cross := [3,4,5,6,17,22,43],ord := fun id => match id with | 6 => ([0,1,2,3,4,5,6,7,8,9,10,11,12,13,14,15,16,17,18],[]) | 8 => ([0,1,2,3,4,5,6,7,8,9,10,11,12],[]) | _ => ([],[]) }),
  (73,{ fn := Tryz.f73,n := 20,V := 1,cross := [6,19],ord := fun _ => ([],[]) }),
  (74,{ fn := Tryz.f74,n := 90,V := 5,cross := [12,27,43,55,71,74,79],ord := fun _ => ([],[]) }),
  (75,{ fn := Tryz.f75,n := 6,V := 1,cross := [2],ord := fun _ => ([],[]) }),
  (76,{ fn := Tryz.f76,n := 5,V := 1,cross := [2],ord := fun _ => ([],[]) }),
  (77,{ fn := Tryz.f77,n := 32,V := 1,cross := [2,4,6,20],ord := fun _ => ([],[]) }),
  (78,{ fn := Tryz.f78,n := 64,V := 5,cross := [8,19,31,39,46],ord := fun _ => ([],[]) }),
  (79,{ fn := Tryz.f79,n := 7,V := 1,cross := [2],ord := fun _ => ([],[]) }),
  (80,{ fn := Tryz.f80,n := 26,V := 2,cross := [4,5,10,12,13,14,24],ord := fun id => match id with | 6 => ([0,1,2,3,4,5,6,7,8],[]) | _ => ([],[]) }),
  (81,{ fn := Tryz.f81,n := 26,V := 2,cross := [4,5,10,14,25],ord := fun id => match id with | 6 => ([0,1,2,3,4,5,6,7,8],[]) | _ => ([],[]) }),
  (82,{ fn := Tryz.f82,n := 9,V := 2,cross := [4],ord := fun _ => ([],[]) }),
  (83,{ fn := Tryz.f83,n := 5,V := 1,cross := [2],ord := fun _ => ([],[]) }),
  (84,{ fn := Tryz.f84,n := 31,V := 1,cross := [2,3,5,8,9,10,11,12,15,22,29],ord := fun _ => ([],[]) }),
  (85,{ fn := Tryz.f85,n := 8,V := 1,cross := [2,5],ord := fun _ => ([],[]) }),
  (86,{ fn := Tryz.f86,n := 55,V := 4,cross := [7,8,22,37,38,46],ord := fun id => match id with | 6 => ([0,1,2,4,5,3,6,7,8,9,10,11,12,13],[3,6,13]) | _ => ([],[]) }),
  (87,{ fn := Tryz.f87,n := 9,V := 2,cross := [4],ord := fun _ => ([],[]) }),
  (88,{ fn := Tryz.f88,n := 73,V := 3,cross := [4,5,15,16,18,20,22,25,27,29,31,33,35,37,39,67],ord := fun _ => ([],[]) }),
  (89,{ fn := Tryz.f89,n := 21,V := 1,cross := [2,3,6,10,17,20],ord := fun _ => ([],[]) }),
  (90,{ fn := Tryz.f90,n := 16,V := 3,cross := [4,5,11],ord := fun _ => ([],[]) }),
  (91,{ fn := Tryz.f91,n := 17,V := 1,cross := [2,3,7,14],ord := fun _ => ([],[]) }),
  (92,{ fn := Tryz.f92,n := 9,V := 1,cross := [2],ord := fun _ => ([],[]) }),
  (93,{ fn := Tryz.f93,n := 17,V := 1,cross := [2],ord := fun _ => ([],[]) }),
  (94,{ fn := Tryz.f94,n := 33,V := 5,cross := [20],ord := fun _ => ([],[]) }),
  (96,{ fn := Tryz.f96,n := 27,V := 2,cross := [4,5,7,10,11,12,13],ord := fun _ => ([],[]) }),
  (97,{ fn := Tryz.f97,n := 5,V := 1,cross := [2],ord := fun _ => ([],[]) }),
  (98,{ fn := Tryz.f98,n := 44,V := 4,cross := [5,7,10,15,16,17,18,28,29,30,31],ord := fun _ => ([],[]) }),
  (99,{ fn := Tryz.f99,n := 20,V := 3,cross := [4,5,9,13],ord := fun _ => ([],[]) }),
  (100,{ fn := Tryz.f100,n := 36,V := 3,cross := [4,12,16],ord := fun id => match id with | 4 => ([0,1,2,3,4,5,6,7,8,9,10],[7,8,10]) | 5 => ([0,1,2,3,4,5,6,7,8,9],[7,9]) | _ => ([],[]) }),
  (101,{ fn := Tryz.f101,n := 28,V := 1,cross := [2,3,4,5,6,7,8,9,10,15,20],ord := fun _ => ([],[]) }),
  (102,{ fn := Tryz.f102,n := 5,V := 1,cross := [2],ord := fun _ => ([],[]) }),
  (103,{ fn := Tryz.f103,n := 27,V := 3,cross := [4,11,18],ord := fun _ => ([],[]) }),
  (104,{ fn := Tryz.f104,n := 25,V := 5,cross := [10],ord := fun _ => ([],[]) }),
  (105,{ fn := Tryz.f105,n := 36,V := 5,cross := [7,16,20],ord := fun _ => ([],[]) }),
  (106,{ fn := Tryz.f106,n := 26,V := 1,cross := [2,3,4,9,13],ord := fun _ => ([],[]) }),
  (107,{ fn := Tryz.f107,n := 20,V := 3,cross := [4,5,9,13],ord := fun _ => ([],[]) }),
  (108,{ fn := Tryz.f108,n := 34,V := 3,cross := [4,12,16],ord := fun id => match id with | 5 => ([0,1,2,3,4,5,6,7,8,9],[7,9]) | _ => ([],[]) }),
  (109,{ fn := Tryz.f109,n := 19,V := 2,cross := [4,5,7,8,9,16],ord := fun _ => ([],[]) }),
  (110,{ fn := Tryz.f110,n := 19,V := 1,cross := [2,3,5,7,8,9,10,11],ord := fun _ => ([],[]) }),
  (111,{ fn := Tryz.f111,n := 125,V := 2,cross := [4,5,6,7,8,9,10,11,12,14,18,34,40,42,43,49,58,67,76,85,96,104,113],ord := fun _ => ([],[]) }),
  (112,{ fn := Tryz.f112,n := 30,V := 1,cross := [2,3,4,8,15,20,28],ord := fun _ => ([],[]) }),
  (113,{ fn := Tryz.f113,n := 32,V := 2,cross := [4,5,6,8,10,12,24],ord := fun _ => ([],[]) }),
  (114,{ fn := Tryz.f114,n := 75,V := 2,cross := [4,5,7,8,10,12,13,15,22,29,39,40,41,42,49,63,64,65,66],ord := fun _ => ([],[]) }),
  (115,{ fn := Tryz.f115,n := 16,V := 3,cross := [4,5,11],ord := fun _ => ([],[]) }),
  (116,{ fn := Tryz.f116,n := 47,V := 6,cross := [32,33,34,35],ord := fun id => match id with | 1 => ([0,1,2,3,4,6,7,8,10,11,12,5,9,13,14,15,16],[5,9,13,15,16]) | 7 => ([0,1,2,3,4,5,6],[4,6]) | _ => ([],[]) }),
  (117,{ fn := Tryz.f117,n := 17,V := 2,cross := [4],ord := fun _ => ([],[]) }),
  (118,{ fn := Tryz.f118,n := 54,V := 2,cross := [4,5,6,7,8,9,11,17,23,34],ord := fun _ => ([],[]) }),
  (119,{ fn := Tryz.f119,n := 41,V := 1,cross := [2,3,4,10,23],ord := fun id => match id with | 7 => ([0,1,3,4,5,6,7,2,8,9],[2]) | _ => ([],[]) }),
  (120,{ fn := Tryz.f120,n := 33,V := 2,cross := [4,5,6,8,10,12,25],ord := fun _ => ([],[]) }),
  (121,{ fn := Tryz.f121,n := 33,V := 5,cross := [18],ord := fun id => match id with | 1 => ([0,1,2,3,5,6,4,7,8,9,10],[4,7,9,10]) | 5 => ([0,1,2,3,4,5,6,7,8,9,10,11],[7,8,9,11]) | _ => ([],[]) }),
  (122,{ fn := Tryz.f122,n := 9,V := 2,cross := [4],ord := fun _ => ([],[]) }),
  (123,{ fn := Tryz.f123,n := 30,V := 2,cross := [4,5,6,7,8,9],ord := fun _ => ([],[]) }),
  (124,{ fn := Tryz.f124,n := 8,V := 2,cross := [4],ord := fun _ => ([],[]) }),
  (125,{ fn := Tryz.f125,n := 25,V := 2,cross := [7,21],ord := fun id => match id with | 3 => ([0,1,2,3,5,6,7,8,9,11,4,10,12],[4]) | _ => ([],[]) }),
  (126,{ fn := Tryz.f126,n := 8,V := 1,cross := [2],ord := fun _ => ([],[]) }),
  (127,{ fn := Tryz.f127,n := 8,V := 2,cross := [4],ord := fun _ => ([],[]) }),
  (128,{ fn := Tryz.f128,n := 15,V := 1,cross := [2,4],ord := fun _ => ([],[]) }),
  (129,{ fn := Tryz.f129,n := 15,V := 1,cross := [2,3],ord := fun _ => ([],[]) }),
  (130,{ fn := Tryz.f130,n := 167,V := 2,cross := [4,5,6,7,8,9,10,11,12,13,14,15,16,20,99,139,161],ord := fun id => match id with | 7 => ([0,1,2,3,4,5,6,7,8,9,10,11,12,13,14],[12,14]) | 8 => ([0,1,2,3,4,5,6,7,8,9,10,11,12,13,14],[12,14]) | 9 => ([0,1,2,3,4,5,6,7,8,9,10,11,12,13,14],[12,14]) | 10 => ([0,1,2,3,4,5,6,7,8,9,10,11,12,13,14],[12,14]) | 17 => ([0,1,2,3,4,5,6,7,8,9,10,11,12,13,14],[12,14]) | 18 => ([0,1,2,3,4,5,6,7,8,9,10,11,12,13,14],[12,14]) | 23 => ([0,1,2,3,4,5,6,7,8,9,10,11,12,13,14],[12,14]) | _ => ([],[]) }),
  (131,{ fn := Tryz.f131,n := 102,V := 5,cross := [10,11,12,13,14,15,16,17,18,28,30,34,46,68,89,94],ord := fun _ => ([],[]) }),
  (132,{ fn := Tryz.f132,n := 8,V := 1,cross := [2,4],ord := fun _ => ([],[]) }),
  (133,{ fn := Tryz.f133,n := 22,V := 1,cross := [2,3,5],ord := fun id => match id with | 4 => ([0,1,3,4,5,6,7,8,9,2,10,11],[2]) | _ => ([],[]) }),
  (134,{ fn := Tryz.f134,n := 19,V := 2,cross := [4,5,7,8,9,16],ord := fun _ => ([],[]) }),
  (135,{ fn := Tryz.f135,n := 17,V := 2,cross := [4,5,6],ord := fun _ => ([],[]) }),
  (136,{ fn := Tryz.f136,n := 51,V := 2,cross := [4,5,6,7,8,9,10,11,12,13],ord := fun _ => ([],[]) }),
  (137,{ fn := Tryz.f137,n := 18,V := 2,cross := [4],ord := fun _ => ([],[]) }),
  (138,{ fn := Tryz.f138,n := 30,V := 2,cross := [4],ord := fun id => match id with | 0 => ([0,1,2,3,6,9,10,11,12,13,4,5,7,8,14,15],[4,8]) | _ => ([],[]) }),
  (139,{ fn := Tryz.f139,n := 6,V := 1,cross := [2],ord := fun _ => ([],[]) }),
  (140,{ fn := Tryz.f140,n := 25,V := 1,cross := [2,4,8,14],ord := fun _ => ([],[]) }),
  (141,{ fn := Tryz.f141,n := 4,V := 1,cross := [2,3],ord := fun _ => ([],[]) }),
  (142,{ fn := Tryz.f142,n := 8,V := 1,cross := [2],ord := fun _ => ([],[]) }),
  (143,{ fn := Tryz.f143,n := 8,V := 1,cross := [2],ord := fun _ => ([],[]) }),
  (145,{ fn := Tryz.f145,n := 14,V := 1,cross := [2,4],ord := fun _ => ([],[]) }),
  (146,{ fn := Tryz.f146,n := 14,V := 1,cross := [2,4],ord := fun _ => ([],[]) })]
abbrev eqs:List Nat := [42,46,78,82,109]
theorem eqs_ok:∀ t,eqs.contains t = true→Tryz.prog.eqGuardType Tryz.prog.depth t = false∧Tryz.prog.stoodInHeld t = false := by
  intro t h
  simp only [eqs,List.contains_eq_mem,List.mem_cons,List.not_mem_nil,or_false,decide_eq_true_eq] at h
  rcases h with rfl | rfl | rfl | rfl | rfl
  · exact ⟨Tryz.eqGuardType42,Tryz.stoodInHeld42⟩
  · exact ⟨Tryz.eqGuardType46,Tryz.stoodInHeld46⟩
  · exact ⟨Tryz.eqGuardType78,Tryz.stoodInHeld78⟩
  · exact ⟨Tryz.eqGuardType82,Tryz.stoodInHeld82⟩
  · exact ⟨Tryz.eqGuardType109,Tryz.stoodInHeld109⟩
theorem frames_ok:FrmOk Tryz.prog (frmGet frames) :=
  FrmOk.cons Tryz.func3 rfl (by decide) <|
  FrmOk.cons Tryz.func4 rfl (by decide) <|
  FrmOk.cons Tryz.func5 rfl (by decide) <|
  FrmOk.cons Tryz.func6 rfl (by decide) <|
  FrmOk.cons Tryz.func7 rfl (by decide) <|
  FrmOk.cons Tryz.func8 rfl (by decide) <|
  FrmOk.cons Tryz.func9 rfl (by decide) <|
  FrmOk.cons Tryz.func10 rfl (by decide) <|
  FrmOk.cons Tryz.func11 rfl (by decide) <|
  FrmOk.cons Tryz.func12 rfl (by decide) <|
  FrmOk.cons Tryz.func13 rfl (by decide) <|
  FrmOk.cons Tryz.func14 rfl (by decide) <|
  FrmOk.cons Tryz.func15 rfl (by decide) <|
  FrmOk.cons Tryz.func16 rfl (by decide) <|
  FrmOk.cons Tryz.func17 rfl (by decide) <|
  FrmOk.cons Tryz.func18 rfl (by decide) <|
  FrmOk.cons Tryz.func19 rfl (by decide) <|
  FrmOk.cons Tryz.func20 rfl (by decide) <|
  FrmOk.cons Tryz.func21 rfl (by decide) <|
  FrmOk.cons Tryz.func22 rfl (by decide) <|
  FrmOk.cons Tryz.func23 rfl (by decide) <|
  FrmOk.cons Tryz.func24 rfl (by decide) <|
  FrmOk.cons Tryz.func25 rfl (by decide) <|
  FrmOk.cons Tryz.func26 rfl (by decide) <|
  FrmOk.cons Tryz.func27 rfl (by decide) <|
  FrmOk.cons Tryz.func28 rfl (by decide) <|
  FrmOk.cons Tryz.func29 rfl (by decide) <|
  FrmOk.cons Tryz.func30 rfl (by decide) <|
  FrmOk.cons Tryz.func31 rfl (by decide) <|
  FrmOk.cons Tryz.func32 rfl (by decide) <|
  FrmOk.cons Tryz.func33 rfl (by decide) <|
  FrmOk.cons Tryz.func34 rfl (by decide) <|
  FrmOk.cons Tryz.func35 rfl (by decide) <|
  FrmOk.cons Tryz.func36 rfl (by decide) <|
  FrmOk.cons Tryz.func37 rfl (by decide) <|
  FrmOk.cons Tryz.func38 rfl (by decide) <|
  FrmOk.cons Tryz.func39 rfl (by decide) <|
  FrmOk.cons Tryz.func40 rfl (by decide) <|
  FrmOk.cons Tryz.func41 rfl (by decide) <|
  FrmOk.cons Tryz.func42 rfl (by decide) <|
  FrmOk.cons Tryz.func43 rfl (by decide) <|
  FrmOk.cons Tryz.func44 rfl (by decide) <|
  FrmOk.cons Tryz.func45 rfl (by decide) <|
  FrmOk.cons Tryz.func46 rfl (by decide) <|
  FrmOk.cons Tryz.func47 rfl (by decide) <|
  FrmOk.cons Tryz.func48 rfl (by decide) <|
  FrmOk.cons Tryz.func49 rfl (by decide) <|
  FrmOk.cons Tryz.func50 rfl (by decide) <|
  FrmOk.cons Tryz.func51 rfl (by decide) <|
  FrmOk.cons Tryz.func52 rfl (by decide) <|
  FrmOk.cons Tryz.func53 rfl (by decide) <|
  FrmOk.cons Tryz.func54 rfl (by decide) <|
  FrmOk.cons Tryz.func55 rfl (by decide) <|
  FrmOk.cons Tryz.func56 rfl (by decide) <|
  FrmOk.cons Tryz.func57 rfl (by decide) <|
  FrmOk.cons Tryz.func58 rfl (by decide) <|
  FrmOk.cons Tryz.func59 rfl (by decide) <|
  FrmOk.cons Tryz.func60 rfl (by decide) <|
  FrmOk.cons Tryz.func61 rfl (by decide) <|
  FrmOk.cons Tryz.func62 rfl (by decide) <|
  FrmOk.cons Tryz.func63 rfl (by decide) <|
  FrmOk.cons Tryz.func64 rfl (by decide) <|
  FrmOk.cons Tryz.func65 rfl (by decide) <|
  FrmOk.cons Tryz.func66 rfl (by decide) <|
  FrmOk.cons Tryz.func67 rfl (by decide) <|
  FrmOk.cons Tryz.func68 rfl (by decide) <|
  FrmOk.cons Tryz.func69 rfl (by decide) <|
  FrmOk.cons Tryz.func70 rfl (by decide) <|
  FrmOk.cons Tryz.func71 rfl (by decide) <|
  FrmOk.cons Tryz.func72 rfl (by decide) <|
  FrmOk.cons Tryz.func73 rfl (by decide) <|
  FrmOk.cons Tryz.func74 rfl (by decide) <|
  FrmOk.cons Tryz.func75 rfl (by decide) <|
  FrmOk.cons Tryz.func76 rfl (by decide) <|
  FrmOk.cons Tryz.func77 rfl (by decide) <|
  FrmOk.cons Tryz.func78 rfl (by decide) <|
  FrmOk.cons Tryz.func79 rfl (by decide) <|
  FrmOk.cons Tryz.func80 rfl (by decide) <|
  FrmOk.cons Tryz.func81 rfl (by decide) <|
  FrmOk.cons Tryz.func82 rfl (by decide) <|
  FrmOk.cons Tryz.func83 rfl (by decide) <|
  FrmOk.cons Tryz.func84 rfl (by decide) <|
  FrmOk.cons Tryz.func85 rfl (by decide) <|
  FrmOk.cons Tryz.func86 rfl (by decide) <|
  FrmOk.cons Tryz.func87 rfl (by decide) <|
  FrmOk.cons Tryz.func88 rfl (by decide) <|
  FrmOk.cons Tryz.func89 rfl (by decide) <|
  FrmOk.cons Tryz.func90 rfl (by decide) <|
  FrmOk.cons Tryz.func91 rfl (by decide) <|
  FrmOk.cons Tryz.func92 rfl (by decide) <|
  FrmOk.cons Tryz.func93 rfl (by decide) <|
  FrmOk.cons Tryz.func94 rfl (by decide) <|
  FrmOk.cons Tryz.func96 rfl (by decide) <|
  FrmOk.cons Tryz.func97 rfl (by decide) <|
  FrmOk.cons Tryz.func98 rfl (by decide) <|
  FrmOk.cons Tryz.func99 rfl (by decide) <|
  FrmOk.cons Tryz.func100 rfl (by decide) <|
  FrmOk.cons Tryz.func101 rfl (by decide) <|
  FrmOk.cons Tryz.func102 rfl (by decide) <|
  FrmOk.cons Tryz.func103 rfl (by decide) <|
  FrmOk.cons Tryz.func104 rfl (by decide) <|
  FrmOk.cons Tryz.func105 rfl (by decide) <|
  FrmOk.cons Tryz.func106 rfl (by decide) <|
  FrmOk.cons Tryz.func107 rfl (by decide) <|
  FrmOk.cons Tryz.func108 rfl (by decide) <|
  FrmOk.cons Tryz.func109 rfl (by decide) <|
  FrmOk.cons Tryz.func110 rfl (by decide) <|
  FrmOk.cons Tryz.func111 rfl (by decide) <|
  FrmOk.cons Tryz.func112 rfl (by decide) <|
  FrmOk.cons Tryz.func113 rfl (by decide) <|
  FrmOk.cons Tryz.func114 rfl (by decide) <|
  FrmOk.cons Tryz.func115 rfl (by decide) <|
  FrmOk.cons Tryz.func116 rfl (by decide) <|
  FrmOk.cons Tryz.func117 rfl (by decide) <|
  FrmOk.cons Tryz.func118 rfl (by decide) <|
  FrmOk.cons Tryz.func119 rfl (by decide) <|
  FrmOk.cons Tryz.func120 rfl (by decide) <|
  FrmOk.cons Tryz.func121 rfl (by decide) <|
  FrmOk.cons Tryz.func122 rfl (by decide) <|
  FrmOk.cons Tryz.func123 rfl (by decide) <|
  FrmOk.cons Tryz.func124 rfl (by decide) <|
  FrmOk.cons Tryz.func125 rfl (by decide) <|
  FrmOk.cons Tryz.func126 rfl (by decide) <|
  FrmOk.cons Tryz.func127 rfl (by decide) <|
  FrmOk.cons Tryz.func128 rfl (by decide) <|
  FrmOk.cons Tryz.func129 rfl (by decide) <|
  FrmOk.cons Tryz.func130 rfl (by decide) <|
  FrmOk.cons Tryz.func131 rfl (by decide) <|
  FrmOk.cons Tryz.func132 rfl (by decide) <|
  FrmOk.cons Tryz.func133 rfl (by decide) <|
  FrmOk.cons Tryz.func134 rfl (by decide) <|
  FrmOk.cons Tryz.func135 rfl (by decide) <|
  FrmOk.cons Tryz.func136 rfl (by decide) <|
  FrmOk.cons Tryz.func137 rfl (by decide) <|
  FrmOk.cons Tryz.func138 rfl (by decide) <|
  FrmOk.cons Tryz.func139 rfl (by decide) <|
  FrmOk.cons Tryz.func140 rfl (by decide) <|
  FrmOk.cons Tryz.func141 rfl (by decide) <|
  FrmOk.cons Tryz.func142 rfl (by decide) <|
  FrmOk.cons Tryz.func143 rfl (by decide) <|
  FrmOk.cons Tryz.func145 rfl (by decide) <|
  FrmOk.cons Tryz.func146 rfl (by decide) <|
  FrmOk.nil _
end Go.Proofs.YtflbmbkhjcbhoaaGreatDoor
namespace Go.Proofs
open Go.Shelf
def Tryz.lays156_ren:Go.Shelf.Ren := ⟨fun | 156 => 114 | 165 => 125 | 166 => 31 | 169 => 36 | 240 => 73 | 241 => 138 | 276 => 95 | 277 => 144 | n => n,fun | 31 => 136 | 9 => 9 | 3 => 3 | 4 => 4 | 0 => 0 | 20 => 20 | 72 => 69 | 76 => 72 | 70 => 66 | 37 => 67 | 75 => 71 | 127 => 119 | 164 => 128 | 5 => 5 | 80 => 83 | n => n,fun | n => n⟩
theorem Tryz.lays156:Go.Proofs.Lays.n156 Tryz.prog Tryz.lays156_ren := {
  mixed := by kernel_rfl
  f156 := Tryz.func114.trans (congrArg some (by kernel_rfl))
  f165 := Tryz.func125.trans (congrArg some (by kernel_rfl))
  f166 := Tryz.func31.trans (congrArg some (by kernel_rfl))
  f169 := Tryz.func36.trans (congrArg some (by kernel_rfl))
  f240 := Tryz.func73.trans (congrArg some (by kernel_rfl))
  f241 := Tryz.func138.trans (congrArg some (by kernel_rfl))
  f276 := Tryz.func95.trans (congrArg some (by kernel_rfl))
  f277 := Tryz.func144.trans (congrArg some (by kernel_rfl))
  t0 := Tryz.underlying0
  a0 := Tryz.isAgg0
  z0 := Tryz.sizeOf0
  v0 := Tryz.zeroValue0
  t3 := Tryz.underlying3
  a3 := Tryz.isAgg3
  z3 := Tryz.sizeOf3
  v3 := Tryz.zeroValue3
  t4 := Tryz.underlying4
  a4 := Tryz.isAgg4
  z4 := Tryz.sizeOf4
  v4 := Tryz.zeroValue4
  t9 := Tryz.underlying9
  a9 := Tryz.isAgg9
  z9 := Tryz.sizeOf9
  v9 := Tryz.zeroValue9
  t20 := Tryz.underlying20
  a20 := Tryz.isAgg20
  z20 := Tryz.sizeOf20
  v20 := Tryz.zeroValue20
  t31 := Tryz.underlying136
  a31 := Tryz.isAgg136
  z31 := Tryz.sizeOf136
  v31 := Tryz.zeroValue136
  t37 := Tryz.underlying67
  a37 := Tryz.isAgg67
  z37 := Tryz.sizeOf67
  v37 := Tryz.zeroValue67
  t70 := Tryz.underlying66
  a70 := Tryz.isAgg66
  z70 := Tryz.sizeOf66
  v70 := Tryz.zeroValue66
  t72 := Tryz.underlying69
  a72 := Tryz.isAgg69
  z72 := Tryz.sizeOf69
  v72 := Tryz.zeroValue69
  t75 := Tryz.underlying71
  a75 := Tryz.isAgg71
  z75 := Tryz.sizeOf71
  v75 := Tryz.zeroValue71
  t76 := Tryz.underlying72
  a76 := Tryz.isAgg72
  z76 := Tryz.sizeOf72
  v76 := Tryz.zeroValue72
  t127 := Tryz.underlying119
  a127 := Tryz.isAgg119
  z127 := Tryz.sizeOf119
  v127 := Tryz.zeroValue119
  t164 := Tryz.underlying128
  a164 := Tryz.isAgg128
  z164 := Tryz.sizeOf128
  v164 := Tryz.zeroValue128 }
theorem Tryz.Builder_Extra_156:Builder.Extra Tryz.prog Tryz.lays156_ren := {
  sizeBuilder := by kernel_rfl
  liesBuilder := by kernel_rfl
  t5 := Tryz.underlying5
  a5 := Tryz.isAgg5
  z5 := Tryz.sizeOf5
  v5 := Tryz.zeroValue5
  infoByte := by kernel_rfl
  cellsByte := by kernel_rfl
  sizeByte := by kernel_rfl
  neB5 := by decide }
open Go.RowKit in
theorem Tryz.strings_Join_none (a : Option Addr) (c : Nat) (sep : ByteArray) (w : World) :
    Calls Tryz.prog 114 #[.slice a 0 c,.string sep] w fun e w' => e = .returned (.string ⟨#[]⟩)∧w' = w := Any.strings_Join_none Tryz.lays156 Tryz.Builder_Extra_156 a c sep w
open Go.RowKit in
theorem Tryz.strings_Join (bk o c : Nat) (xs : List ByteArray) (sep : ByteArray) (w : World) (hcells : ∀ (j : Nat) x, xs[j]? = some x → w.cell? ⟨bk, o + j, none⟩ = some (.string x)) (hbk : bk < w.heap.size) (hN : xs.length ≤ 140737488355328) (hcap : xs.length ≤ c) (hlen : (Lib.join (xs.map (·.data.toList)) sep.data.toList).length ≤ 140737488355328) :
    Calls Tryz.prog 114 #[.slice (some ⟨bk,o,none⟩) xs.length c,.string sep] w fun e w' => e = .returned (.string ⟨(Lib.join (xs.map (·.data.toList)) sep.data.toList).toArray⟩)∧Below w.heap.size w w' := Any.strings_Join Tryz.lays156 Tryz.Builder_Extra_156 bk o c xs sep w hcells hbk hN hcap hlen
def Tryz.laysM171_ren:Go.Shelf.Ren := ⟨fun | 171 => 76 | 243 => 102 | 246 => 118 | 283 => 128 | 284 => 129 | 285 => 130 | 286 => 131 | 129 => 140 | 317 => 139 | 318 => 141 | 319 => 142 | 320 => 143 | 337 => 145 | 338 => 146 | n => n,fun | 3 => 3 | 9 => 9 | 2 => 2 | 4 => 4 | 171 => 151 | 0 => 0 | 53 => 152 | 37 => 67 | 5 => 5 | 173 => 155 | 212 => 165 | 51 => 159 | 20 => 20 | 213 => 166 | 46 => 145 | 232 => 170 | 233 => 171 | n => n,fun | 17 => 0 | 18 => 2 | 19 => 3 | n => n⟩
theorem Tryz.laysM171:Go.Proofs.LaysM.n171 Tryz.prog Tryz.laysM171_ren := {
  mixed := by kernel_rfl
  f129 := Tryz.func140.trans (congrArg some (by kernel_rfl))
  f171 := Tryz.func76.trans (congrArg some (by kernel_rfl))
  f243 := Tryz.func102.trans (congrArg some (by kernel_rfl))
  f246 := Tryz.func118.trans (congrArg some (by kernel_rfl))
  f283 := Tryz.func128.trans (congrArg some (by kernel_rfl))
  f284 := Tryz.func129.trans (congrArg some (by kernel_rfl))
  f285 := Tryz.func130.trans (congrArg some (by kernel_rfl))
  f286 := Tryz.func131.trans (congrArg some (by kernel_rfl))
  f317 := Tryz.func139.trans (congrArg some (by kernel_rfl))
  f318 := Tryz.func141.trans (congrArg some (by kernel_rfl))
  f319 := Tryz.func142.trans (congrArg some (by kernel_rfl))
  f320 := Tryz.func143.trans (congrArg some (by kernel_rfl))
  f337 := Tryz.func145.trans (congrArg some (by kernel_rfl))
  f338 := Tryz.func146.trans (congrArg some (by kernel_rfl))
  t0 := Tryz.underlying0
  a0 := Tryz.isAgg0
  z0 := Tryz.sizeOf0
  v0 := Tryz.zeroValue0
  t2 := Tryz.underlying2
  a2 := Tryz.isAgg2
  z2 := Tryz.sizeOf2
  v2 := Tryz.zeroValue2
  t3 := Tryz.underlying3
  a3 := Tryz.isAgg3
  z3 := Tryz.sizeOf3
  v3 := Tryz.zeroValue3
  t4 := Tryz.underlying4
  a4 := Tryz.isAgg4
  z4 := Tryz.sizeOf4
  v4 := Tryz.zeroValue4
  t5 := Tryz.underlying5
  a5 := Tryz.isAgg5
  z5 := Tryz.sizeOf5
  v5 := Tryz.zeroValue5
  t9 := Tryz.underlying9
  a9 := Tryz.isAgg9
  z9 := Tryz.sizeOf9
  v9 := Tryz.zeroValue9
  t20 := Tryz.underlying20
  a20 := Tryz.isAgg20
  z20 := Tryz.sizeOf20
  v20 := Tryz.zeroValue20
  t37 := Tryz.underlying67
  a37 := Tryz.isAgg67
  z37 := Tryz.sizeOf67
  v37 := Tryz.zeroValue67
  t46 := Tryz.underlying145
  a46 := Tryz.isAgg145
  z46 := Tryz.sizeOf145
  v46 := Tryz.zeroValue145
  t51 := Tryz.underlying159
  a51 := Tryz.isAgg159
  z51 := Tryz.sizeOf159
  v51 := Tryz.zeroValue159
  t53 := Tryz.underlying152
  a53 := Tryz.isAgg152
  z53 := Tryz.sizeOf152
  v53 := Tryz.zeroValue152
  t171 := Tryz.underlying151
  a171 := Tryz.isAgg151
  z171 := Tryz.sizeOf151
  v171 := Tryz.zeroValue151
  t173 := Tryz.underlying155
  a173 := Tryz.isAgg155
  z173 := Tryz.sizeOf155
  v173 := Tryz.zeroValue155
  t212 := Tryz.underlying165
  a212 := Tryz.isAgg165
  z212 := Tryz.sizeOf165
  v212 := Tryz.zeroValue165
  t213 := Tryz.underlying166
  a213 := Tryz.isAgg166
  z213 := Tryz.sizeOf166
  t232 := Tryz.underlying170
  a232 := Tryz.isAgg170
  z232 := Tryz.sizeOf170
  v232 := Tryz.zeroValue170
  t233 := Tryz.underlying171
  a233 := Tryz.isAgg171
  z233 := Tryz.sizeOf171
  v233 := Tryz.zeroValue171
  g17 := by kernel_rfl
  g18 := by kernel_rfl
  g19 := by kernel_rfl
  i0 := by kernel_rfl
  i2 := by kernel_rfl
  i3 := by kernel_rfl
  i4 := by kernel_rfl
  i5 := by kernel_rfl
  i9 := by kernel_rfl
  i20 := by kernel_rfl
  i37 := by kernel_rfl
  i46 := by kernel_rfl
  i51 := by kernel_rfl
  i53 := by kernel_rfl
  i171 := by kernel_rfl
  i173 := by kernel_rfl
  i212 := by kernel_rfl
  i232 := by kernel_rfl
  i233 := by kernel_rfl
  m17 := by kernel_rfl
  m18 := by kernel_rfl
  m19 := by kernel_rfl }
open Go.RowKit Go.Sort Go.Lib in
theorem Tryz.strconv_Itoa (n : Int) (h0 : -9223372036854775808 ≤ n) (h1 : n ≤ 9223372036854775807) (w : World) (htab : Lib.TabIs Tryz.prog w "internal/strconv.uint64pow10" .u64 Lib.pow10Tab) :
    Calls Tryz.prog 76 #[.int .i64 n] w fun e w' => e = .returned (.string ⟨(Lib.itoa n).toArray⟩)∧∃ k os,w' = grow (w.drewN k) os := Any.strconv_Itoa Tryz.laysM171 n h0 h1 w htab
def Tryz.lays105_ren:Go.Shelf.Ren := ⟨fun | 105 => 111 | 212 => 123 | 99 => 124 | 165 => 125 | 166 => 31 | 170 => 126 | 169 => 36 | 263 => 135 | 264 => 136 | 206 => 137 | 240 => 73 | 241 => 138 | 276 => 95 | 277 => 144 | n => n,fun | 9 => 9 | 3 => 3 | 4 => 4 | 20 => 20 | 0 => 0 | 46 => 145 | 109 => 146 | 5 => 5 | 72 => 69 | 76 => 72 | 51 => 159 | 146 => 160 | 53 => 152 | 148 => 162 | 70 => 66 | 37 => 67 | 75 => 71 | 127 => 119 | 164 => 128 | 80 => 83 | n => n,fun | n => n⟩
theorem Tryz.lays105:Go.Proofs.Lays.n105 Tryz.prog Tryz.lays105_ren := {
  mixed := by kernel_rfl
  f99 := Tryz.func124.trans (congrArg some (by kernel_rfl))
  f105 := Tryz.func111.trans (congrArg some (by kernel_rfl))
  f165 := Tryz.func125.trans (congrArg some (by kernel_rfl))
  f166 := Tryz.func31.trans (congrArg some (by kernel_rfl))
  f169 := Tryz.func36.trans (congrArg some (by kernel_rfl))
  f170 := Tryz.func126.trans (congrArg some (by kernel_rfl))
  f206 := Tryz.func137.trans (congrArg some (by kernel_rfl))
  f212 := Tryz.func123.trans (congrArg some (by kernel_rfl))
  f240 := Tryz.func73.trans (congrArg some (by kernel_rfl))
  f241 := Tryz.func138.trans (congrArg some (by kernel_rfl))
  f263 := Tryz.func135.trans (congrArg some (by kernel_rfl))
  f264 := Tryz.func136.trans (congrArg some (by kernel_rfl))
  f276 := Tryz.func95.trans (congrArg some (by kernel_rfl))
  f277 := Tryz.func144.trans (congrArg some (by kernel_rfl))
  t0 := Tryz.underlying0
  a0 := Tryz.isAgg0
  z0 := Tryz.sizeOf0
  v0 := Tryz.zeroValue0
  t3 := Tryz.underlying3
  a3 := Tryz.isAgg3
  z3 := Tryz.sizeOf3
  v3 := Tryz.zeroValue3
  t4 := Tryz.underlying4
  a4 := Tryz.isAgg4
  z4 := Tryz.sizeOf4
  v4 := Tryz.zeroValue4
  t5 := Tryz.underlying5
  a5 := Tryz.isAgg5
  z5 := Tryz.sizeOf5
  v5 := Tryz.zeroValue5
  t9 := Tryz.underlying9
  a9 := Tryz.isAgg9
  z9 := Tryz.sizeOf9
  v9 := Tryz.zeroValue9
  t20 := Tryz.underlying20
  a20 := Tryz.isAgg20
  z20 := Tryz.sizeOf20
  v20 := Tryz.zeroValue20
  t37 := Tryz.underlying67
  a37 := Tryz.isAgg67
  z37 := Tryz.sizeOf67
  v37 := Tryz.zeroValue67
  t46 := Tryz.underlying145
  a46 := Tryz.isAgg145
  z46 := Tryz.sizeOf145
  v46 := Tryz.zeroValue145
  t51 := Tryz.underlying159
  a51 := Tryz.isAgg159
  z51 := Tryz.sizeOf159
  v51 := Tryz.zeroValue159
  t53 := Tryz.underlying152
  a53 := Tryz.isAgg152
  z53 := Tryz.sizeOf152
  v53 := Tryz.zeroValue152
  t70 := Tryz.underlying66
  a70 := Tryz.isAgg66
  z70 := Tryz.sizeOf66
  v70 := Tryz.zeroValue66
  t72 := Tryz.underlying69
  a72 := Tryz.isAgg69
  z72 := Tryz.sizeOf69
  v72 := Tryz.zeroValue69
  t75 := Tryz.underlying71
  a75 := Tryz.isAgg71
  z75 := Tryz.sizeOf71
  v75 := Tryz.zeroValue71
  t76 := Tryz.underlying72
  a76 := Tryz.isAgg72
  z76 := Tryz.sizeOf72
  v76 := Tryz.zeroValue72
  t109 := Tryz.underlying146
  a109 := Tryz.isAgg146
  z109 := Tryz.sizeOf146
  v109 := Tryz.zeroValue146
  t127 := Tryz.underlying119
  a127 := Tryz.isAgg119
  z127 := Tryz.sizeOf119
  v127 := Tryz.zeroValue119
  t146 := Tryz.underlying160
  a146 := Tryz.isAgg160
  z146 := Tryz.sizeOf160
  v146 := Tryz.zeroValue160
  t148 := Tryz.underlying162
  a148 := Tryz.isAgg162
  z148 := Tryz.sizeOf162
  v148 := Tryz.zeroValue162
  t164 := Tryz.underlying128
  a164 := Tryz.isAgg128
  z164 := Tryz.sizeOf128
  v164 := Tryz.zeroValue128 }
theorem Tryz.Builder_Extra_105:Builder.Extra Tryz.prog Tryz.lays105_ren := {
  sizeBuilder := by kernel_rfl
  liesBuilder := by kernel_rfl
  t5 := Tryz.underlying5
  a5 := Tryz.isAgg5
  z5 := Tryz.sizeOf5
  v5 := Tryz.zeroValue5
  infoByte := by kernel_rfl
  cellsByte := by kernel_rfl
  sizeByte := by kernel_rfl
  neB5 := by decide }
open Go.RowKit Go.Lib in
theorem Tryz.strings_Repeat (s : ByteArray) (c : Nat) (w : World) (hc : c ≤ 9223372036854775807) (hlen : s.size * c ≤ 140737488355328) :
    Calls Tryz.prog 111 #[.string s,.int .i64 c] w fun e w' => e = .returned (.string ⟨(Lib.repeatL s.data.toList c).toArray⟩)∧Below w.heap.size w w' := Any.strings_Repeat Tryz.lays105 Tryz.Builder_Extra_105 s c w hc hlen
end Go.Proofs
namespace Go.Proofs.YtflbmbkhjcbhoaaGreatDoor
open Go Go.Ab
theorem mix:Tryz.prog.follows .mixedOrders = true := by kernel_rfl
def SM {α:Type} (x:α):Prop := x = x
def Z0:Int := 0
def Z1:Int := 1
def N0:Nat := 0
def N1:Nat := 1
def N2:Nat := 2
def N4:Nat := 4
def N6:Nat := 6
def U0:UInt8 := 0
def LN {α:Type} (l:List α):Nat := List.length l
def LI {α:Type} (l:List α):Int := (↑(List.length l):Int)
def BI (l:List UInt8) (i:Nat):Int := (↑(UInt8.toNat (List.getD l i (0:UInt8))):Int)
def NI (x:Nat):Int := (↑x:Int)
def TN (x:Nat):Nat := Int.toNat (↑x:Int)
def TL {α:Type} (l:List α):Nat := Int.toNat (↑(List.length l):Int)
def GI (l:List Int) (i:Nat):Int := List.getD l i (0:Int)
def ZI (a:Int):D := D.int IntKind.i64 a
def ZB (a:Int):D := D.int IntKind.u8 a
def SI (l:List Int):D := D.sl (1:Nat) (List.length l) (fun (i:Nat) => [D.int IntKind.i64 (List.getD l i (0:Int))]) Mode.any
abbrev Con := Nat→List D→St→Option FnSpec
noncomputable def E0 (con:Con) (n V:Nat) (cross:List Nat) (ord:Nat→List Nat × List Nat):Senv where
  P := Tryz.prog
  tt := tabGet tab
  n := n
  dfs := []
  V := V
  cross := cross
  gh := fun _ => []
  gr := []
  unr := fun _ => 0
  cut := fun _ _ _ => none
  ann := fun _ _ _ => none
  ord := ord
  con := con
  eqs := eqs
noncomputable def EC (con:Con) (n V:Nat) (cross:List Nat) (ord:Nat→List Nat × List Nat):Senv :=
  { E0 con n V cross ord with auto := true,inl := inlD { E0 con 0 0 [] (fun _ => ([],[])) with auto := true } (frmGet frames) 9 }
abbrev con0:Con := fun _ _ _ => none
theorem con0_ok:ConOk Tryz.prog con0 := fun _ _ _ _ h => nomatch h
theorem eOk {con:Con} (hc:ConOk Tryz.prog con) {E:Senv} (h:E = { EC con E.n E.V E.cross E.ord with gh := E.gh,gr := E.gr,unr := E.unr,cut := E.cut,ann := E.ann,cut2 := E.cut2,ann2 := E.ann2,own := E.own,gz := E.gz,mg := E.mg,pvt := E.pvt,bcut := E.bcut,bd := E.bd }):EnvOk E := by
  rw [h]
  exact ⟨tab_ok,hc,mix,fun k ds S R h => inlD_ok (E := { E0 con 0 0 [] (fun _ => ([],[])) with auto := true }) tab_ok hc mix frames_ok eqs_ok 9 k ds S R h,eqs_ok⟩
def pC (ds:List D) (d:D) (p:Prop):FnSpec where
  β := Unit
  α := Unit
  args := fun _ => ds
  st := fun _ => ⟨[],[]⟩
  pre := fun _ => p
  post := fun _ _ => True
  res := fun _ _ => .ret d
  out := fun _ _ => ⟨[],[]⟩
  fit := some ()
def pQ {α:Type} (ds:List D) (d:α→D) (q:α→Prop) (p:Prop):FnSpec where
  β := Unit
  α := α
  args := fun _ => ds
  st := fun _ => ⟨[],[]⟩
  pre := fun _ => p
  post := fun _ y => q y
  res := fun _ y => .ret (d y)
  out := fun _ _ => ⟨[],[]⟩
  fit := some ()
theorem leS_nil (S:St):leS ⟨[],[]⟩ S := by simp [leS,chk_iff,nodupB,leO,leT]
theorem pC_ok {k : Nat} {ds : List D} {S : St} {us : List D} {d : D} {p : Prop} (h : p → weakL ds us ∧ ACalls Tryz.prog k us ⟨[], []⟩ (SpecR (sC us d) ())) :
    (∀ x,(pC us d p).pre x→ACalls Tryz.prog k ((pC us d p).args x) ((pC us d p).st x) (SpecR (pC us d p) x))∧(∀ x,(pC us d p).fit = some x→(pC us d p).pre x→weakL ds ((pC us d p).args x)∧leS ((pC us d p).st x) S)∧((pC us d p).all = true→∀ x,(pC us d p).pre x→weakL ds ((pC us d p).args x)∧(pC us d p).st x = S) :=
  ⟨fun _ hp => (h hp).2.mono fun _ _ ⟨_,h1,h2,h3⟩ => ⟨(),trivial,h2,h3⟩,fun _ _ hp => ⟨(h hp).1,leS_nil S⟩,fun e => nomatch e⟩
theorem pQ_ok {α : Type} {k : Nat} {ds : List D} {S : St} {us : List D} {d : α → D} {q : α → Prop} {p : Prop} (h : p → weakL ds us ∧ ACalls Tryz.prog k us ⟨[], []⟩ (SpecR (pQ us d q p) ())) :
    (∀ x,(pQ us d q p).pre x→ACalls Tryz.prog k ((pQ us d q p).args x) ((pQ us d q p).st x) (SpecR (pQ us d q p) x))∧(∀ x,(pQ us d q p).fit = some x→(pQ us d q p).pre x→weakL ds ((pQ us d q p).args x)∧leS ((pQ us d q p).st x) S)∧((pQ us d q p).all = true→∀ x,(pQ us d q p).pre x→weakL ds ((pQ us d q p).args x)∧(pQ us d q p).st x = S) :=
  ⟨fun _ hp => (h hp).2,fun _ _ hp => ⟨(h hp).1,leS_nil S⟩,fun e => nomatch e⟩
theorem drop_step {α:Type} [Inhabited α] {l:List α} {i:Nat} (h:i < l.length):l.drop i = l.getD i default :: l.drop (i + 1) := by
  rw [List.drop_eq_getElem_cons h]
  simp [List.getD_eq_getElem?_getD,h]
theorem take_step {α:Type} [Inhabited α] {l:List α} {i:Nat} (h:i < l.length):l.take (i + 1) = l.take i ++ [l.getD i default] := by
  rw [List.take_add_one]
  simp [List.getD_eq_getElem?_getD,h]
end Go.Proofs.YtflbmbkhjcbhoaaGreatDoor
namespace Go.Proofs.YtflbmbkhjcbhoaaGreatDoor
open Go Go.Ab
def bsl (l:List UInt8) (m:Ab.Mode):D := .sl 1 l.length (fun i => [.int .u8 ((l.getD i 0).toNat:Int)]) m
def isl (l:List Int) (m:Ab.Mode):D := .sl 1 l.length (fun i => [.int .i64 (l.getD i 0)]) m
inductive Arr where
  | mk (kind:Int) (shape nums:List Int) (items:List Arr)
def inI64 (z:Int):Prop := -9223372036854775808 ≤ z∧z ≤ 9223372036854775807
mutual
def Arr.row:Arr→List D
  | .mk k s n is => [.int .i64 k,isl s .any,isl n .any,.sl 4 (rowsL is).length (fun i => (rowsL is).getD i []) .any]
def rowsL:List Arr→List (List D)
  | [] => []
  | a :: r => a.row :: rowsL r
end
mutual
def Arr.ok:Arr→Prop
  | .mk k s n is => inI64 k∧(∀ z ∈ s,inI64 z)∧(∀ z ∈ n,inI64 z)∧s.length ≤ maxLen∧n.length ≤ maxLen∧is.length ≤ maxLen∧okL is
def okL:List Arr→Prop
  | [] => True
  | a :: r => a.ok∧okL r
end
mutual
/-- Nothing in it is longer than a machine's memory. -/
def Arr.sm:Arr→Prop
  | .mk _ s n is => s.length ≤ maxB∧n.length ≤ maxB∧is.length ≤ maxB∧smL is
def smL:List Arr→Prop
  | [] => True
  | a :: r => a.sm∧smL r
end
theorem smL_iff:∀ (l:List Arr),smL l↔∀ a ∈ l,a.sm
  | [] => by simp [smL]
  | a :: l => by simp only [smL,List.forall_mem_cons,smL_iff l]
theorem maxB_le {n:Nat} (h:n ≤ maxB):n ≤ maxLen := Nat.le_trans h (by decide)
theorem rowsL_map:∀ (l:List Arr),rowsL l = l.map Arr.row
  | [] => rfl
  | a :: l => by simp only [rowsL,List.map_cons,rowsL_map l]
theorem okL_iff:∀ (l:List Arr),okL l↔∀ a ∈ l,a.ok
  | [] => by simp [okL]
  | a :: l => by simp only [okL,List.forall_mem_cons,okL_iff l]
def RInts:List D→Prop := fun ds => ∃ l:List Int,(∀ z ∈ l,inI64 z)∧l.length ≤ maxB∧ds = [isl l .any]
def RArr:List D→Prop := fun ds => ∃ a:Arr,(a.ok∧a.sm)∧ds = a.row
theorem int_row:∀ x,RInt .i64 x→∃ z,inI64 z∧x = [.int .i64 z] := by
  rintro x ⟨n,rfl,h1,h2⟩
  simp only [IntKind.min,IntKind.max,IntKind.signed,IntKind.bits] at h1 h2
  exact ⟨n,⟨by simpa using h1,by simp at h2; omega⟩,rfl⟩
theorem read_ints (W:World) (n:Nat):ReadAt Tryz.prog W n 50 RInts := by
  cases n with
  | zero => exact .zero _ _
  | succ n =>
    refine (read_sliceA (w := 1) Tryz.underlying50 (by kernel_rfl) (by decide) (by decide +kernel) (read_int Tryz.underlying3 W n)).weak ?_
    rintro _ ds vs ⟨l,h1,h2,rfl⟩ h
    obtain ⟨l',q,rfl⟩ := rows_of int_row l h1
    refine ⟨_,⟨l',q,by simpa using h2,rfl⟩,weakL_weak _ _ ?_ _ _ h⟩
    simp only [isl,weakL,weakD,chk_iff]
    refine ⟨⟨by simp,by simp,fun i hi => ?_,by simp [weakM]⟩,trivial⟩
    have hi:i < l'.length := by simpa using hi
    simp [List.getD_eq_getElem?_getD,hi]
theorem read_arr (W:World):∀ n,ReadAt Tryz.prog W n 52 RArr
  | 0 => .zero _ _
  | n + 1 => by
    have hi:ReadAt Tryz.prog W n 22 (RSliceA 4 RArr) := by
      cases n with
      | zero => exact .zero _ _
      | succ m => exact read_sliceA (w := 4) Tryz.underlying22 (by kernel_rfl) (by decide) (by decide +kernel) (read_arr W m)
    refine (read_struct Tryz.underlying52 (by kernel_rfl) (Rs := [RInt .i64,RInts,RInts,RSliceA 4 RArr]) ⟨read_int (by kernel_rfl) W n,read_ints W n,read_ints W n,hi,trivial⟩).mono ?_
    rintro ds ⟨_,_,h1,⟨_,_,h2,⟨_,_,h3,⟨_,_,h4,h5,rfl⟩,rfl⟩,rfl⟩,rfl⟩
    obtain rfl:_ = [] := h5
    obtain ⟨k,hk,rfl⟩ := int_row _ h1
    obtain ⟨s,s1,s2,rfl⟩ := h2
    obtain ⟨m,m1,m2,rfl⟩ := h3
    obtain ⟨l,l1,l2,rfl⟩ := h4
    obtain ⟨is,q,rfl⟩ := rows_of (g := Arr.row) (Q := fun a => a.ok∧a.sm) (fun x hx => hx) l l1
    have l2:is.length ≤ maxB := by simpa using l2
    refine ⟨.mk k s m is,⟨?_,?_⟩,?_⟩
    · simp only [Arr.ok]
      exact ⟨hk,s1,m1,maxB_le s2,maxB_le m2,maxB_le l2,(okL_iff _).2 fun a ha => (q a ha).1⟩
    · simp only [Arr.sm]
      exact ⟨s2,m2,l2,(smL_iff _).2 fun a ha => (q a ha).2⟩
    · simp only [Arr.row,rowsL_map,List.cons_append,List.nil_append]
end Go.Proofs.YtflbmbkhjcbhoaaGreatDoor
namespace Go.Proofs.YtflbmbkhjcbhoaaGreatDoor
open Go Go.Ab
structure I4 where
  (a b c d:Int)
  deriving Inhabited
structure I6 where
  (a b c d e f:Int)
  deriving Inhabited
def I4.row (x:I4):List D := [.int .i64 x.a,.int .i64 x.b,.int .i64 x.c,.int .i64 x.d]
def I6.row (x:I6):List D := [.int .i64 x.a,.int .i64 x.b,.int .i64 x.c,.int .i64 x.d,.int .i64 x.e,.int .i64 x.f]
def I4.ok (x:I4):Prop := inI64 x.a∧inI64 x.b∧inI64 x.c∧inI64 x.d
def I6.ok (x:I6):Prop := inI64 x.a∧inI64 x.b∧inI64 x.c∧inI64 x.d∧inI64 x.e∧inI64 x.f
def gsl {α:Type} [Inhabited α] (w:Nat) (g:α→List D) (l:List α):D := .sl w l.length (fun i => g (l.getD i default)) .any
structure FnD where
  slots:Int
  code:List I4
  deriving Inhabited
structure KeD where
  inputs:Int
  ops:List I4
  (reduce at_:Int)
  deriving Inhabited
structure LaD where
  regs:Int
  code:List I6
  deriving Inhabited
def FnD.row (f:FnD):List D := [.int .i64 f.slots,gsl 4 I4.row f.code]
def KeD.row (k:KeD):List D := [.int .i64 k.inputs,gsl 4 I4.row k.ops,.int .i64 k.reduce,.int .i64 k.at_]
def LaD.row (p:LaD):List D := [.int .i64 p.regs,gsl 6 I6.row p.code]
def FnD.ok (f:FnD):Prop := inI64 f.slots∧(∀ x ∈ f.code,x.ok)∧f.code.length ≤ maxLen
def KeD.ok (k:KeD):Prop := inI64 k.inputs∧(∀ x ∈ k.ops,x.ok)∧k.ops.length ≤ maxLen∧inI64 k.reduce∧inI64 k.at_
def LaD.ok (p:LaD):Prop := inI64 p.regs∧(∀ x ∈ p.code,x.ok)∧p.code.length ≤ maxLen
instance:Inhabited Arr := ⟨.mk 0 [] [] []⟩
structure CodD where
  consts:List Arr
  funs:List FnD
  kers:List KeD
  lanes:List LaD
def CodD.row (c:CodD):List D := [gsl 4 Arr.row c.consts,gsl 2 FnD.row c.funs,gsl 4 KeD.row c.kers,gsl 2 LaD.row c.lanes]
def CodD.ok (c:CodD):Prop := (∀ x ∈ c.consts,x.ok)∧(∀ x ∈ c.funs,x.ok)∧(∀ x ∈ c.kers,x.ok)∧(∀ x ∈ c.lanes,x.ok)∧c.consts.length ≤ maxLen∧c.funs.length ≤ maxLen∧c.kers.length ≤ maxLen∧c.lanes.length ≤ maxLen
def CodD.sm (c:CodD):Prop := (∀ x ∈ c.consts,x.sm)∧(∀ x ∈ c.funs,x.code.length ≤ maxB)∧(∀ x ∈ c.kers,x.ops.length ≤ maxB)∧(∀ x ∈ c.lanes,x.code.length ≤ maxB)∧c.consts.length ≤ maxB∧c.funs.length ≤ maxB∧c.kers.length ≤ maxB∧c.lanes.length ≤ maxB
def RG {α:Type} [Inhabited α] (w:Nat) (g:α→List D) (Q:α→Prop):List D→Prop := fun ds => ∃ l:List α,(∀ a ∈ l,Q a)∧l.length ≤ maxB∧ds = [gsl w g l]
theorem read_g {α : Type} [Inhabited α] {W : World} {w : Nat} {g : α → List D} {Q : α → Prop} {R : List D → Prop} {t e : TypeId} (ht : Tryz.prog.underlying t = some (.slice e)) (hw : Tryz.prog.cellsOf e = w) (hc : 0 < w) (hby : 0 < Tryz.prog.bytesOf e) (hR : ∀ x, R x → ∃ a, Q a ∧ x = g a) (he : ∀ n, ReadAt Tryz.prog W n e R) (n : Nat) :
    ReadAt Tryz.prog W n t (RG w g Q) := by
  cases n with
  | zero => exact .zero _ _
  | succ n =>
    refine (read_sliceA ht hw hc hby (he n)).weak ?_
    rintro _ ds vs ⟨l,h1,h2,rfl⟩ h
    obtain ⟨l',q,rfl⟩ := rows_of hR l h1
    refine ⟨_,⟨l',q,by simpa using h2,rfl⟩,weakL_weak _ _ ?_ _ _ h⟩
    simp only [gsl,weakL,weakD,chk_iff]
    refine ⟨⟨by simp,by simp,fun i hi => ?_,by simp [weakM]⟩,trivial⟩
    have hi:i < l'.length := by simpa using hi
    simp [List.getD_eq_getElem?_getD,hi]
theorem read4 {W : World} {t : TypeId} {fs : Array Field} {t1 t2 t3 t4 : TypeId} (ht : Tryz.prog.underlying t = some (.struct fs)) (hl : layB Tryz.prog fs.toList 0 (Tryz.prog.cellsOf t) = true) (hts : fs.toList.map (·.type) = [t1, t2, t3, t4])
    (hi:∀ k ∈ [t1,t2,t3,t4],Tryz.prog.underlying k = some (.int .i64)) (n:Nat):ReadAt Tryz.prog W n t (fun ds => ∃ x:I4,x.ok∧ds = x.row) := by
  cases n with
  | zero => exact .zero _ _
  | succ n =>
    refine (read_struct ht hl (Rs := [RInt .i64,RInt .i64,RInt .i64,RInt .i64]) ?_).mono ?_
    · match hfs:fs.toList,hts with
      | [f1,f2,f3,f4],hts =>
        simp only [List.map_cons,List.map_nil,List.cons.injEq,and_true] at hts
        obtain ⟨rfl,rfl,rfl,rfl⟩ := hts
        exact ⟨read_int (hi _ (by simp)) W n,read_int (hi _ (by simp)) W n,read_int (hi _ (by simp)) W n,read_int (hi _ (by simp)) W n,trivial⟩
    · rintro ds ⟨_,_,h1,⟨_,_,h2,⟨_,_,h3,⟨_,_,h4,h5,rfl⟩,rfl⟩,rfl⟩,rfl⟩
      obtain rfl:_ = [] := h5
      obtain ⟨a,ha,rfl⟩ := int_row _ h1
      obtain ⟨b,hb,rfl⟩ := int_row _ h2
      obtain ⟨c,hc,rfl⟩ := int_row _ h3
      obtain ⟨d,hd,rfl⟩ := int_row _ h4
      exact ⟨⟨a,b,c,d⟩,⟨ha,hb,hc,hd⟩,rfl⟩
theorem read_instr (W:World) (n:Nat):ReadAt Tryz.prog W n 46 (fun ds => ∃ x:I4,x.ok∧ds = x.row) :=
  read4 Tryz.underlying46 (by kernel_rfl) (t1 := 44) (t2 := 3) (t3 := 3) (t4 := 3) rfl (by intro k hk; simp only [List.mem_cons,List.not_mem_nil,or_false] at hk; rcases hk with rfl | rfl | rfl | rfl <;> kernel_rfl) n
theorem read_kop (W:World) (n:Nat):ReadAt Tryz.prog W n 78 (fun ds => ∃ x:I4,x.ok∧ds = x.row) :=
  read4 Tryz.underlying78 (by kernel_rfl) (t1 := 54) (t2 := 3) (t3 := 3) (t4 := 3) rfl (by intro k hk; simp only [List.mem_cons,List.not_mem_nil,or_false] at hk; rcases hk with rfl | rfl | rfl | rfl <;> kernel_rfl) n
theorem read_fn (W:World) (n:Nat):ReadAt Tryz.prog W n 40 (fun ds => ∃ x:FnD,(x.ok∧x.code.length ≤ maxB)∧ds = x.row) := by
  cases n with
  | zero => exact .zero _ _
  | succ n =>
    refine (read_struct Tryz.underlying40 (by kernel_rfl) (Rs := [RInt .i64,RG 4 I4.row I4.ok]) ⟨read_int Tryz.underlying3 W n,read_g Tryz.underlying38 (by kernel_rfl) (by decide) (by decide +kernel) (fun _ h => h) (read_instr W) n,trivial⟩).mono ?_
    rintro ds ⟨_,_,h1,⟨_,_,⟨l,q,hl,rfl⟩,h5,rfl⟩,rfl⟩
    obtain rfl:_ = [] := h5
    obtain ⟨a,ha,rfl⟩ := int_row _ h1
    exact ⟨⟨a,l⟩,⟨⟨ha,q,maxB_le hl⟩,hl⟩,rfl⟩
theorem read6 {W : World} {t : TypeId} {fs : Array Field} {t1 t2 t3 t4 t5 t6 : TypeId} (ht : Tryz.prog.underlying t = some (.struct fs)) (hl : layB Tryz.prog fs.toList 0 (Tryz.prog.cellsOf t) = true) (hts : fs.toList.map (·.type) = [t1, t2, t3, t4, t5, t6])
    (hi:∀ k ∈ [t1,t2,t3,t4,t5,t6],Tryz.prog.underlying k = some (.int .i64)) (n:Nat):ReadAt Tryz.prog W n t (fun ds => ∃ x:I6,x.ok∧ds = x.row) := by
  cases n with
  | zero => exact .zero _ _
  | succ n =>
    refine (read_struct ht hl (Rs := [RInt .i64,RInt .i64,RInt .i64,RInt .i64,RInt .i64,RInt .i64]) ?_).mono ?_
    · match hfs:fs.toList,hts with
      | [f1,f2,f3,f4,f5,f6],hts =>
        simp only [List.map_cons,List.map_nil,List.cons.injEq,and_true] at hts
        obtain ⟨rfl,rfl,rfl,rfl,rfl,rfl⟩ := hts
        exact ⟨read_int (hi _ (by simp)) W n,read_int (hi _ (by simp)) W n,read_int (hi _ (by simp)) W n,read_int (hi _ (by simp)) W n,read_int (hi _ (by simp)) W n,read_int (hi _ (by simp)) W n,trivial⟩
    · rintro ds ⟨_,_,h1,⟨_,_,h2,⟨_,_,h3,⟨_,_,h4,⟨_,_,h5,⟨_,_,h6,h7,rfl⟩,rfl⟩,rfl⟩,rfl⟩,rfl⟩,rfl⟩
      obtain rfl:_ = [] := h7
      obtain ⟨a,ha,rfl⟩ := int_row _ h1
      obtain ⟨b,hb,rfl⟩ := int_row _ h2
      obtain ⟨c,hc,rfl⟩ := int_row _ h3
      obtain ⟨d,hd,rfl⟩ := int_row _ h4
      obtain ⟨e,he,rfl⟩ := int_row _ h5
      obtain ⟨f,hf,rfl⟩ := int_row _ h6
      exact ⟨⟨a,b,c,d,e,f⟩,⟨ha,hb,hc,hd,he,hf⟩,rfl⟩
theorem read_lop (W:World) (n:Nat):ReadAt Tryz.prog W n 82 (fun ds => ∃ x:I6,x.ok∧ds = x.row) :=
  read6 Tryz.underlying82 (by kernel_rfl) (t1 := 80) (t2 := 54) (t3 := 3) (t4 := 3) (t5 := 3) (t6 := 3) rfl (by intro k hk; simp only [List.mem_cons,List.not_mem_nil,or_false] at hk; rcases hk with rfl | rfl | rfl | rfl | rfl | rfl <;> kernel_rfl) n
theorem read_ker (W:World) (n:Nat):ReadAt Tryz.prog W n 56 (fun ds => ∃ x:KeD,(x.ok∧x.ops.length ≤ maxB)∧ds = x.row) := by
  cases n with
  | zero => exact .zero _ _
  | succ n =>
    refine (read_struct Tryz.underlying56 (by kernel_rfl) (Rs := [RInt .i64,RG 4 I4.row I4.ok,RInt .i64,RInt .i64]) ⟨read_int Tryz.underlying3 W n,read_g Tryz.underlying53 (by kernel_rfl) (by decide) (by decide +kernel) (fun _ h => h) (read_kop W) n,read_int (by kernel_rfl) W n,read_int Tryz.underlying3 W n,trivial⟩).mono ?_
    rintro ds ⟨_,_,h1,⟨_,_,⟨l,q,hl,rfl⟩,⟨_,_,h3,⟨_,_,h4,h5,rfl⟩,rfl⟩,rfl⟩,rfl⟩
    obtain rfl:_ = [] := h5
    obtain ⟨a,ha,rfl⟩ := int_row _ h1
    obtain ⟨r,hr,rfl⟩ := int_row _ h3
    obtain ⟨t,ht,rfl⟩ := int_row _ h4
    exact ⟨⟨a,l,r,t⟩,⟨⟨ha,q,maxB_le hl,hr,ht⟩,hl⟩,rfl⟩
theorem read_lane (W:World) (n:Nat):ReadAt Tryz.prog W n 59 (fun ds => ∃ x:LaD,(x.ok∧x.code.length ≤ maxB)∧ds = x.row) := by
  cases n with
  | zero => exact .zero _ _
  | succ n =>
    refine (read_struct Tryz.underlying59 (by kernel_rfl) (Rs := [RInt .i64,RG 6 I6.row I6.ok]) ⟨read_int Tryz.underlying3 W n,read_g Tryz.underlying57 (by kernel_rfl) (by decide) (by decide +kernel) (fun _ h => h) (read_lop W) n,trivial⟩).mono ?_
    rintro ds ⟨_,_,h1,⟨_,_,⟨l,q,hl,rfl⟩,h5,rfl⟩,rfl⟩
    obtain rfl:_ = [] := h5
    obtain ⟨a,ha,rfl⟩ := int_row _ h1
    exact ⟨⟨a,l⟩,⟨⟨ha,q,maxB_le hl⟩,hl⟩,rfl⟩
theorem read_code:Reads Tryz.prog 27 (fun ds => ∃ c:CodD,(c.ok∧c.sm)∧ds = c.row) := by
  intro W n
  cases n with
  | zero => exact .zero _ _
  | succ n =>
    refine (read_struct Tryz.underlying27 (by kernel_rfl) (Rs := [RG 4 Arr.row (fun x => x.ok∧x.sm),RG 2 FnD.row (fun x => x.ok∧x.code.length ≤ maxB),RG 4 KeD.row (fun x => x.ok∧x.ops.length ≤ maxB),RG 2 LaD.row (fun x => x.ok∧x.code.length ≤ maxB)]) ⟨read_g Tryz.underlying22 (by kernel_rfl) (by decide) (by decide +kernel) (fun _ h => h) (read_arr W) n,
      read_g Tryz.underlying23 (by kernel_rfl) (by decide) (by decide +kernel) (fun _ h => h) (read_fn W) n,read_g Tryz.underlying24 (by kernel_rfl) (by decide) (by decide +kernel) (fun _ h => h) (read_ker W) n,read_g Tryz.underlying25 (by kernel_rfl) (by decide) (by decide +kernel) (fun _ h => h) (read_lane W) n,trivial⟩).mono ?_
    rintro ds ⟨_,_,⟨l1,q1,h1,rfl⟩,⟨_,_,⟨l2,q2,h2,rfl⟩,⟨_,_,⟨l3,q3,h3,rfl⟩,⟨_,_,⟨l4,q4,h4,rfl⟩,h5,rfl⟩,rfl⟩,rfl⟩,rfl⟩
    obtain rfl:_ = [] := h5
    exact ⟨⟨l1,l2,l3,l4⟩,⟨⟨fun x hx => (q1 x hx).1,fun x hx => (q2 x hx).1,fun x hx => (q3 x hx).1,fun x hx => (q4 x hx).1,maxB_le h1,maxB_le h2,maxB_le h3,maxB_le h4⟩,fun x hx => (q1 x hx).2,fun x hx => (q2 x hx).2,fun x hx => (q3 x hx).2,fun x hx => (q4 x hx).2,h1,h2,h3,h4⟩,rfl⟩
def D4:I4 := I4.mk (0:Int) (0:Int) (0:Int) (0:Int)
def D6:I6 := I6.mk (0:Int) (0:Int) (0:Int) (0:Int) (0:Int) (0:Int)
def DF:FnD := FnD.mk (0:Int) []
def DK:KeD := KeD.mk (0:Int) [] (0:Int) (0:Int)
def DL:LaD := LaD.mk (0:Int) []
def DA:Arr := Arr.mk (0:Int) [] [] []
def GC (c:CodD) (i:Nat):Arr := List.getD (CodD.consts c) i (Arr.mk (0:Int) [] [] [])
def GF (c:CodD) (i:Nat):FnD := List.getD (CodD.funs c) i (FnD.mk (0:Int) [])
def GK (c:CodD) (i:Nat):KeD := List.getD (CodD.kers c) i (KeD.mk (0:Int) [] (0:Int) (0:Int))
def GL (c:CodD) (i:Nat):LaD := List.getD (CodD.lanes c) i (LaD.mk (0:Int) [])
def G4 (l:List I4) (i:Nat):I4 := List.getD l i (I4.mk (0:Int) (0:Int) (0:Int) (0:Int))
def G6 (l:List I6) (i:Nat):I6 := List.getD l i (I6.mk (0:Int) (0:Int) (0:Int) (0:Int) (0:Int) (0:Int))
def GA (l:List Arr) (i:Nat):Arr := List.getD l i (Arr.mk (0:Int) [] [] [])
def R4 (x:I4):List D := [D.int IntKind.i64 (I4.a x),D.int IntKind.i64 (I4.b x),D.int IntKind.i64 (I4.c x),D.int IntKind.i64 (I4.d x)]
def R6 (x:I6):List D := [D.int IntKind.i64 (I6.a x),D.int IntKind.i64 (I6.b x),D.int IntKind.i64 (I6.c x),D.int IntKind.i64 (I6.d x),D.int IntKind.i64 (I6.e x),D.int IntKind.i64 (I6.f x)]
end Go.Proofs.YtflbmbkhjcbhoaaGreatDoor
namespace Go.Proofs.YtflbmbkhjcbhoaaGreatDoor
open Go Go.Ab
def intD:List D→Int
  | [.int _ z] => z
  | _ => 0
def intsD (n:Nat) (f:Nat→List D):List Int := (List.range n).map fun i => intD (f i)
theorem intsD_isl (l:List Int):intsD l.length (fun i => [D.int .i64 (l.getD i 0)]) = l := by
  apply List.ext_getElem
  · simp [intsD]
  · intro i h1 h2
    simp [intsD,intD,List.getD_eq_getElem?_getD,h2]
def IntsP (n:Nat) (f:Nat→List D):Prop := ∀ i,i < n→f i = [.int .i64 (intD (f i))]
theorem isl_weak {n:Nat} {f:Nat→List D} {m:Ab.Mode} (h:IntsP n f):weakL [.sl 1 n f m] [isl (intsD n f) .any] := by
  simp only [isl,weakL,weakD,chk_iff]
  refine ⟨⟨by simp,by simp [intsD],fun i hi => ?_,by simp [weakM]⟩,trivial⟩
  have e:(intsD n f).getD i 0 = intD (f i) := by simp [intsD,List.getD_eq_getElem?_getD,hi]
  rw [e]
  exact h i hi
def goO:List Int→Int→Option Int
  | [],p => some p
  | d :: r,p => if d < 0∨65536 < d then none else if d = 0 then goO r p else if 65536 < p * d then none else goO r (p * d)
def rightS (s:List Int):Bool := decide (s.length ≤ 8) && (goO s 1).isSome
def sizeS (s:List Int):Int := if s.contains 0 then 0 else (goO s 1).getD 0
structure GoHead (l:List Int) (i:Nat) (p:Int):Prop where
  hi:i ≤ l.length
  h1:1 ≤ p
  h2:p ≤ 65536
  hg:goO (l.drop i) p = goO l 1
theorem GoHead.init (l:List Int):GoHead l 0 1 := ⟨Nat.zero_le _,by omega,by omega,by simp⟩
theorem drop_stepI {l:List Int} {i:Nat} (h:i < l.length):l.drop i = l.getD i 0 :: l.drop (i + 1) := drop_step h
theorem GoHead.step {l : List Int} {i : Nat} {p : Int} (h : GoHead l i p) (hlt : i < l.length) :
    (l.getD i 0 < 0→goO l 1 = none)∧(65536 < l.getD i 0→goO l 1 = none)∧(l.getD i 0 = 0→GoHead l (i + 1) p) ∧
    (¬ l.getD i 0 < 0→¬ 65536 < l.getD i 0→0 ≤ p * l.getD i 0∧p * l.getD i 0 ≤ 4294967296∧(65536 < p * l.getD i 0→l.getD i 0 ≠ 0→goO l 1 = none)∧(¬ 65536 < p * l.getD i 0→l.getD i 0 ≠ 0→GoHead l (i + 1) (p * l.getD i 0))) := by
  have hg := h.hg
  rw [drop_stepI hlt,goO] at hg
  generalize l.getD i 0 = d at *
  refine ⟨fun h0 => ?_,fun h0 => ?_,fun h0 => ?_,fun h0 h3 => ?_⟩
  · rw [if_pos (.inl h0)] at hg; exact hg.symm
  · rw [if_pos (.inr h0)] at hg; exact hg.symm
  · subst h0
    simp at hg
    exact ⟨by omega,h.h1,h.h2,hg⟩
  · have b1:0 ≤ p * d := Int.mul_nonneg (by have := h.h1; omega) (by omega)
    have b2:p * d ≤ 65536 * 65536 := Int.mul_le_mul h.h2 (by omega) (by omega) (by omega)
    refine ⟨b1,by omega,fun h4 h5 => ?_,fun h4 h5 => ?_⟩
    · rw [if_neg (by omega),if_neg h5,if_pos h4] at hg; exact hg.symm
    · rw [if_neg (by omega),if_neg h5,if_neg h4] at hg
      refine ⟨by omega,?_,by omega,hg⟩
      have:0 < p * d := Int.mul_pos (by have := h.h1; omega) (by omega)
      omega
theorem GoHead.done {l:List Int} {i:Nat} {p:Int} (h:GoHead l i p) (hge:¬ (i:Int) < l.length):goO l 1 = some p := by
  have hg := h.hg
  have:i = l.length := by have := h.hi; omega
  rw [this,List.drop_length,goO] at hg
  exact hg.symm
noncomputable def Eright (l:List Int):Senv := { EC con0 31 1 [2,3,5,8,9,10,11,12,15,22,29] (fun _ => ([],[])) with
  ann := fun b _ _ => match b with
    | 0 => some { slots := [11,3],keep := [9,10],α := Nat × Int,st := fun y => ([.int .i64 y.1,.int .i64 y.2],⟨[],[]⟩),inv := fun y => GoHead l y.1 y.2,mu := fun y => l.length - y.1 }
    | _ => none }
noncomputable section
def shq0 (p0:List Int):Prop := True∧∃ (_y:Unit),True∧false = rightS p0∧True∧True
def shq1 (p0:List Int) (p1:Nat) (p2:Int):Prop := GoHead p0 p1 p2
def shq2 (p0:List Int) (p1:Nat):Int := GI p0 (Int.toNat (↑p1:Int))
def shq3 (p0:List Int) (p1:Nat):Bool := bif decide (shq2 p0 p1 < Z0) then true else decide ((65536:Int) < shq2 p0 p1)
def shq4 (p0:List Int):D := SI p0
def shq5 (p0:List Int):Prop := SM (shq4 p0)∧SM (ZI (LI p0))∧True
end
theorem right_ok (l:List Int):ACalls Tryz.prog 84 [isl l .any] ⟨[],[]⟩ (SpecR (sC [isl l .any] (.bool (rightS l))) ()) := by
  refine con_of (A := sC _ _) (x := ()) (E := Eright l) (eOk con0_ok rfl) Tryz.func84 rfl (by kernel_rfl) rfl (by simp [sC,Eright,EC,E0]) ?_
  refine vc_eq (T :=
    ifB (decide ((8:Int) < (LI l))) (shq0 l) ((∃ (x:Nat × Int),shq1 l x.1 x.2∧(Z0 = (NI x.1)∧Z1 = x.2∧True)∧True∧True)∧∀ (x:Nat × Int),shq1 l x.1 x.2→ifB (decide ((NI x.1) < (LI l))) (side (Z0 ≤ (NI x.1)∧(NI x.1) < (LI l)) (ifB (decide (shq2 l x.1 < Z0)) (true = shq3 l x.1∧True) (decide ((65536:Int) < shq2 l x.1) = shq3 l x.1∧True)∧ifB (shq3 l x.1) (shq0 l) (ifB (shq2 l x.1 == Z0) (shq5 l∧∃ (y:Nat × Int),shq1 l y.1 y.2∧LN l - y.1 < LN l - x.1∧(IntKind.wrap IntKind.i64 ((NI x.1) + Z1) = (NI y.1)∧x.2 = y.2∧True)∧True∧True) (ifB (decide ((65536:Int) < IntKind.wrap IntKind.i64 (x.2 * shq2 l x.1))) (shq0 l) (shq5 l∧∃ (y:Nat × Int),shq1 l y.1 y.2∧LN l - y.1 < LN l - x.1∧(IntKind.wrap IntKind.i64 ((NI x.1) + Z1) = (NI y.1)∧IntKind.wrap IntKind.i64 (x.2 * shq2 l x.1) = y.2∧True)∧True∧True))))) (True∧∃ (y:Unit),True∧true = rightS l∧True∧True))) (by kernel_rfl) ?_
  delta GI LI LN N1 NI SI SM Z0 Z1 ZI shq0 shq1 shq2 shq3 shq4 shq5
  simp only [Int.toNat_natCast,ifB_iff,side_iff,decide_eq_true_eq,decide_eq_false_iff_not,true_and,and_true,beq_iff_eq,Bool.cond_true_left,beq_eq_false_iff_ne,ne_eq,exists_const]
  have no:goO l 1 = none→false = rightS l := fun h => by simp [rightS,h]
  refine ⟨fun h => ?_,fun h8 => ⟨⟨(0,1),GoHead.init l,rfl,rfl⟩,?_⟩⟩
  · have:¬ l.length ≤ 8 := by omega
    simp [rightS,this]
  rintro ⟨i,p⟩ hh
  simp only at hh ⊢
  refine ⟨fun hlt => ?_,fun hge => ?_⟩
  rotate_left
  · have:l.length ≤ 8 := by omega
    simp [rightS,hh.done hge,this]
  have hlt':i < l.length := by omega
  obtain ⟨s1,s2,s3,s4⟩ := hh.step hlt'
  refine ⟨by omega,⟨fun h => by rw [decide_eq_true h]; rfl,fun h => by rw [decide_eq_false h]; rfl⟩,fun h => no ?_,fun h => ?_⟩
  · rw [Bool.or_eq_true,decide_eq_true_eq,decide_eq_true_eq] at h
    exact h.elim s1 s2
  · rw [Bool.or_eq_false_iff,decide_eq_false_iff_not,decide_eq_false_iff_not] at h
    obtain ⟨b1,b2,s5,s6⟩ := s4 h.1 h.2
    have hw:IntKind.i64.wrap (p * l.getD i 0) = p * l.getD i 0 := wrap_i64' (by omega) (by omega)
    rw [hw]
    exact ⟨fun hd => ⟨(i + 1,p),s3 hd,by simp only; omega,wrap_i64' (by omega) (by omega),rfl⟩,fun hd => ⟨fun h4 => no (s5 h4 hd),fun h4 => ⟨(i + 1,p * l.getD i 0),s6 h4 hd,by simp only; omega,wrap_i64' (by omega) (by omega),rfl⟩⟩⟩
noncomputable def Erprod (l:List Int):Senv := { EC con0 30 1 [2,3,4,8,15,20,28] (fun _ => ([],[])) with
  ann := fun b _ _ => match b with
    | 0 => some { slots := [4,3],keep := [0],α := Nat × Int,st := fun y => ([.int .i64 y.1,.int .i64 y.2],⟨[],[]⟩),inv := fun y => GoHead l y.1 y.2,mu := fun y => l.length - y.1 }
    | _ => none }
noncomputable section
def shq6 (p0:List Int) (p1:Nat) (p2:Int):Prop := GoHead p0 p1 p2
def shq7 (p0:List Int):Prop := True∧∃ (_y:Unit),True∧(65537:Int) = Option.getD (goO p0 Z1) (65537:Int)∧True∧True
def shq8 (p0:List Int):D := SI p0
def shq9 (p0:List Int):Prop := SM (shq8 p0)∧True
end
theorem rprod_ok (l:List Int) (h0:∀ z ∈ l,0 ≤ z) (hl:l.length ≤ maxLen):ACalls Tryz.prog 112 [isl l .any] ⟨[],[]⟩ (SpecR (sC [isl l .any] (.int .i64 ((goO l 1).getD 65537))) ()) := by
  refine con_of (A := sC _ _) (x := ()) (E := Erprod l) (eOk con0_ok rfl) Tryz.func112 rfl (by kernel_rfl) rfl (by simp [sC,Erprod,EC,E0]) ?_
  refine vc_eq (T :=
    (∃ (x:Nat × Int),shq6 l x.1 x.2∧(Z0 = (NI x.1)∧Z1 = x.2∧True)∧True∧True)∧∀ (x:Nat × Int),shq6 l x.1 x.2→ifB (decide ((NI x.1) < (LI l))) (side (Z0 ≤ (NI x.1)∧(NI x.1) < (LI l)) (ifB (decide ((65536:Int) < GI l (TN x.1))) (shq7 l) (side (Z0 ≤ (NI x.1)∧(NI x.1) < (LI l)) (ifB (decide (Z0 < GI l (TN x.1))) (side (Z0 ≤ (NI x.1)∧(NI x.1) < (LI l)) (ifB (decide ((65536:Int) < IntKind.wrap IntKind.i64 (x.2 * GI l (TN x.1)))) (shq7 l) (shq9 l∧∃ (y:Nat × Int),shq6 l y.1 y.2∧LN l - y.1 < LN l - x.1∧(IntKind.wrap IntKind.i64 ((NI x.1) + Z1) = (NI y.1)∧IntKind.wrap IntKind.i64 (x.2 * GI l (TN x.1)) = y.2∧True)∧True∧True))) (ifB (decide ((65536:Int) < x.2)) (shq7 l) (shq9 l∧∃ (y:Nat × Int),shq6 l y.1 y.2∧LN l - y.1 < LN l - x.1∧(IntKind.wrap IntKind.i64 ((NI x.1) + Z1) = (NI y.1)∧x.2 = y.2∧True)∧True∧True)))))) (True∧∃ (y:Unit),True∧x.2 = Option.getD (goO l Z1) (65537:Int)∧True∧True)) (by kernel_rfl) ?_
  delta GI LI LN N1 NI SI SM TN Z0 Z1 ZI shq6 shq7 shq8 shq9
  simp only [Int.toNat_natCast,ifB_iff,side_iff,decide_eq_true_eq,decide_eq_false_iff_not,true_and,and_true,exists_const]
  have no:goO l 1 = none→(65537:Int) = (goO l 1).getD 65537 := fun h => by simp [h]
  refine ⟨⟨(0,1),GoHead.init l,rfl,rfl⟩,?_⟩
  rintro ⟨i,p⟩ hh
  simp only at hh ⊢
  refine ⟨fun hlt => ?_,fun hge => by simp [hh.done hge]⟩
  have hlt':i < l.length := by omega
  obtain ⟨s1,s2,s3,s4⟩ := hh.step hlt'
  have hd0:0 ≤ l.getD i 0 := h0 _ (by rw [List.getD_eq_getElem?_getD,List.getElem?_eq_getElem hlt']; exact List.getElem_mem hlt')
  simp only [maxLen] at hl
  refine ⟨by omega,fun h => no (s2 h),fun h => ⟨by omega,?_⟩⟩
  obtain ⟨b1,b2,s5,s6⟩ := s4 (by omega) h
  have hw:IntKind.i64.wrap (p * l.getD i 0) = p * l.getD i 0 := wrap_i64' (by omega) (by omega)
  rw [hw]
  refine ⟨fun hd => ⟨by omega,fun h4 => no (s5 h4 (by omega)),fun h4 => ⟨(i + 1,p * l.getD i 0),s6 h4 (by omega),by simp only; omega,wrap_i64' (by omega) (by omega),rfl⟩⟩,fun hd => ⟨fun h4 => absurd h4 (by have := hh.h2; omega),fun _ => ⟨(i + 1,p),s3 (by omega),by simp only; omega,wrap_i64' (by omega) (by omega),rfl⟩⟩⟩
end Go.Proofs.YtflbmbkhjcbhoaaGreatDoor
namespace Go.Proofs.YtflbmbkhjcbhoaaGreatDoor
open Go Go.Ab
def between (n lo hi:Int):Bool := decide (lo ≤ n) && decide (n ≤ hi)
def primB (n:Int):Bool := between n 1 55
abbrev Eff := List UInt8 × List UInt8
def gu (b:Bool) (e:Eff):Option Eff := if b then some e else none
def plainS (main:Bool) (op:Int):Option Eff :=
  if op = 13 then gu (!main) ([],[102])
  else if op = 14 then gu (!main) ([],[102])
  else if op = 15 then gu (!main) ([],[102])
  else if op = 3 then gu (!main) ([],[97])
  else if op = 4 then gu (!main) ([],[97])
  else if op = 2 then some ([],[97])
  else if op = 19 then some ([97],[102])
  else if op = 20 then some ([102,102],[102])
  else if op = 21 then some ([102,102,102],[102])
  else if op = 22 then some ([102,97],[97])
  else if op = 23 then some ([102,97,97],[97])
  else if op = 26 then some ([97],[])
  else if op = 25 then (if main then some ([],[]) else some ([97],[]))
  else none
def effS (nc nf:Nat) (slots:Int) (len:Nat) (ks:List KeD) (main:Bool) (x:I4):Option Eff :=
  if x.a = 1 then gu (between x.b 0 (nc - 1) && decide (x.c = 0)) ([],[97])
  else if x.a = 5 then gu (decide (0 ≤ x.b) && decide (0 ≤ x.c)) ([],[97])
  else if x.a = 12 then gu (decide (0 ≤ x.b) && decide (0 ≤ x.c)) ([],[102])
  else if x.a = 6 then gu (between x.b 0 (IntKind.i64.wrap (slots - 1)) && decide (x.c = 0)) ([42],[])
  else if x.a = 7 then gu (between x.b 2 1000 && decide (x.c = 0)) (Lib.repeatL [97] x.b.toNat,[97])
  else if x.a = 8 then gu (primB x.b && decide (x.c = 0)) ([97],[97])
  else if x.a = 9 then gu (primB x.b && decide (x.c = 0)) ([97,97],[97])
  else if x.a = 10 then gu (primB x.b && decide (x.c = 0)) ([],[102])
  else if x.a = 11 then gu (between x.b 1 (nf - 1) && decide (x.c = 0)) ([],[102])
  else if x.a = 16 then gu (between x.b 1 5 && decide (x.c = 0)) ([102],[102])
  else if x.a = 17 then (if x.b = 6∨x.b = 10∨x.b = 11 then gu (decide (x.c = 1)) ([102,102],[102]) else gu (between x.b 7 9 && decide (x.c = 0)) ([102,97],[102]))
  else if x.a = 18 then gu (between x.b 2 3 && decide (x.c = 0)) (Lib.repeatL [102] x.b.toNat,[102])
  else if x.a = 24 then gu (between x.b 0 (len - 1) && decide (x.c = 0)) ([97],[])
  else if x.a = 27 then (if between x.b 0 (ks.length - 1) then gu (between (ks.getD x.b.toNat default).inputs 1 16 && decide (x.c = 0)) (Lib.repeatL [97] (ks.getD x.b.toNat default).inputs.toNat,[97]) else none)
  else if x.b = 0∧x.c = 0 then plainS main x.a else none
def effC (c:CodD) (f:Nat) (x:I4):Option Eff := effS c.consts.length c.funs.length (c.funs.getD f default).slots (c.funs.getD f default).code.length c.kers (decide (f = 0)) x
end Go.Proofs.YtflbmbkhjcbhoaaGreatDoor
namespace Go.Proofs.YtflbmbkhjcbhoaaGreatDoor
open Go Go.Ab
theorem repeat_ok (s:List UInt8) (n:Int) (h0:0 ≤ n) (hn:n ≤ 9223372036854775807) (hl:s.length * n.toNat ≤ 140737488355328):ACalls Tryz.prog 111 [.str s,.int .i64 n] ⟨[],[]⟩ (SpecR (sC [.str s,.int .i64 n] (.str (Lib.repeatL s n.toNat))) ()) := by
  refine ACalls.of_shelf ⟨_,Tryz.func111,by kernel_rfl,by kernel_rfl⟩ fun C args w ha => ?_
  obtain ⟨u,v,e,hu,hv⟩ := repL_two' ha
  have e2:args = [u,v].toArray := by rw [← e]
  subst e2
  simp only [Rep] at hu hv; subst hu hv
  have := Tryz.strings_Repeat ⟨s.toArray⟩ n.toNat w (by omega) (by simpa [ByteArray.size] using hl)
  rw [show ((n.toNat:Nat):Int) = n by omega] at this
  exact this.mono fun e w' ⟨h1,h2⟩ => ⟨⟨_,h1,by simp [Rep]⟩,h2⟩
def conR:Con := fun k ds _ => match k with
  | 111 => match ds with
    | [.str s,.int .i64 n] => some (pC [.str s,.int .i64 n] (.str (Lib.repeatL s n.toNat)) (0 ≤ n∧n ≤ 9223372036854775807∧s.length * n.toNat ≤ 140737488355328))
    | _ => none
  | _ => none
theorem conR_ok:ConOk Tryz.prog conR := by
  intro k ds S A h
  unfold conR at h
  split at h
  · split at h
    · injection h with h; subst h
      exact pC_ok fun ⟨h1,h2,h3⟩ => ⟨weakL_refl _,repeat_ok _ _ h1 h2 h3⟩
    · cases h
  · cases h
theorem repeatL_snoc (s:List UInt8):∀ i,Lib.repeatL s i ++ s = Lib.repeatL s (i + 1)
  | 0 => by simp [Lib.repeatL]
  | i + 1 => by rw [Lib.repeatL,List.append_assoc,repeatL_snoc s i,← Lib.repeatL]
noncomputable def Ermany (s:List UInt8) (n:Nat):Senv := { EC con0 16 2 [4,5,6,9] (fun _ => ([],[])) with
  ann := fun b _ _ => match b with
    | 0 => some { slots := [5,6],keep := [0,1],α := Nat,st := fun i => ([.str (Lib.repeatL s i),.int .i64 i],⟨[],[]⟩),inv := fun i => i ≤ n,mu := fun i => n - i }
    | _ => none }
theorem rmany_ok (s:List UInt8) (n:Nat) (hn:n ≤ 1000) (hs:s.length = 1):ACalls Tryz.prog 58 [.str s,.int .i64 n] ⟨[],[]⟩ (SpecR (sC [.str s,.int .i64 n] (.str (Lib.repeatL s n))) ()) := by
  refine con_of (A := sC _ _) (x := ()) (E := Ermany s n) (eOk con0_ok rfl) Tryz.func58 rfl (by kernel_rfl) rfl (by simp [sC,Ermany,EC,E0]) ?_
  refine vc_eq (T :=
    (∃ (x:Nat),x ≤ n∧(eqOf (List UInt8) [] (Lib.repeatL s x)∧Z0 = (↑x:Int)∧True)∧True∧True)∧∀ (x:Nat),x ≤ n→ifB (decide ((↑x:Int) < (↑n:Int))) (side (LN (Lib.repeatL s x) + LN s ≤ (9223372036854775807:Nat)) ((SM (D.str s)∧SM (ZI (↑n:Int))∧True)∧∃ (y:Nat),y ≤ n∧n - y < n - x∧(Lib.repeatL s x ++ s = Lib.repeatL s y∧IntKind.wrap IntKind.i64 ((↑x:Int) + Z1) = (↑y:Int)∧True)∧True∧True)) (True∧∃ (y:Unit),True∧Lib.repeatL s x = Lib.repeatL s n∧True∧True)) (by kernel_rfl) ?_
  delta LN SM Z0 Z1 ZI
  simp only [ifB_iff,side_iff,decide_eq_true_eq,decide_eq_false_iff_not,true_and,and_true]
  refine ⟨⟨0,by omega,rfl,rfl⟩,fun i hi => ⟨fun h => ⟨?_,i + 1,by omega,by omega,repeatL_snoc s i,wrap_i64' (by omega) (by omega)⟩,fun h => ⟨(),?_⟩⟩⟩
  · rw [Lib.repeatL_length,hs]; omega
  · rw [show i = n by omega]
def conR2:Con := fun k ds S => match k with
  | 58 => match ds with
    | [.str s,.int .i64 n] => some (pC [.str s,.int .i64 n] (.str (Lib.repeatL s n.toNat)) (0 ≤ n∧n ≤ 1000∧s.length = 1))
    | _ => none
  | k => conR k ds S
theorem conR2_ok:ConOk Tryz.prog conR2 := by
  intro k ds S A h
  unfold conR2 at h
  split at h
  · split at h
    · rename_i s n
      injection h with h; subst h
      refine pC_ok fun ⟨h1,h2,h3⟩ => ⟨weakL_refl _,?_⟩
      obtain ⟨m,rfl⟩ := Int.eq_ofNat_of_zero_le h1
      exact rmany_ok s m (by omega) h3
    · cases h
  · exact conR_ok _ _ _ _ h
end Go.Proofs.YtflbmbkhjcbhoaaGreatDoor
namespace Go.Proofs.YtflbmbkhjcbhoaaGreatDoor
open Go Go.Ab
def idxB (p:Int→Bool):List Int→Nat→Int
  | [],_ => -1
  | d :: r,i => if p d then (i:Int) else idxB p r (i + 1)
theorem idxB_any (p:Int→Bool):∀ (l:List Int) (i:Nat),decide (0 ≤ idxB p l i) = l.any p
  | [],i => rfl
  | d :: r,i => by
    rw [idxB,List.any_cons]
    split
    · rename_i h; rw [h]; simp
    · rename_i h
      rw [idxB_any p r (i + 1)]
      simp [h]
structure IdxHead (p:Int→Bool) (l:List Int) (i:Nat):Prop where
  hi:i ≤ l.length
  hg:idxB p (l.drop i) i = idxB p l 0
theorem IdxHead.step {p:Int→Bool} {l:List Int} {i:Nat} (h:IdxHead p l i) (hlt:i < l.length):(p (l.getD i 0) = true→idxB p l 0 = i)∧(p (l.getD i 0) = false→IdxHead p l (i + 1)) := by
  have hg := h.hg
  rw [drop_stepI hlt,idxB] at hg
  refine ⟨fun e => ?_,fun e => ?_⟩
  · rw [if_pos e] at hg; exact hg.symm
  · rw [if_neg (by rw [e]; exact Bool.false_ne_true)] at hg; exact ⟨by omega,hg⟩
theorem IdxHead.done {p:Int→Bool} {l:List Int} {i:Nat} (h:IdxHead p l i) (hge:¬ (i:Int) < l.length):idxB p l 0 = -1 := by
  have hg := h.hg
  have:i = l.length := by have := h.hi; omega
  rw [this,List.drop_length,idxB] at hg
  exact hg.symm
def annI (p:Int→Bool) (l:List Int) (keep:List Nat):LoopAnn := { slots := [8],keep := keep,α := Nat,st := fun i => ([.int .i64 i],⟨[],[]⟩),inv := fun i => IdxHead p l i,mu := fun i => l.length - i }
noncomputable def Eidx (l:List Int) (v:Int):Senv := { EC con0 19 2 [4,5,7,8,9,16] (fun _ => ([],[])) with
  ann := fun b _ _ => match b with
    | 0 => some (annI (fun d => v == d) l [0,1,6,7])
    | _ => none }
noncomputable section
def sh2q0 (p0:Int) (p1:List Int) (p2:Nat):Prop := IdxHead (fun (d:Int) => p0 == d) p1 p2
def sh2q1 (p0:List Int):D := SI p0
end
theorem idx_ok (l:List Int) (v:Int) (hl:l.length ≤ maxLen):ACalls Tryz.prog 134 [isl l .any,.int .i64 v] ⟨[],[]⟩ (SpecR (sC [isl l .any,.int .i64 v] (.int .i64 (idxB (fun d => v == d) l 0))) ()) := by
  refine con_of (A := sC _ _) (x := ()) (E := Eidx l v) (eOk con0_ok rfl) Tryz.func134 rfl (by kernel_rfl) rfl (by simp [sC,Eidx,EC,E0]) ?_
  refine vc_eq (T :=
    (∃ (x:Nat),sh2q0 v l x∧(Z0 = (↑x:Int)∧True)∧True∧True)∧∀ (x:Nat),sh2q0 v l x→ifB (decide ((↑x:Int) < (LI l))) (side (Z0 ≤ (↑x:Int)∧(↑x:Int) < (LI l)) (ifB (v == GI l (Int.toNat (↑x:Int))) (True∧∃ (y:Unit),True∧(↑x:Int) = idxB (fun (d:Int) => v == d) l N0∧True∧True) ((SM (sh2q1 l)∧SM (ZI v)∧SM D.unk∧SM (ZI (LI l))∧True)∧∃ (y:Nat),sh2q0 v l y∧LN l - y < LN l - x∧(IntKind.wrap IntKind.i64 ((↑x:Int) + Z1) = (↑y:Int)∧True)∧True∧True))) (True∧∃ (y:Unit),True∧(-1:Int) = idxB (fun (d:Int) => v == d) l N0∧True∧True)) (by kernel_rfl) ?_
  delta GI LI LN N0 N1 SI SM Z0 Z1 ZI sh2q0 sh2q1
  simp only [Int.toNat_natCast,ifB_iff,side_iff,decide_eq_true_eq,decide_eq_false_iff_not,true_and,and_true,exists_const]
  simp only [maxLen] at hl
  refine ⟨⟨0,⟨Nat.zero_le _,by simp⟩,rfl⟩,fun i hh => ⟨fun hlt => ?_,fun hge => (hh.done hge).symm⟩⟩
  have hlt':i < l.length := by omega
  obtain ⟨s1,s2⟩ := hh.step hlt'
  exact ⟨by omega,fun h => (s1 h).symm,fun h => ⟨i + 1,s2 h,by omega,wrap_i64' (by omega) (by omega)⟩⟩
noncomputable def Eneg (l:List Int):Senv := { EC con0 19 2 [4,5,7,8,9,16] (fun _ => ([],[])) with
  ann := fun b _ _ => match b with
    | 0 => some (annI (fun d => decide (d < 0)) l [0,1,6,7])
    | _ => none }
noncomputable section
def sh2q2 (p0:List Int) (p1:Nat):Prop := IdxHead (fun (d:Int) => decide (d < Z0)) p0 p1
def sh2q3 (p0:List Int):Int := idxB (fun (d:Int) => decide (d < Z0)) p0 N0
def sh2q4 (p0:List Int):D := SI p0
end
theorem neg_ok (l:List Int) (hl:l.length ≤ maxLen):ACalls Tryz.prog 109 [isl l .any,.fn (.func 83) [] []] ⟨[],[]⟩ (SpecR (sC [isl l .any,.fn (.func 83) [] []] (.int .i64 (idxB (fun d => decide (d < 0)) l 0))) ()) := by
  refine con_of (A := sC _ _) (x := ()) (E := Eneg l) (eOk con0_ok rfl) Tryz.func109 rfl (by kernel_rfl) rfl (by simp [sC,Eneg,EC,E0]) ?_
  refine vc_eq (T :=
    (∃ (x:Nat),sh2q2 l x∧(Z0 = (↑x:Int)∧True)∧True∧True)∧∀ (x:Nat),sh2q2 l x→ifB (decide ((↑x:Int) < (LI l))) (side (Z0 ≤ (↑x:Int)∧(↑x:Int) < (LI l)) (True∧ifB (decide (GI l (Int.toNat (↑x:Int)) < Z0)) (True∧∃ (y:Unit),True∧(↑x:Int) = sh2q3 l∧True∧True) ((SM (sh2q4 l)∧SM (D.fn (Fn.func (83:Nat)) [] [])∧SM D.unk∧SM (ZI (LI l))∧True)∧∃ (y:Nat),sh2q2 l y∧LN l - y < LN l - x∧(IntKind.wrap IntKind.i64 ((↑x:Int) + Z1) = (↑y:Int)∧True)∧True∧True))) (True∧∃ (y:Unit),True∧(-1:Int) = sh2q3 l∧True∧True)) (by kernel_rfl) ?_
  delta GI LI LN N0 N1 SI SM Z0 Z1 ZI sh2q2 sh2q3 sh2q4
  simp only [Int.toNat_natCast,ifB_iff,side_iff,decide_eq_true_eq,decide_eq_false_iff_not,true_and,and_true,exists_const]
  simp only [maxLen] at hl
  refine ⟨⟨0,⟨Nat.zero_le _,by simp⟩,rfl⟩,fun i hh => ⟨fun hlt => ?_,fun hge => (hh.done hge).symm⟩⟩
  have hlt':i < l.length := by omega
  obtain ⟨s1,s2⟩ := hh.step hlt'
  exact ⟨by omega,fun h => (s1 (decide_eq_true h)).symm,fun h => ⟨i + 1,s2 (decide_eq_false h),by omega,wrap_i64' (by omega) (by omega)⟩⟩
theorem intsP_isl (l:List Int):IntsP l.length (fun i => [D.int .i64 (l.getD i 0)]) := fun _ _ => rfl
def conSh:Con := fun k ds S => match k with
  | 134 => match ds with
    | [.sl 1 n f _,.int .i64 v] => some (pC ds (.int .i64 (idxB (fun d => v == d) (intsD n f) 0)) (IntsP n f∧n ≤ maxLen))
    | _ => none
  | 109 => match ds with
    | [.sl 1 n f _,.fn (.func 83) [] []] => some (pC ds (.int .i64 (idxB (fun d => decide (d < 0)) (intsD n f) 0)) (IntsP n f∧n ≤ maxLen))
    | _ => none
  | 84 => match ds with
    | [.sl 1 n f _] => some (pC ds (.bool (rightS (intsD n f))) (IntsP n f))
    | _ => none
  | 112 => match ds with
    | [.sl 1 n f _] => some (pC ds (.int .i64 ((goO (intsD n f) 1).getD 65537)) (IntsP n f∧(∀ z ∈ intsD n f,0 ≤ z)∧n ≤ maxLen))
    | _ => none
  | k => conR2 k ds S
theorem intsD_len (n:Nat) (f:Nat→List D):(intsD n f).length = n := by simp [intsD]
theorem sC_weak {k:Nat} {ds us:List D} {d:D} (hw:weakL ds us) (h:ACalls Tryz.prog k us ⟨[],[]⟩ (SpecR (sC us d) ())):ACalls Tryz.prog k ds ⟨[],[]⟩ (SpecR (sC ds d) ()) :=
  (ACalls.weakArgs h hw).mono fun _ _ ⟨_,_h1,h2,h3⟩ => ⟨(),trivial,h2,h3⟩
theorem conSh_ok:ConOk Tryz.prog conSh := by
  intro k ds S A h
  unfold conSh at h
  split at h
  · split at h
    · injection h with h; subst h
      exact pC_ok fun ⟨h1,h2⟩ => ⟨weakL_refl _,sC_weak (us := [isl (intsD _ _) .any,_]) ⟨(isl_weak h1).1,weakD_refl _,trivial⟩ (idx_ok _ _ (by rw [intsD_len]; exact h2))⟩
    · cases h
  · split at h
    · injection h with h; subst h
      exact pC_ok fun ⟨h1,h2⟩ => ⟨weakL_refl _,sC_weak (us := [isl (intsD _ _) .any,_]) ⟨(isl_weak h1).1,weakD_refl _,trivial⟩ (neg_ok _ (by rw [intsD_len]; exact h2))⟩
    · cases h
  · split at h
    · injection h with h; subst h
      exact pC_ok fun h1 => ⟨weakL_refl _,sC_weak (isl_weak h1) (right_ok _)⟩
    · cases h
  · split at h
    · injection h with h; subst h
      exact pC_ok fun ⟨h1,h2,h3⟩ => ⟨weakL_refl _,sC_weak (isl_weak h1) (rprod_ok _ h2 (by rw [intsD_len]; exact h3))⟩
    · cases h
  · exact conR2_ok _ _ _ _ h
noncomputable def Eprod (l:List Int):Senv := { EC conSh 19 1 [2,3,5,7,8,9,10,11] (fun _ => ([],[])) with
  ann := fun b _ _ => match b with
    | 0 => some { slots := [10,3],keep := [8,9],α := Nat × Int,st := fun y => ([.int .i64 y.1,.int .i64 y.2],⟨[],[]⟩),inv := fun y => GoHead l y.1 y.2,mu := fun y => l.length - y.1 }
    | _ => none }
noncomputable section
def sh2q5 (p0:List Int):D := SI p0
end
theorem prod_ok (l:List Int) (h:rightS l = true):ACalls Tryz.prog 110 [isl l .any] ⟨[],[]⟩ (SpecR (sC [isl l .any] (.int .i64 (sizeS l))) ()) := by
  refine con_of (A := sC _ _) (x := ()) (E := Eprod l) (eOk conSh_ok rfl) Tryz.func110 rfl (by kernel_rfl) rfl (by simp [sC,Eprod,EC,E0]) ?_
  refine vc_eq (T :=
    ((IntsP (LN l) fun (i:Nat) => [ZI (GI l i)])∧LN l ≤ (9223372036854775807:Nat))∧∀ (y:Unit),True→True∧ifB (decide (Z0 ≤ idxB (fun (d:Int) => Z0 == d) (intsD (LN l) fun (i:Nat) => [ZI (GI l i)]) N0)) (True∧∃ (y:Unit),True∧Z0 = sizeS l∧True∧True) ((∃ (x:Nat × Int),GoHead l x.1 x.2∧(Z0 = (NI x.1)∧Z1 = x.2∧True)∧True∧True)∧∀ (x:Nat × Int),GoHead l x.1 x.2→ifB (decide ((NI x.1) < (LI l))) (side (Z0 ≤ (NI x.1)∧(NI x.1) < (LI l)) ((SM (sh2q5 l)∧SM (ZI (LI l))∧True)∧∃ (y:Nat × Int),GoHead l y.1 y.2∧LN l - y.1 < LN l - x.1∧(IntKind.wrap IntKind.i64 ((NI x.1) + Z1) = (NI y.1)∧IntKind.wrap IntKind.i64 (x.2 * GI l (TN x.1)) = y.2∧True)∧True∧True)) (True∧∃ (y:Unit),True∧x.2 = sizeS l∧True∧True))) (by kernel_rfl) ?_
  delta GI LI LN N0 N1 NI SI SM TN Z0 Z1 ZI sh2q5
  simp only [intsD_isl,idxB_any,Int.toNat_natCast,ifB_iff,side_iff,decide_eq_true_eq,decide_eq_false_iff_not,true_and,and_true,exists_const]
  simp only [rightS,Bool.and_eq_true,decide_eq_true_eq] at h
  have hcon:(l.any fun d => 0 == d) = l.contains 0 := by
    rw [Bool.eq_iff_iff,List.contains_iff_mem,List.any_eq_true]
    constructor
    · rintro ⟨z,hz,e⟩
      have e:0 = z := by simpa using e
      rw [e]; exact hz
    · exact fun hm => ⟨0,hm,rfl⟩
  rw [hcon]
  refine ⟨⟨intsP_isl l,by omega⟩,fun _ _ => ⟨fun hz => by rw [sizeS,if_pos hz],fun hz => ⟨⟨(0,1),GoHead.init l,rfl,rfl⟩,?_⟩⟩⟩
  rintro ⟨i,p⟩ hh
  simp only at hh ⊢
  refine ⟨fun hlt => ?_,fun hge => by rw [sizeS,if_neg (by rw [hz]; exact Bool.false_ne_true),hh.done hge]; rfl⟩
  have hlt':i < l.length := by omega
  obtain ⟨s1,s2,s3,s4⟩ := hh.step hlt'
  have hne:l.getD i 0 ≠ 0 := by
    intro e
    have:l.contains 0 = true := by
      rw [List.contains_iff_mem,← e,List.getD_eq_getElem?_getD,List.getElem?_eq_getElem hlt']; exact List.getElem_mem hlt'
    rw [this] at hz; cases hz
  have n1:¬ l.getD i 0 < 0 := fun e => by rw [s1 e] at h; exact absurd h.2 (by simp)
  have n2:¬ 65536 < l.getD i 0 := fun e => by rw [s2 e] at h; exact absurd h.2 (by simp)
  obtain ⟨b1,b2,s5,s6⟩ := s4 n1 n2
  have n3:¬ 65536 < p * l.getD i 0 := fun e => by rw [s5 e hne] at h; exact absurd h.2 (by simp)
  exact ⟨by omega,(i + 1,p * l.getD i 0),s6 n3 hne,by simp only; omega,wrap_i64' (by omega) (by omega),wrap_i64' (by omega) (by omega)⟩
noncomputable def Edims (l:List Int):Senv := { EC conSh 21 1 [2,3,6,10,17,20] (fun _ => ([],[])) with
  ann := fun b _ _ => match b with
    | 0 => some { slots := [3],keep := [0],α := Nat,st := fun i => ([.int .i64 i],⟨[],[]⟩),inv := fun i => i ≤ l.length∧∀ z ∈ l.take i,0 ≤ z,mu := fun i => l.length - i }
    | _ => none }
theorem goO_le:∀ (l:List Int) (p:Int),p ≤ 65536→∀ q,goO l p = some q→q ≤ 65536
  | [],p,hp,q,h => by rw [goO] at h; injection h with h; omega
  | d :: r,p,hp,q,h => by
    rw [goO] at h
    split at h
    · cases h
    · split at h
      · exact goO_le r p hp q h
      · split at h
        · cases h
        · exact goO_le r _ (by omega) q h
def dimsS (s:List Int):Int := if 8 < s.length then 15 else if s.any (fun d => decide (d < 0)) then 16 else if (goO s 1).isSome then 0 else 21
noncomputable section
def sh2q6 (p0:List Int):Int := dimsS p0
def sh2q7 (p0:Nat) (p1:List Int):Prop := p0 ≤ LN p1∧∀ (z:Int),z ∈ List.take p0 p1→Z0 ≤ z
def sh2q8 (p0:List Int):D := SI p0
def sh2q9 (p0:List Int):List Int := intsD (LN p0) fun (i:Nat) => [ZI (GI p0 i)]
end
theorem dims_ok (l:List Int):ACalls Tryz.prog 89 [isl l .any] ⟨[],[]⟩ (SpecR (sC [isl l .any] (.int .i64 (dimsS l))) ()) := by
  refine con_of (A := sC _ _) (x := ()) (E := Edims l) (eOk conSh_ok rfl) Tryz.func89 rfl (by kernel_rfl) rfl (by simp [sC,Edims,EC,E0]) ?_
  refine vc_eq (T :=
    ifB (decide ((8:Int) < (LI l))) (True∧∃ (y:Unit),True∧(15:Int) = sh2q6 l∧True∧True) ((∃ (x:Nat),sh2q7 x l∧(Z0 = (↑x:Int)∧True)∧True∧True)∧∀ (x:Nat),sh2q7 x l→ifB (decide ((↑x:Int) < (LI l))) (side (Z0 ≤ (↑x:Int)∧(↑x:Int) < (LI l)) (ifB (decide (GI l (Int.toNat (↑x:Int)) < Z0)) (True∧∃ (y:Unit),True∧(16:Int) = sh2q6 l∧True∧True) ((SM (sh2q8 l)∧True)∧∃ (y:Nat),sh2q7 y l∧LN l - y < LN l - x∧(IntKind.wrap IntKind.i64 ((↑x:Int) + Z1) = (↑y:Int)∧True)∧True∧True))) (((IntsP (LN l) fun (i:Nat) => [ZI (GI l i)])∧(∀ (z:Int),z ∈ sh2q9 l→Z0 ≤ z)∧LN l ≤ (9223372036854775807:Nat))∧∀ (y:Unit),True→ifB (decide ((65536:Int) < Option.getD (goO (sh2q9 l) Z1) (65537:Int))) (True∧∃ (y:Unit),True∧(21:Int) = sh2q6 l∧True∧True) (True∧∃ (y:Unit),True∧Z0 = sh2q6 l∧True∧True)))) (by kernel_rfl) ?_
  delta GI LI LN N1 SI SM Z0 Z1 ZI sh2q6 sh2q7 sh2q8 sh2q9
  simp only [intsD_isl,Int.toNat_natCast,ifB_iff,side_iff,decide_eq_true_eq,decide_eq_false_iff_not,true_and,and_true,exists_const]
  have tk:∀ i,i < l.length→∀ P:Int→Prop,(∀ z ∈ l.take i,P z)→P (l.getD i 0)→∀ z ∈ l.take (i + 1),P z := fun i hi P h1 h2 z hz => by
    rw [List.take_add_one,List.mem_append] at hz
    rcases hz with hz | hz
    · exact h1 z hz
    · rw [List.getElem?_eq_getElem hi] at hz
      simp at hz
      rw [hz]
      simpa [List.getD_eq_getElem?_getD,hi] using h2
  refine ⟨fun h => ?_,fun h8 => ⟨⟨0,⟨Nat.zero_le _,by simp⟩,rfl⟩,fun i hh => ⟨fun hlt => ?_,fun hge => ?_⟩⟩⟩
  · have:8 < l.length := by omega
    simp [dimsS,this]
  · have hlt':i < l.length := by omega
    have h8':¬ 8 < l.length := by omega
    refine ⟨by omega,fun h => ?_,fun h => ⟨i + 1,⟨by omega,tk i hlt' _ hh.2 (by omega)⟩,by omega,wrap_i64' (by omega) (by omega)⟩⟩
    have:l.any (fun d => decide (d < 0)) = true := by
      rw [List.any_eq_true]
      refine ⟨l.getD i 0,?_,decide_eq_true h⟩
      rw [List.getD_eq_getElem?_getD,List.getElem?_eq_getElem hlt']; exact List.getElem_mem hlt'
    rw [dimsS,if_neg h8',if_pos this]
  · have hi:i = l.length := by omega
    rw [hi,List.take_length] at hh
    have h8':¬ 8 < l.length := by omega
    have hnn:¬ l.any (fun d => decide (d < 0)) = true := by
      rw [List.any_eq_true]
      rintro ⟨z,hz,h⟩
      have := hh.2 z hz
      simp at h
      omega
    refine ⟨⟨intsP_isl l,hh.2,by omega⟩,fun _ _ => ?_⟩
    rw [dimsS,if_neg h8',if_neg hnn]
    have hb := goO_le l 1 (by omega)
    cases hg:goO l 1 with
    | none => simp
    | some p => have := hb p hg; simp; omega
noncomputable def Ecount (l:List Int):Senv := { EC conSh 17 1 [2,3,7,14] (fun _ => ([],[])) with
  ann := fun b _ _ => match b with
    | 0 => some { slots := [3],keep := [0],α := Nat,st := fun i => ([.int .i64 i],⟨[],[]⟩),inv := fun i => i ≤ l.length∧∀ z ∈ l.take i,z ≠ 0,mu := fun i => l.length - i }
    | _ => none }
noncomputable section
def sh2q10 (p0:Nat) (p1:List Int):Prop := p0 ≤ LN p1∧∀ (z:Int),z ∈ List.take p0 p1→z ≠ Z0
def sh2q11 (p0:List Int):D := SI p0
def sh2q12 (p0:List Int):List Int := intsD (LN p0) fun (i:Nat) => [ZI (GI p0 i)]
end
theorem count_ok (l:List Int) (h:dimsS l = 0):ACalls Tryz.prog 91 [isl l .any] ⟨[],[]⟩ (SpecR (sC [isl l .any] (.int .i64 (sizeS l))) ()) := by
  refine con_of (A := sC _ _) (x := ()) (E := Ecount l) (eOk conSh_ok rfl) Tryz.func91 rfl (by kernel_rfl) rfl (by simp [sC,Ecount,EC,E0]) ?_
  refine vc_eq (T :=
    (∃ (x:Nat),sh2q10 x l∧(Z0 = (↑x:Int)∧True)∧True∧True)∧∀ (x:Nat),sh2q10 x l→ifB (decide ((↑x:Int) < (LI l))) (side (Z0 ≤ (↑x:Int)∧(↑x:Int) < (LI l)) (ifB (GI l (Int.toNat (↑x:Int)) == Z0) (True∧∃ (y:Unit),True∧Z0 = sizeS l∧True∧True) ((SM (sh2q11 l)∧True)∧∃ (y:Nat),sh2q10 y l∧LN l - y < LN l - x∧(IntKind.wrap IntKind.i64 ((↑x:Int) + Z1) = (↑y:Int)∧True)∧True∧True))) (((IntsP (LN l) fun (i:Nat) => [ZI (GI l i)])∧(∀ (z:Int),z ∈ sh2q12 l→Z0 ≤ z)∧LN l ≤ (9223372036854775807:Nat))∧∀ (y:Unit),True→True∧∃ (y:Unit),True∧Option.getD (goO (sh2q12 l) Z1) (65537:Int) = sizeS l∧True∧True)) (by kernel_rfl) ?_
  delta GI LI LN N1 SI SM Z0 Z1 ZI sh2q10 sh2q11 sh2q12
  simp only [intsD_isl,Int.toNat_natCast,ifB_iff,side_iff,decide_eq_true_eq,decide_eq_false_iff_not,true_and,and_true,exists_const]
  have tk:∀ i,i < l.length→∀ P:Int→Prop,(∀ z ∈ l.take i,P z)→P (l.getD i 0)→∀ z ∈ l.take (i + 1),P z := fun i hi P h1 h2 z hz => by
    rw [List.take_add_one,List.mem_append] at hz
    rcases hz with hz | hz
    · exact h1 z hz
    · rw [List.getElem?_eq_getElem hi] at hz
      simp at hz
      rw [hz]
      simpa [List.getD_eq_getElem?_getD,hi] using h2
  have hl8:l.length ≤ 8 := by
    unfold dimsS at h
    split at h
    · cases h
    · omega
  have hnn:∀ z ∈ l,0 ≤ z := by
    intro z hz
    unfold dimsS at h
    split at h
    · cases h
    · split at h
      · cases h
      · rename_i hn
        rw [List.any_eq_true] at hn
        by_cases h0:z < 0
        · exact (hn ⟨z,hz,decide_eq_true h0⟩).elim
        · omega
  have hg:(goO l 1).isSome = true := by
    unfold dimsS at h
    (repeat' split at h) <;> first | assumption | (cases h; done)
  refine ⟨⟨0,⟨Nat.zero_le _,by simp⟩,rfl⟩,fun i hh => ⟨fun hlt => ?_,fun hge => ?_⟩⟩
  · have hlt':i < l.length := by omega
    refine ⟨by omega,fun h => ?_,fun h => ⟨i + 1,⟨by omega,tk i hlt' _ hh.2 (by simpa using h)⟩,by omega,wrap_i64' (by omega) (by omega)⟩⟩
    have h0:l.getD i 0 = 0 := by simpa using h
    have:l.contains 0 = true := by
      rw [List.contains_iff_mem,← h0,List.getD_eq_getElem?_getD,List.getElem?_eq_getElem hlt']; exact List.getElem_mem hlt'
    rw [sizeS,if_pos this]
  · have hi:i = l.length := by omega
    rw [hi,List.take_length] at hh
    refine ⟨⟨intsP_isl l,hnn,by omega⟩,fun _ _ => ?_⟩
    have:¬ l.contains 0 = true := by
      rw [List.contains_iff_mem]
      exact fun hm => hh.2 0 hm rfl
    rw [sizeS,if_neg this]
    cases hgo:goO l 1 with
    | none => rw [hgo] at hg; cases hg
    | some p => rfl
end Go.Proofs.YtflbmbkhjcbhoaaGreatDoor
namespace Go.Proofs.YtflbmbkhjcbhoaaGreatDoor
open Go Go.Ab
def formS (k:Int) (s:List Int) (nn ni:Nat):Int :=
  if k = 1∨k = 2∨k = 3 then
    if dimsS s ≠ 0 then dimsS s
    else if ((if k = 3 then (ni:Int) else nn) ≠ sizeS s)∨((if k = 3 then (nn:Int) else ni) ≠ 0) then 16 else 0
  else 14
def conAr:Con := fun k ds S => match k with
  | 110 => match ds with
    | [.sl 1 n f _] => some (pC ds (.int .i64 (sizeS (intsD n f))) (IntsP n f∧rightS (intsD n f) = true))
    | _ => none
  | 89 => match ds with
    | [.sl 1 n f _] => some (pC ds (.int .i64 (dimsS (intsD n f))) (IntsP n f))
    | _ => none
  | 91 => match ds with
    | [.sl 1 n f _] => some (pC ds (.int .i64 (sizeS (intsD n f))) (IntsP n f∧dimsS (intsD n f) = 0))
    | _ => none
  | k => conSh k ds S
theorem conAr_ok:ConOk Tryz.prog conAr := by
  intro k ds S A h
  unfold conAr at h
  split at h
  · split at h
    · injection h with h; subst h
      exact pC_ok fun ⟨h1,h2⟩ => ⟨weakL_refl _,sC_weak (isl_weak h1) (prod_ok _ h2)⟩
    · cases h
  · split at h
    · injection h with h; subst h
      exact pC_ok fun h1 => ⟨weakL_refl _,sC_weak (isl_weak h1) (dims_ok _)⟩
    · cases h
  · split at h
    · injection h with h; subst h
      exact pC_ok fun ⟨h1,h2⟩ => ⟨weakL_refl _,sC_weak (isl_weak h1) (count_ok _ h2)⟩
    · cases h
  · exact conSh_ok _ _ _ _ h
noncomputable def Eform:Senv := EC conAr 44 5 [12,13,16,20,25,29,34] (fun id => match id with | 1 => ([0,1,2,3,4,5,6,7],[]) | _ => ([],[]))
noncomputable section
def ar1q0 (p0:Int) (p1:List Int) (p2 p3:Nat):Int := formS p0 p1 p2 p3
def ar1q1 (p0:Int) (p1:List Int) (p2 p3:Nat):Prop := True∧∃ (y:Unit),True∧(15:Int) = ar1q0 p0 p1 p2 p3∧True∧True
def ar1q2 (p0:List Int):Prop := IntsP (LN p0) fun (i:Nat) => [ZI (GI p0 i)]
def ar1q3 (p0:List Int):Prop := ar1q2 p0∧LN p0 ≤ (9223372036854775807:Nat)
def ar1q4 (p0:List Int):List Int := intsD (LN p0) fun (i:Nat) => [ZI (GI p0 i)]
def ar1q5 (p0:List Int):Bool := decide (Z0 ≤ idxB (fun (d:Int) => decide (d < Z0)) (ar1q4 p0) N0)
def ar1q6 (p0:Int) (p1:List Int) (p2 p3:Nat):Prop := True∧∃ (y:Unit),True∧(16:Int) = ar1q0 p0 p1 p2 p3∧True∧True
def ar1q7 (p0:List Int):Bool := rightS (ar1q4 p0)
def ar1q8 (p0:List Int):Bool := !ar1q7 p0
def ar1q9 (p0:Int) (p1:List Int) (p2 p3:Nat):Prop := True∧∃ (y:Unit),True∧(21:Int) = ar1q0 p0 p1 p2 p3∧True∧True
def ar1q10 (p0:Int) (p1:List Int) (p2 p3:Nat):Prop := True∧ar1q6 p0 p1 p2 p3
def ar1q11 (p0:List Int):Prop := ar1q2 p0∧ar1q7 p0 = true
def ar1q12 (p0:Nat) (p1:List Int):Bool := (↑p0:Int) != sizeS (ar1q4 p1)
def ar1q13 (p0:Int) (p1:List Int) (p2 p3:Nat):Prop := True∧∃ (y:Unit),True∧Z0 = ar1q0 p0 p1 p2 p3∧True∧True
def ar1q14 (p0:Nat) (p1:List Int) (p2:Int) (p3 p4:Nat):Prop := SM p0∧ifB (decide ((8:Int) < (LI p1))) (ar1q1 p2 p1 p3 p4) (SM p0∧ar1q3 p1∧∀ (y:Unit),True→True∧ifB (ar1q5 p1) (ar1q6 p2 p1 p3 p4) (SM p0∧ar1q2 p1∧∀ (y:Unit),True→ifB (ar1q8 p1) (ar1q9 p2 p1 p3 p4) (SM p0∧ar1q2 p1∧∀ (y:Unit),True→ifB (ar1q8 p1) (ar1q10 p2 p1 p3 p4) (ar1q11 p1∧∀ (y:Unit),True→True∧ifB (ar1q12 p3 p1) (ar1q6 p2 p1 p3 p4) (ifB ((↑p4:Int) != Z0) (ar1q6 p2 p1 p3 p4) (ar1q13 p2 p1 p3 p4))))))
def ar1q15 (p0:Int) (p1:Nat) (p2:List Int) (p3 p4:Nat):Prop := ifB (p0 == (3:Int)) (SM p1∧ifB (decide ((8:Int) < (LI p2))) (ar1q1 p0 p2 p3 p4) (SM p1∧ar1q3 p2∧∀ (y:Unit),True→True∧ifB (ar1q5 p2) (ar1q6 p0 p2 p3 p4) (SM p1∧ar1q2 p2∧∀ (y:Unit),True→ifB (ar1q8 p2) (ar1q9 p0 p2 p3 p4) (SM p1∧ar1q2 p2∧∀ (y:Unit),True→ifB (ar1q8 p2) (ar1q10 p0 p2 p3 p4) (ar1q11 p2∧∀ (y:Unit),True→True∧ifB (ar1q12 p4 p2) (ar1q6 p0 p2 p3 p4) (ifB ((↑p3:Int) != Z0) (ar1q6 p0 p2 p3 p4) (ar1q13 p0 p2 p3 p4))))))) (True∧∃ (y:Unit),True∧(14:Int) = ar1q0 p0 p2 p3 p4∧True∧True)
end
theorem form_ok (k : Int) (s : List Int) (nn ni : Nat) (g h : Nat → List D) (hs : s.length ≤ maxLen) (hn : nn ≤ maxLen) (hi : ni ≤ maxLen) :
    ACalls Tryz.prog 63 [.agg [.int .i64 k,isl s .any,.sl 1 nn g .any,.sl 4 ni h .any]] ⟨[],[]⟩ (SpecR (sC [.agg [.int .i64 k,isl s .any,.sl 1 nn g .any,.sl 4 ni h .any]] (.int .i64 (formS k s nn ni))) ()) := by
  refine con_of (A := sC _ _) (x := ()) (E := Eform) (eOk conAr_ok rfl) Tryz.func63 rfl (by kernel_rfl) rfl (by simp [sC,Eform,EC,E0]) ?_
  refine vc_eq (T :=
    ∀ (x:Nat),True→SM x∧SM x∧SM x∧ifB (k == Z1) (ifB (k == Z1) (ar1q14 x s k nn ni) (ar1q15 k x s nn ni)) (ifB (k == (2:Int)) (ar1q14 x s k nn ni) (ar1q15 k x s nn ni))) (by kernel_rfl) ?_
  delta GI LI LN N0 SM Z0 Z1 ZI ar1q0 ar1q1 ar1q10 ar1q11 ar1q12 ar1q13 ar1q14 ar1q15 ar1q2 ar1q3 ar1q4 ar1q5 ar1q6 ar1q7 ar1q8 ar1q9
  simp only [intsD_isl,idxB_any,Int.toNat_natCast,ifB_iff,side_iff,decide_eq_true_eq,decide_eq_false_iff_not,true_and,and_true,beq_iff_eq,bne_iff_ne,Bool.cond_false_right,Bool.cond_true_left,Bool.and_eq_true,Bool.and_eq_false_iff,beq_eq_false_iff_ne,ne_eq,exists_const,forall_const]
  simp only [maxLen] at hs hn hi
  have n8:(8 < (s.length:Int))↔8 < s.length := by omega
  simp only [n8]
  repeat' (first
    | exact intsP_isl s
    | refine And.intro ?_ ?_
    | intro _)
  all_goals first
    | omega
    | (simp_all [formS,dimsS,rightS]; done)
    | grind [formS,dimsS,rightS]
    | skip
  all_goals trace_state
end Go.Proofs.YtflbmbkhjcbhoaaGreatDoor
namespace Go.Proofs.YtflbmbkhjcbhoaaGreatDoor
open Go Go.Ab
def Arr.k:Arr→Int | .mk k _ _ _ => k
def Arr.sh:Arr→List Int | .mk _ s _ _ => s
def Arr.nu:Arr→List Int | .mk _ _ n _ => n
def Arr.it:Arr→List Arr | .mk _ _ _ i => i
def Arr.row1 (a:Arr):List D := [.int .i64 a.k,isl a.sh .any,isl a.nu .any,gsl 4 Arr.row a.it]
def Arr.row2 (a:Arr):List D := [.int .i64 a.k,isl a.sh .any,isl a.nu .any,gsl 4 Arr.row1 a.it]
theorem row_len (l:List Arr):(rowsL l).length = l.length := by rw [rowsL_map]; simp
theorem row_wk (a:Arr):wkL a.row a.row1 := by
  cases a with
  | mk k s n is =>
    simp only [Arr.row,Arr.row1,Arr.k,Arr.sh,Arr.nu,Arr.it,gsl,isl,wkL,wkD,weakD,chk_iff]
    refine ⟨⟨by simp [kEq],trivial⟩,⟨by simp,trivial,fun i _ => by simp [kEq],by simp [weakM]⟩,⟨by simp,trivial,fun i _ => by simp [kEq],by simp [weakM]⟩,⟨by simp,row_len is,fun i hi => ?_,by simp [weakM]⟩,trivial⟩
    rw [row_len] at hi
    have:(rowsL is).getD i [] = (is.getD i default).row := by
      rw [rowsL_map]; simp [List.getD_eq_getElem?_getD,hi]
    rw [this]
    exact wkL_refl _
theorem row1_wk (a:Arr):wkL a.row1 a.row2 := by
  simp only [Arr.row1,Arr.row2,gsl,isl,wkL,wkD,weakD,chk_iff]
  exact ⟨⟨by simp [kEq],trivial⟩,⟨by simp,trivial,fun i _ => by simp [kEq],by simp [weakM]⟩,⟨by simp,trivial,fun i _ => by simp [kEq],by simp [weakM]⟩,⟨by simp,trivial,fun i _ => row_wk _,by simp [weakM]⟩,trivial⟩
def numB (z:Int):Bool := decide (-4611686018427387903 ≤ z) && decide (z ≤ 4611686018427387903)
def chrB (z:Int):Bool := decide (0 ≤ z) && decide (z ≤ 1114111) && (decide (z < 55296) || decide (57343 < z))
def badK (k z:Int):Bool := (k == 1 && !numB z) || (k == 2 && !chrB z)
mutual
def chkA:Arr→Int × Int × Int
  | .mk k s n is =>
    if formS k s n.length is.length ≠ 0 then (formS k s n.length is.length,0,0)
    else if n.any (badK k) then (17,0,0)
    else match chkL is 0 ((n.length:Int) + is.length) with
      | none => (17,0,0)
      | some r => if 16 < r.1∨262144 < r.2 then (21,0,0) else (0,r.1,r.2)
def chkL:List Arr→Int→Int→Option (Int × Int)
  | [],d,w => some (d,w)
  | x :: r,d,w => if (chkA x).1 ≠ 0 then none else chkL r (if d < (chkA x).2.1 + 1 then (chkA x).2.1 + 1 else d) (if 262145 < w + (chkA x).2.2 then 262145 else w + (chkA x).2.2)
end
theorem chkL_pos:∀ (l:List Arr) (d w d' w':Int),chkL l d w = some (d',w')→0 ≤ d→0 ≤ w→(∀ x ∈ l,(chkA x).1 = 0→0 ≤ (chkA x).2.1∧0 ≤ (chkA x).2.2)→0 ≤ d'∧0 ≤ w'
  | [],d,w,d',w',h,h1,h2,_ => by
    rw [chkL] at h; injection h with h; injection h with e1 e2; omega
  | x :: r,d,w,d',w',h,h1,h2,h3 => by
    rw [chkL] at h
    split at h
    · cases h
    · rename_i hx
      have hx:(chkA x).1 = 0 := by simpa using hx
      have := h3 x (by simp) hx
      refine chkL_pos r _ _ d' w' h ?_ ?_ fun y hy => h3 y (by simp [hy])
      · split <;> omega
      · split <;> omega
theorem chkA_bounds:∀ (a:Arr),(0 ≤ (chkA a).2.1∧(chkA a).2.1 ≤ 16)∧0 ≤ (chkA a).2.2∧(chkA a).2.2 ≤ 262144
  | .mk k s n is => by
    rw [chkA]
    split
    · simp
    · split
      · simp
      · split
        · simp
        · rename_i r hr
          split
          · simp
          · rename_i hb
            have := chkL_pos is 0 _ r.1 r.2 hr (by omega) (by omega) fun x hx _ => by
              have := chkA_bounds x
              omega
            simp only
            omega
termination_by a => SizeOf.sizeOf a
decreasing_by
  have := List.sizeOf_lt_of_mem hx
  simp; omega
end Go.Proofs.YtflbmbkhjcbhoaaGreatDoor
namespace Go.Proofs.YtflbmbkhjcbhoaaGreatDoor
open Go Go.Ab
noncomputable def Enum:Senv := EC con0 9 1 [2] (fun _ => ([],[]))
noncomputable section
def ar3q0 (p0:Int):Bool := bif decide ((-4611686018427387903:Int) ≤ p0) then decide (p0 ≤ (4611686018427387903:Int)) else false
end
theorem num_ok (z:Int):ACalls Tryz.prog 64 [.int .i64 z] ⟨[],[]⟩ (SpecR (sC [.int .i64 z] (.bool (numB z))) ()) := by
  refine con_of (A := sC _ _) (x := ()) (E := Enum) (eOk con0_ok rfl) Tryz.func64 rfl (by kernel_rfl) rfl (by simp [sC,Enum,EC,E0]) ?_
  refine vc_eq (T :=
    ifB (decide ((-4611686018427387903:Int) ≤ z)) (decide (z ≤ (4611686018427387903:Int)) = ar3q0 z∧True) (false = ar3q0 z∧True)∧True∧∃ (y:Unit),True∧ar3q0 z = numB z∧True∧True) (by kernel_rfl) ?_
  delta ar3q0
  simp only [ifB_iff,decide_eq_true_eq,decide_eq_false_iff_not,true_and,and_true,Bool.cond_false_right,exists_const]
  refine ⟨⟨fun h => by rw [decide_eq_true h]; rfl,fun h => by rw [decide_eq_false h]; rfl⟩,rfl⟩
noncomputable def Echr:Senv := EC con0 17 1 [2] (fun _ => ([],[]))
noncomputable section
def ar3q1 (p0:Int):Bool := bif bif decide (Z0 ≤ p0) then decide (p0 ≤ (1114111:Int)) else false then bif decide (p0 < (55296:Int)) then true else decide ((57343:Int) < p0) else false
def ar3q2 (p0:Int):Prop := false = ar3q1 p0∧True
end
theorem chr_ok (z:Int):ACalls Tryz.prog 65 [.int .i64 z] ⟨[],[]⟩ (SpecR (sC [.int .i64 z] (.bool (chrB z))) ()) := by
  refine con_of (A := sC _ _) (x := ()) (E := Echr) (eOk con0_ok rfl) Tryz.func65 rfl (by kernel_rfl) rfl (by simp [sC,Echr,EC,E0]) ?_
  refine vc_eq (T :=
    ifB (decide (Z0 ≤ z)) (ifB (decide (z ≤ (1114111:Int))) (ifB (decide (z < (55296:Int))) (true = ar3q1 z∧True) (decide ((57343:Int) < z) = ar3q1 z∧True)) (ar3q2 z)) (ar3q2 z)∧True∧∃ (y:Unit),True∧ar3q1 z = chrB z∧True∧True) (by kernel_rfl) ?_
  delta Z0 ar3q1 ar3q2
  simp only [ifB_iff,decide_eq_true_eq,decide_eq_false_iff_not,true_and,and_true,Bool.cond_false_right,Bool.cond_true_left,exists_const]
  refine ⟨⟨fun h1 => ⟨fun h2 => ⟨fun h3 => by simp [h1,h2,h3],fun h3 => by simp [h1,h2,h3]⟩,fun h2 => by simp [h1,h2]⟩,fun h1 => by simp [h1]⟩,rfl⟩
def sVis (row:Arr→List D) (xb:Nat) (q:Arr→Prop):FnSpec where
  β := Arr
  α := Unit
  args := fun a => [.agg (row a),.ref 1 xb 0]
  st := fun _ => ⟨[(1,xb,.cells [.fn (.func 62) [] [.ref 1 xb 0]])],[]⟩
  pre := q
  post := fun _ _ => True
  res := fun a _ => .ret (.tup [.int .i64 (chkA a).1,.int .i64 (chkA a).2.1,.int .i64 (chkA a).2.2])
  out := fun _ _ => ⟨[(1,xb,.cells [.fn (.func 62) [] [.ref 1 xb 0]])],[]⟩
def conVis (xb:Nat) (its:List Arr):Con := fun k ds S => match k with
  | 62 => some (sVis Arr.row1 xb (fun b => b ∈ its))
  | 63 => match ds with
    | [.agg [.int .i64 k,.sl 1 n f _,.sl 1 nn _g _,.sl 4 ni _h _]] => some (pC ds (.int .i64 (formS k (intsD n f) nn ni)) (IntsP n f∧n ≤ maxLen∧nn ≤ maxLen∧ni ≤ maxLen))
    | _ => none
  | 64 => match ds with
    | [.int .i64 z] => some (pC [.int .i64 z] (.bool (numB z)) True)
    | _ => none
  | 65 => match ds with
    | [.int .i64 z] => some (pC [.int .i64 z] (.bool (chrB z)) True)
    | _ => none
  | k => conAr k ds S
theorem conVis_ok {xb:Nat} {its:List Arr} (ih:∀ b ∈ its,ACalls Tryz.prog 62 ((sVis Arr.row2 xb (fun _ => True)).args b) ((sVis Arr.row2 xb (fun _ => True)).st b) (SpecR (sVis Arr.row2 xb (fun _ => True)) b)):ConOk Tryz.prog (conVis xb its) := by
  intro k ds S A h
  unfold conVis at h
  split at h
  · injection h with h; subst h
    refine ConOk.plain (fun b hb => ?_) rfl rfl
    refine ((ih b hb).wkArgs ?_).mono fun _ _ ⟨y,h1,h2,h3⟩ => ⟨y,h1,h2,h3⟩
    simp only [sVis,wkL,wkD]
    exact ⟨row1_wk b,by simp [weakD,chk_iff]⟩
  · split at h
    · rename_i k n f _ nn g _ ni g' _
      injection h with h; subst h
      refine pC_ok fun ⟨h1,h2,h3,h4⟩ => ⟨weakL_refl _,sC_weak (us := [.agg [.int .i64 k,isl (intsD n f) .any,.sl 1 nn g .any,.sl 4 ni g' .any]]) ?_ (form_ok _ _ _ _ _ _ (by rw [intsD_len]; exact h2) h3 h4)⟩
      refine ⟨?_,trivial⟩
      simp only [weakD,weakL]
      refine ⟨by simp [chk_iff,kEq],(isl_weak h1).1,?_,?_,trivial⟩
      · simp [chk_iff,weakM]
      · simp [chk_iff,weakM]
    · cases h
  · split at h
    · injection h with h; subst h
      exact pC_ok fun _ => ⟨weakL_refl _,num_ok _⟩
    · cases h
  · split at h
    · injection h with h; subst h
      exact pC_ok fun _ => ⟨weakL_refl _,chr_ok _⟩
    · cases h
  · exact conAr_ok _ _ _ _ h
theorem chkA_eq (a : Arr) : chkA a = if formS a.k a.sh a.nu.length a.it.length ≠ 0 then (formS a.k a.sh a.nu.length a.it.length, 0, 0)
    else if a.nu.any (badK a.k) then (17,0,0)
    else match chkL a.it 0 ((a.nu.length:Int) + a.it.length) with
      | none => (17,0,0)
      | some r => if 16 < r.1∨262144 < r.2 then (21,0,0) else (0,r.1,r.2) := by
  cases a with
  | mk k s n is => rw [chkA]; rfl
theorem sizeS_le {s:List Int}:sizeS s ≤ 65536 := by
  unfold sizeS
  split
  · omega
  · cases hg:goO s 1 with
    | none => simp
    | some p => have := goO_le s 1 (by omega) p hg; simpa using this
theorem form_small {k:Int} {s:List Int} {nn ni:Nat} (h:formS k s nn ni = 0):nn ≤ 65536∧ni ≤ 65536 := by
  have hs := sizeS_le (s := s)
  unfold formS at h
  by_cases hk:k = 1∨k = 2∨k = 3
  · rw [if_pos hk] at h
    by_cases hd:dimsS s ≠ 0
    · rw [if_pos hd] at h; exact (hd h).elim
    · rw [if_neg hd] at h
      by_cases hc:((if k = 3 then (ni:Int) else nn) ≠ sizeS s)∨((if k = 3 then (nn:Int) else ni) ≠ 0)
      · rw [if_pos hc] at h; omega
      · simp only [not_or,ne_eq,Decidable.not_not] at hc
        obtain ⟨c1,c2⟩ := hc
        by_cases k3:k = 3 <;> simp only [k3,if_true,if_false] at c1 c2 <;> omega
  · rw [if_neg hk] at h; omega
theorem mem_getD {α:Type} [Inhabited α] {l:List α} {i:Nat} (h:i < l.length):l.getD i default ∈ l := by
  rw [List.getD_eq_getElem?_getD,List.getElem?_eq_getElem h]; exact List.getElem_mem h
def cutV (k:Int) (d8:D) (S:St):Option LoopAnn :=
  match d8 with
  | .int _ z => some { slots := [45],keep := [],α := Unit,st := fun _ => ([.bool (badK k z)],S),inv := fun _ => True,mu := fun _ => 0 }
  | _ => none
noncomputable def Evis (xb:Nat) (a:Arr):Senv := { EC (conVis xb a.it) 87 7 [8,9,10,12,13,14,15,19,22,23,24,25,45,55,56,57,58,69,84] (fun id => match id with | 10 => ([0,1,2,3,4,5,6,7,8],[]) | _ => ([],[])) with
  cut := fun id env S => match id with
    | 7 => cutV a.k (Ab.look env 8) S
    | _ => none
  ann := fun b _ S => match b with
    | 0 => some { slots := [24],keep := [0,1,2,22,23],α := Nat,st := fun i => ([.int .i64 i],S),inv := fun i => i ≤ a.nu.length∧∀ z ∈ a.nu.take i,badK a.k z = false,mu := fun i => a.nu.length - i }
    | 2 => some { slots := [57,9,10],keep := [0,1,2,55,56],α := Nat × Int × Int,st := fun y => ([.int .i64 y.1,.int .i64 y.2.1,.int .i64 y.2.2],S),inv := fun y => y.1 ≤ a.it.length∧0 ≤ y.2.1∧y.2.1 ≤ 17∧0 ≤ y.2.2∧y.2.2 ≤ 262145∧chkL (a.it.drop y.1) y.2.1 y.2.2 = chkL a.it 0 ((a.nu.length:Int) + a.it.length),mu := fun y => a.it.length - y.1 }
    | _ => none }
noncomputable section
def ar3q3 (p0:Arr):Nat := LN (Arr.sh p0)
def ar3q4 (p0:Arr) (p1:Nat):List D := [ZI (GI (Arr.sh p0) p1)]
def ar3q5 (p0:Arr):List Int := Arr.nu p0
def ar3q6 (p0:Arr):Nat := LN (ar3q5 p0)
def ar3q7 (p0:Arr):List Arr := Arr.it p0
def ar3q8 (p0:Arr):Nat := LN (ar3q7 p0)
def ar3q9 (p0:Arr):Int := Arr.k p0
def ar3q10 (p0:Arr):Int := formS (ar3q9 p0) (intsD (ar3q3 p0) fun (i:Nat) => ar3q4 p0 i) (ar3q6 p0) (ar3q8 p0)
def ar3q11 (p0:Arr):Int := Prod.fst (chkA p0)
def ar3q12 (p0:Arr):Int := Prod.fst (Prod.snd (chkA p0))
def ar3q13 (p0:Arr):Int := Prod.snd (Prod.snd (chkA p0))
def ar3q14 (p0:Arr):Prop := Z0 = ar3q12 p0∧Z0 = ar3q13 p0∧True
def ar3q15 (p0:Nat):Prop := SM p0∧(SM (D.fn (Fn.func (62:Nat)) [] [D.ref N1 p0 N0])∧True)∧True
def ar3q16 (p0:Nat):Prop := ar3q15 p0∧True
def ar3q17 (p0:Nat) (p1:Arr):Prop := p0 ≤ ar3q6 p1∧∀ (z:Int),z ∈ List.take p0 (ar3q5 p1)→badK (ar3q9 p1) z = false
def ar3q18 (p0:Arr) (p1:Nat):List D := [ZI (GI (ar3q5 p0) p1)]
def ar3q19:Arr := DA
def ar3q20 (p0:Arr) (p1:Nat):Arr := List.getD (ar3q7 p0) p1 ar3q19
def ar3q21 (p0:Arr) (p1:Nat):List Int := Arr.sh (ar3q20 p0 p1)
def ar3q22 (p0:Arr) (p1:Nat):List Int := Arr.nu (ar3q20 p0 p1)
def ar3q23 (p0:Arr) (p1:Nat):List Arr := Arr.it (ar3q20 p0 p1)
def ar3q24 (p0:Arr) (p1:Nat):List D := [ZI (Arr.k (ar3q20 p0 p1)),SI (ar3q21 p0 p1),SI (ar3q22 p0 p1),D.sl N4 (LN (ar3q23 p0 p1)) (fun (i:Nat) => Arr.row (List.getD (ar3q23 p0 p1) i ar3q19)) Mode.any]
def ar3q25 (p0:Nat) (p1:Arr) (p2:Nat):Prop := (SM p0∧(SM (ar3q9 p1)∧(SM (ar3q3 p1)∧(∀ (i:Nat),i < ar3q3 p1→SM (ar3q4 p1 i))∧True)∧(SM (ar3q6 p1)∧(∀ (i:Nat),i < ar3q6 p1→SM (ar3q18 p1 i))∧True)∧(SM (ar3q8 p1)∧(∀ (i:Nat),i < ar3q8 p1→SM (ar3q24 p1 i))∧True)∧True)∧ar3q15 p2)∧True
def ar3q26 (p0:Arr):Int := (NI (ar3q6 p0))
def ar3q27 (p0:Arr) (p1:Nat):Int := GI (ar3q5 p0) (Int.toNat (↑p1:Int))
def ar3q28 (p0:Arr) (p1:Nat):Bool := badK (ar3q9 p0) (ar3q27 p0 p1)
def ar3q29 (p0:Nat) (p1:Arr) (p2 p3:Nat):Prop := SM p0∧ifB (ar3q9 p1 == (2:Int)) (True∧∀ (_y:Unit),True→∃ (_x:Unit),True∧((!chrB (ar3q27 p1 p2)) = ar3q28 p1 p2∧True)∧ar3q25 p0 p1 p3) (∃ (_x:Unit),True∧(false = ar3q28 p1 p2∧True)∧ar3q25 p0 p1 p3)
def ar3q30 (p0:Arr) (p1:Nat):Prop := True∧∃ (_y:Unit),True∧((17:Int) = ar3q11 p0∧ar3q14 p0)∧ar3q16 p1
def ar3q31 (p0:Arr):D := D.sl N1 (ar3q6 p0) (fun (i:Nat) => ar3q18 p0 i) Mode.any
def ar3q32 (p0:Arr):D := D.sl N4 (ar3q8 p0) (fun (i:Nat) => ar3q24 p0 i) Mode.any
def ar3q33 (p0:Arr):D := D.agg [ZI (ar3q9 p0),D.sl N1 (ar3q3 p0) (fun (i:Nat) => ar3q4 p0 i) Mode.any,ar3q31 p0,ar3q32 p0]
def ar3q34 (p0:Arr):Prop := SM (ar3q33 p0)
def ar3q35 (p0:Arr):Int := (NI (ar3q8 p0))
def ar3q36 (p0:Arr):Int := ar3q26 p0 + ar3q35 p0
def ar3q37 (p0:Nat) (p1:Arr) (p2 p3:Int):Prop := p0 ≤ ar3q8 p1∧Z0 ≤ p2∧p2 ≤ (17:Int)∧Z0 ≤ p3∧p3 ≤ (262145:Int)∧chkL (List.drop p0 (ar3q7 p1)) p2 p3 = chkL (ar3q7 p1) Z0 (ar3q36 p1)
def ar3q38 (p0:Arr) (p1:Nat):Arr := List.getD (ar3q7 p0) (Int.toNat (↑p1:Int)) ar3q19
def ar3q39 (p0:Arr) (p1:Nat):List Int := Arr.sh (ar3q38 p0 p1)
def ar3q40 (p0:Arr) (p1:Nat):Nat := LN (ar3q39 p0 p1)
def ar3q41 (p0:Arr) (p1:Nat):List Int := Arr.nu (ar3q38 p0 p1)
def ar3q42 (p0:Arr) (p1:Nat):Nat := LN (ar3q41 p0 p1)
def ar3q43 (p0:Arr) (p1:Nat):List Arr := Arr.it (ar3q38 p0 p1)
def ar3q44 (p0:Arr) (p1:Nat):Nat := LN (ar3q43 p0 p1)
def ar3q45 (p0:Arr):Int := IntKind.wrap IntKind.i64 (ar3q12 p0 + Z1)
def ar3q46 (p0 p1:Int):Bool := bif decide ((16:Int) < p0) then true else decide ((262144:Int) < p1)
end
theorem vis_step (xb : Nat) (a : Arr) (ha : a.nu.length ≤ maxLen ∧ a.it.length ≤ maxLen ∧ a.sh.length ≤ maxLen) (ih : ∀ b ∈ a.it, ACalls Tryz.prog 62 ((sVis Arr.row2 xb (fun _ => True)).args b) ((sVis Arr.row2 xb (fun _ => True)).st b) (SpecR (sVis Arr.row2 xb (fun _ => True)) b)) :
    ACalls Tryz.prog 62 ((sVis Arr.row2 xb (fun _ => True)).args a) ((sVis Arr.row2 xb (fun _ => True)).st a) (SpecR (sVis Arr.row2 xb (fun _ => True)) a) := by
  refine con_of (A := sVis Arr.row2 xb (fun _ => True)) (x := a) (E := Evis xb a) (eOk (conVis_ok ih) rfl) Tryz.func62 rfl (by kernel_rfl) rfl (by simp [sVis,Evis,EC,E0]) ?_
  refine vc_eq (T :=
    ∀ (x:Nat),xb ≠ x∧True→SM x∧((IntsP (ar3q3 a) fun (i:Nat) => ar3q4 a i)∧ar3q3 a ≤ (9223372036854775807:Nat)∧ar3q6 a ≤ (9223372036854775807:Nat)∧ar3q8 a ≤ (9223372036854775807:Nat))∧∀ (y:Unit),True→ifB (ar3q10 a != Z0) (True∧∃ (y:Unit),True∧(ar3q10 a = ar3q11 a∧ar3q14 a)∧ar3q16 xb) (SM x∧(∃ (x_1:Nat),ar3q17 x_1 a∧(Z0 = (↑x_1:Int)∧True)∧ar3q25 x a xb)∧∀ (x_1:Nat),ar3q17 x_1 a→ifB (decide ((↑x_1:Int) < ar3q26 a)) (side (Z0 ≤ (↑x_1:Int)∧(↑x_1:Int) < ar3q26 a) ((SM x∧ifB (ar3q9 a == Z1) (True∧∀ (y:Unit),True→ifB (!numB (ar3q27 a x_1)) (∃ (x_2:Unit),True∧(true = ar3q28 a x_1∧True)∧ar3q25 x a xb) (ar3q29 x a x_1 xb)) (ar3q29 x a x_1 xb))∧∀ (x_2:Unit),True→ifB (ar3q28 a x_1) (ar3q30 a xb) ((ar3q34 a∧SM (D.ref N1 xb N0)∧SM (D.ref N2 x N0)∧SM (ar3q31 a)∧SM (ZI (ar3q26 a))∧True)∧∃ (y:Nat),ar3q17 y a∧ar3q6 a - y < ar3q6 a - x_1∧(IntKind.wrap IntKind.i64 ((↑x_1:Int) + Z1) = (↑y:Int)∧True)∧ar3q25 x a xb))) (SM x∧SM x∧SM x∧(∃ (x_2:Nat × Int × Int),ar3q37 x_2.1 a x_2.2.1 x_2.2.2∧(Z0 = (NI x_2.1)∧Z0 = x_2.2.1∧IntKind.wrap IntKind.i64 (ar3q36 a) = x_2.2.2∧True)∧ar3q25 x a xb)∧∀ (x_2:Nat × Int × Int),ar3q37 x_2.1 a x_2.2.1 x_2.2.2→ifB (decide ((NI x_2.1) < ar3q35 a)) (side (Z0 ≤ (NI x_2.1)∧(NI x_2.1) < ar3q35 a) (∀ (x_3:Nat),x ≠ x_3∧xb ≠ x_3∧True→SM x_3∧SM xb∧SM x_3∧∃ (x_4:Arr),((Arr.k (ar3q38 a x_2.1) = ar3q9 x_4∧(ar3q40 a x_2.1 = ar3q3 x_4∧(∀ (i:Nat),i < ar3q40 a x_2.1→[ZI (GI (ar3q39 a x_2.1) i)] = ar3q4 x_4 i)∧True)∧(ar3q42 a x_2.1 = ar3q6 x_4∧(∀ (i:Nat),i < ar3q42 a x_2.1→[ZI (GI (ar3q41 a x_2.1) i)] = ar3q18 x_4 i)∧True)∧(ar3q44 a x_2.1 = ar3q8 x_4∧(∀ (i:Nat),i < ar3q44 a x_2.1→Arr.row (List.getD (ar3q43 a x_2.1) i ar3q19) = Arr.row (ar3q20 x_4 i))∧True)∧True)∧SM xb∧True)∧ar3q16 xb∧x_4 ∈ ar3q7 a∧∀ (y:Unit),True→ifB (ar3q11 x_4 != Z0) (ar3q30 a xb) ((ar3q34 a∧SM (D.ref N1 xb N0)∧SM (D.ref N2 x N0)∧SM (ar3q32 a)∧SM (ZI (ar3q35 a))∧True)∧∃ (y:Nat × Int × Int),ar3q37 y.1 a y.2.1 y.2.2∧ar3q8 a - y.1 < ar3q8 a - x_2.1∧(IntKind.wrap IntKind.i64 ((NI x_2.1) + Z1) = (NI y.1)∧(if x_2.2.1 < ar3q45 x_4 then ar3q45 x_4 else x_2.2.1) = y.2.1∧(if (262145:Int) < IntKind.wrap IntKind.i64 (x_2.2.2 + ar3q13 x_4) then (262145:Int) else IntKind.wrap IntKind.i64 (x_2.2.2 + ar3q13 x_4)) = y.2.2∧True)∧ar3q25 x a xb))) (ifB (decide ((16:Int) < x_2.2.1)) (true = ar3q46 x_2.2.1 x_2.2.2∧True) (decide ((262144:Int) < x_2.2.2) = ar3q46 x_2.2.1 x_2.2.2∧True)∧ifB (ar3q46 x_2.2.1 x_2.2.2) (True∧∃ (y:Unit),True∧((21:Int) = ar3q11 a∧ar3q14 a)∧ar3q16 xb) (True∧∃ (y:Unit),True∧(Z0 = ar3q11 a∧x_2.2.1 = ar3q12 a∧x_2.2.2 = ar3q13 a∧True)∧ar3q16 xb))))) (by kernel_rfl) ?_
  delta DA GI LN N0 N1 N2 N4 NI SI SM Z0 Z1 ZI ar3q10 ar3q11 ar3q12 ar3q13 ar3q14 ar3q15 ar3q16 ar3q17 ar3q18 ar3q19 ar3q20 ar3q21 ar3q22 ar3q23 ar3q24 ar3q25 ar3q26 ar3q27 ar3q28 ar3q29 ar3q3 ar3q30 ar3q31 ar3q32 ar3q33 ar3q34 ar3q35 ar3q36 ar3q37 ar3q38 ar3q39 ar3q4 ar3q40 ar3q41 ar3q42 ar3q43 ar3q44 ar3q45 ar3q46 ar3q5 ar3q6 ar3q7 ar3q8 ar3q9
  have da:(default:Arr) = Arr.mk 0 [] [] [] := rfl
  simp only [← da,intsD_isl,Int.toNat_natCast,ifB_iff,side_iff,decide_eq_true_eq,decide_eq_false_iff_not,true_and,and_true,beq_iff_eq,bne_iff_ne,Bool.cond_true_left,beq_eq_false_iff_ne,ne_eq,exists_const,forall_const]
  intro x _
  have hA := chkA_eq a
  obtain ⟨l1,l2,l3⟩ := ha
  have tt:(∀ i:Nat,i < a.sh.length→True)∧(∀ i:Nat,i < a.nu.length→True)∧∀ i:Nat,i < a.it.length→True := ⟨fun _ _ => trivial,fun _ _ => trivial,fun _ _ => trivial⟩
  refine ⟨⟨intsP_isl _,l3,l1,l2⟩,fun h => ?_,fun h => ⟨⟨0,⟨Nat.zero_le _,by simp⟩,rfl,tt⟩,fun i hi => ⟨fun hlt => ?_,fun hge => ?_⟩⟩⟩
  · rw [hA,if_pos h]; exact ⟨rfl,rfl,rfl⟩
  · have h0:formS a.k a.sh a.nu.length a.it.length = 0 := by simpa using h
    have hsm := form_small h0
    have hlt':i < a.nu.length := by omega
    have hmem:a.nu.getD i 0 ∈ a.nu := by rw [List.getD_eq_getElem?_getD,List.getElem?_eq_getElem hlt']; exact List.getElem_mem hlt'
    have htk:a.nu.take (i + 1) = a.nu.take i ++ [a.nu.getD i 0] := by
      rw [List.take_add_one]; simp [List.getD_eq_getElem?_getD,hlt']
    generalize a.nu.getD i 0 = z at *
    refine ⟨by omega,?_,fun hb => ?_,fun hb => ⟨i + 1,⟨by omega,fun y hy => ?_⟩,by omega,wrap_i64' (by omega) (by omega),tt⟩⟩
    · refine ⟨fun k1 => ⟨fun hn => ⟨by simp at hn; simp [badK,k1,hn],tt⟩,fun hn => ⟨fun k2 => by omega,fun k2 => ⟨by simp at hn; simp [badK,k1,hn],tt⟩⟩⟩,fun k1 => ⟨fun k2 => ⟨by simp [badK,k2],tt⟩,fun k2 => ⟨by simp [badK,k1,k2],tt⟩⟩⟩
    · have:a.nu.any (badK a.k) = true := List.any_eq_true.2 ⟨z,hmem,hb⟩
      rw [hA,if_neg (by simp [h0]),if_pos this]
      exact ⟨rfl,rfl,rfl⟩
    · rw [htk,List.mem_append] at hy
      rcases hy with hy | hy
      · exact hi.2 y hy
      · simp at hy; rw [hy]; exact hb
  · have h0:formS a.k a.sh a.nu.length a.it.length = 0 := by simpa using h
    have hsm := form_small h0
    have hii:i = a.nu.length := by omega
    rw [hii,List.take_length] at hi
    have hany:¬ a.nu.any (badK a.k) = true := by
      rw [List.any_eq_true]
      rintro ⟨z,hz,hb⟩
      rw [hi.2 z hz] at hb
      cases hb
    rw [if_neg (by simp [h0]),if_neg hany] at hA
    refine ⟨⟨(0,0,(a.nu.length:Int) + a.it.length),⟨Nat.zero_le _,Int.le_refl _,by simp,by simp only; omega,by simp only; omega,by simp⟩,⟨rfl,rfl,wrap_i64' (by omega) (by omega)⟩,tt⟩,?_⟩
    rintro ⟨j,d,w⟩ ⟨b1,b2,b3,b4,b5,hch⟩
    simp only at b1 b2 b3 b4 b5 hch ⊢
    refine ⟨fun hlt => ⟨by omega,fun x3 _ => ?_⟩,fun hge => ?_⟩
    · have hlt':j < a.it.length := by omega
      have hbd := chkA_bounds (a.it.getD j default)
      rw [drop_step hlt',chkL] at hch
      refine ⟨a.it.getD j default,⟨rfl,⟨rfl,fun _ _ => rfl⟩,⟨rfl,fun _ _ => rfl⟩,rfl,fun _ _ => rfl⟩,mem_getD hlt',fun herr => ?_,fun hok => ?_⟩
      · rw [if_pos herr] at hch
        rw [← hch] at hA
        rw [hA]
        exact ⟨rfl,rfl,rfl⟩
      · have hok:(chkA (a.it.getD j default)).1 = 0 := by simpa using hok
        rw [if_neg (fun hne => hne hok)] at hch
        have w1:IntKind.i64.wrap ((chkA (a.it.getD j default)).2.1 + 1) = (chkA (a.it.getD j default)).2.1 + 1 := wrap_i64' (by omega) (by omega)
        have w2:IntKind.i64.wrap (w + (chkA (a.it.getD j default)).2.2) = w + (chkA (a.it.getD j default)).2.2 := wrap_i64' (by omega) (by omega)
        rw [w1,w2]
        refine ⟨(j + 1,(if d < (chkA (a.it.getD j default)).2.1 + 1 then (chkA (a.it.getD j default)).2.1 + 1 else d),(if 262145 < w + (chkA (a.it.getD j default)).2.2 then 262145 else w + (chkA (a.it.getD j default)).2.2)),⟨by simp only; omega,?_,?_,?_,?_,hch⟩,by simp only; omega,⟨wrap_i64' (by omega) (by omega),rfl,rfl⟩,tt⟩
        · simp only; split <;> omega
        · simp only; split <;> omega
        · simp only; split <;> omega
        · simp only; split <;> omega
    · have hj:j = a.it.length := by omega
      rw [hj,List.drop_length,chkL] at hch
      rw [← hch] at hA
      simp only at hA
      refine ⟨⟨fun h1 => by rw [decide_eq_true h1]; rfl,fun h1 => by rw [decide_eq_false h1]; rfl⟩,fun hc => ?_,fun hc => ?_⟩
      · rw [Bool.or_eq_true,decide_eq_true_eq,decide_eq_true_eq] at hc
        rw [if_pos hc] at hA
        rw [hA]; exact ⟨rfl,rfl,rfl⟩
      · rw [Bool.or_eq_false_iff,decide_eq_false_iff_not,decide_eq_false_iff_not] at hc
        rw [if_neg (by omega)] at hA
        rw [hA]; exact ⟨rfl,rfl,rfl⟩
end Go.Proofs.YtflbmbkhjcbhoaaGreatDoor
namespace Go.Proofs.YtflbmbkhjcbhoaaGreatDoor
open Go Go.Ab
theorem vis_all:∀ (a:Arr),a.ok→∀ xb,ACalls Tryz.prog 62 ((sVis Arr.row2 xb (fun _ => True)).args a) ((sVis Arr.row2 xb (fun _ => True)).st a) (SpecR (sVis Arr.row2 xb (fun _ => True)) a)
  | .mk k s n is,h,xb => by
    have h' := h
    simp only [Arr.ok] at h'
    obtain ⟨_,_,_,h1,h2,h3,h4⟩ := h'
    refine vis_step xb (.mk k s n is) ⟨h2,h3,h1⟩ fun b hb => ?_
    have hb':b ∈ is := hb
    exact vis_all b ((okL_iff _).1 h4 b hb') xb
termination_by a => SizeOf.sizeOf a
decreasing_by
  have := List.sizeOf_lt_of_mem hb'
  simp; omega
theorem vis1_all (a:Arr) (ha:a.ok) (xb:Nat) (q:Arr→Prop):ACalls Tryz.prog 62 ((sVis Arr.row1 xb q).args a) ((sVis Arr.row1 xb q).st a) (SpecR (sVis Arr.row1 xb q) a) := by
  refine ((vis_all a ha xb).wkArgs ?_).mono fun _ _ ⟨y,h1,h2,h3⟩ => ⟨y,h1,h2,h3⟩
  simp only [sVis,wkL,wkD]
  exact ⟨row1_wk a,by simp [weakD,chk_iff]⟩
def conRi (a:Arr):Con := fun k ds _ => match k with
  | 62 => match ds with
    | [_,.ref _ xb _] => some (sVis Arr.row1 xb (fun b => b = a))
    | _ => none
  | _ => none
theorem conRi_ok {a:Arr} (ha:a.ok):ConOk Tryz.prog (conRi a) := by
  intro k ds S A h
  unfold conRi at h
  split at h
  · split at h
    · injection h with h; subst h
      refine ConOk.plain (fun b hb => ?_) rfl rfl
      have hb:b = a := hb
      rw [hb]
      exact vis1_all a ha _ _
    · cases h
  · cases h
noncomputable def Eri (a:Arr):Senv := EC (conRi a) 16 7 [] (fun _ => ([],[]))
noncomputable section
def ar4q0 (p0:Arr):Nat := LN (Arr.sh p0)
def ar4q1 (p0:Arr) (p1:Nat):List D := [ZI (GI (Arr.sh p0) p1)]
def ar4q2 (p0:Arr):Nat := LN (Arr.nu p0)
def ar4q3 (p0:Arr) (p1:Nat):List D := [ZI (GI (Arr.nu p0) p1)]
def ar4q4 (p0:Arr):Nat := LN (Arr.it p0)
def ar4q5 (p0:Arr) (p1:Nat):List D := Arr.row (GA (Arr.it p0) p1)
end
theorem ri_ok (a:Arr) (ha:a.ok):ACalls Tryz.prog 23 [.agg a.row1] ⟨[],[]⟩ (SpecR (sC [.agg a.row1] (.int .i64 (chkA a).1)) ()) := by
  refine con_of (A := sC _ _) (x := ()) (E := Eri a) (eOk (conRi_ok ha) rfl) Tryz.func23 rfl (by kernel_rfl) rfl (by simp [sC,Eri,EC,E0]) ?_
  refine vc_eq (T :=
    ∀ (x:Nat),True→∀ (x_1:Nat),x ≠ x_1∧True→SM x_1∧SM x_1∧SM x∧∃ (x:Arr),((Arr.k a = Arr.k x∧(ar4q0 a = ar4q0 x∧(∀ (i:Nat),i < ar4q0 a→ar4q1 a i = ar4q1 x i)∧True)∧(ar4q2 a = ar4q2 x∧(∀ (i:Nat),i < ar4q2 a→ar4q3 a i = ar4q3 x i)∧True)∧(ar4q4 a = ar4q4 x∧(∀ (i:Nat),i < ar4q4 a→ar4q5 a i = ar4q5 x i)∧True)∧True)∧SM x_1∧True)∧((SM x_1∧(D.fn (Fn.func (62:Nat)) [] [D.ref (max (N0 + N1) N0) x_1 N0] = D.fn (Fn.func (62:Nat)) [] [D.ref N1 x_1 N0]∧True)∧True)∧True)∧x = a∧∀ (y:Unit),True→True∧∃ (y:Unit),True∧Prod.fst (chkA x) = Prod.fst (chkA a)∧True∧True) (by kernel_rfl) ?_
  delta DA GA GI LN N0 N1 SM Z0 ZI ar4q0 ar4q1 ar4q2 ar4q3 ar4q4 ar4q5
  intro x _ x1 hx
  exact ⟨rfl,rfl,rfl,a,⟨⟨rfl,⟨rfl,fun _ _ => rfl,trivial⟩,⟨rfl,fun _ _ => rfl,trivial⟩,⟨rfl,fun _ _ => rfl,trivial⟩,trivial⟩,rfl,trivial⟩,⟨⟨rfl,⟨rfl,trivial⟩,trivial⟩,trivial⟩,rfl,fun _ _ => ⟨trivial,(),trivial,rfl,trivial,trivial⟩⟩
end Go.Proofs.YtflbmbkhjcbhoaaGreatDoor
namespace Go.Proofs.YtflbmbkhjcbhoaaGreatDoor
open Go Go.Ab
noncomputable def Ernum:Senv := EC con0 9 1 [2] (fun _ => ([],[]))
noncomputable section
def ar5q0 (p0:Int):Bool := bif decide ((-4611686018427387903:Int) ≤ p0) then decide (p0 ≤ (4611686018427387903:Int)) else false
end
theorem rnum_ok (z:Int):ACalls Tryz.prog 92 [.int .i64 z] ⟨[],[]⟩ (SpecR (sC [.int .i64 z] (.bool (numB z))) ()) := by
  refine con_of (A := sC _ _) (x := ()) (E := Ernum) (eOk con0_ok rfl) Tryz.func92 rfl (by kernel_rfl) rfl (by simp [sC,Ernum,EC,E0]) ?_
  refine vc_eq (T :=
    ifB (decide ((-4611686018427387903:Int) ≤ z)) (decide (z ≤ (4611686018427387903:Int)) = ar5q0 z∧True) (false = ar5q0 z∧True)∧True∧∃ (y:Unit),True∧ar5q0 z = numB z∧True∧True) (by kernel_rfl) ?_
  delta ar5q0
  simp only [ifB_iff,decide_eq_true_eq,decide_eq_false_iff_not,true_and,and_true,Bool.cond_false_right,exists_const]
  refine ⟨⟨fun h => by rw [decide_eq_true h]; rfl,fun h => by rw [decide_eq_false h]; rfl⟩,rfl⟩
noncomputable def Erchr:Senv := EC con0 17 1 [2] (fun _ => ([],[]))
noncomputable section
def ar5q1 (p0:Int):Bool := bif bif decide (Z0 ≤ p0) then decide (p0 ≤ (1114111:Int)) else false then bif decide (p0 < (55296:Int)) then true else decide ((57343:Int) < p0) else false
def ar5q2 (p0:Int):Prop := false = ar5q1 p0∧True
end
theorem rchr_ok (z:Int):ACalls Tryz.prog 93 [.int .i64 z] ⟨[],[]⟩ (SpecR (sC [.int .i64 z] (.bool (chrB z))) ()) := by
  refine con_of (A := sC _ _) (x := ()) (E := Erchr) (eOk con0_ok rfl) Tryz.func93 rfl (by kernel_rfl) rfl (by simp [sC,Erchr,EC,E0]) ?_
  refine vc_eq (T :=
    ifB (decide (Z0 ≤ z)) (ifB (decide (z ≤ (1114111:Int))) (ifB (decide (z < (55296:Int))) (true = ar5q1 z∧True) (decide ((57343:Int) < z) = ar5q1 z∧True)) (ar5q2 z)) (ar5q2 z)∧True∧∃ (y:Unit),True∧ar5q1 z = chrB z∧True∧True) (by kernel_rfl) ?_
  delta Z0 ar5q1 ar5q2
  simp only [ifB_iff,decide_eq_true_eq,decide_eq_false_iff_not,true_and,and_true,Bool.cond_false_right,Bool.cond_true_left,exists_const]
  refine ⟨⟨fun h1 => ⟨fun h2 => ⟨fun h3 => by simp [h1,h2,h3],fun h3 => by simp [h1,h2,h3]⟩,fun h2 => by simp [h1,h2]⟩,fun h1 => by simp [h1]⟩,rfl⟩
def sizeR (k:Int) (nn ni:Nat):Int := if k = 1∨k = 2 then nn else if k = 3 then ni else 0
noncomputable def Esz:Senv := EC con0 16 3 [4,5,11] (fun _ => ([],[]))
noncomputable section
def ar5q3 (p0 p1:Nat) (p2:Int) (p3:Nat):Prop := SM p0∧True∧∃ (_y:Unit),True∧(↑p1:Int) = sizeR p2 p1 p3∧True∧True
def ar5q4 (p0:Int) (p1 p2 p3:Nat):Prop := ifB (p0 == (3:Int)) (SM p1∧True∧∃ (_y:Unit),True∧(↑p2:Int) = sizeR p0 p3 p2∧True∧True) (True∧∃ (_y:Unit),True∧Z0 = sizeR p0 p3 p2∧True∧True)
end
theorem sz_ok (k : Int) (ns nn ni : Nat) (f g h : Nat → List D) :
    ACalls Tryz.prog 90 [.agg [.int .i64 k,.sl 1 ns f .any,.sl 1 nn g .any,.sl 4 ni h .any]] ⟨[],[]⟩ (SpecR (sC [.agg [.int .i64 k,.sl 1 ns f .any,.sl 1 nn g .any,.sl 4 ni h .any]] (.int .i64 (sizeR k nn ni))) ()) := by
  refine con_of (A := sC _ _) (x := ()) (E := Esz) (eOk con0_ok rfl) Tryz.func90 rfl (by kernel_rfl) rfl (by simp [sC,Esz,EC,E0]) ?_
  refine vc_eq (T :=
    ∀ (x:Nat),True→SM x∧ifB (k == Z1) (ifB (k == Z1) (ar5q3 x nn k ni) (ar5q4 k x ni nn)) (ifB (k == (2:Int)) (ar5q3 x nn k ni) (ar5q4 k x ni nn))) (by kernel_rfl) ?_
  delta SM Z0 Z1 ar5q3 ar5q4
  simp only [ifB_iff,true_and,and_true,beq_iff_eq,beq_eq_false_iff_ne,ne_eq,exists_const,forall_const]
  repeat' (first
    | refine And.intro ?_ ?_
    | intro _)
  all_goals first
    | (simp_all [sizeR]; done)
    | grind [sizeR]
    | trace_state
def conRf:Con := fun k ds S => match k with
  | 90 => match ds with
    | [.agg [.int .i64 k,.sl 1 _ _ _,.sl 1 nn _ _,.sl 4 ni _ _]] => some (pC ds (.int .i64 (sizeR k nn ni)) True)
    | _ => none
  | 92 => match ds with
    | [.int .i64 z] => some (pC [.int .i64 z] (.bool (numB z)) True)
    | _ => none
  | 93 => match ds with
    | [.int .i64 z] => some (pC [.int .i64 z] (.bool (chrB z)) True)
    | _ => none
  | k => conAr k ds S
theorem conRf_ok:ConOk Tryz.prog conRf := by
  intro k ds S A h
  unfold conRf at h
  split at h
  · split at h
    · rename_i k ns f _ nn g _ ni g' _
      injection h with h; subst h
      refine pC_ok fun _ => ⟨weakL_refl _,sC_weak (us := [.agg [.int .i64 k,.sl 1 ns f .any,.sl 1 nn g .any,.sl 4 ni g' .any]]) ?_ (sz_ok _ _ _ _ _ _ _)⟩
      refine ⟨?_,trivial⟩
      simp only [weakD,weakL]
      refine ⟨by simp [chk_iff,kEq],?_,?_,?_,trivial⟩
      · simp [chk_iff,weakM]
      · simp [chk_iff,weakM]
      · simp [chk_iff,weakM]
    · cases h
  · split at h
    · injection h with h; subst h
      exact pC_ok fun _ => ⟨weakL_refl _,rnum_ok _⟩
    · cases h
  · split at h
    · injection h with h; subst h
      exact pC_ok fun _ => ⟨weakL_refl _,rchr_ok _⟩
    · cases h
  · exact conAr_ok _ _ _ _ h
mutual
def wtA:Arr→Int
  | .mk k _ n is => min (wtL k is (sizeR k n.length is.length)) 262145
def wtL (k:Int):List Arr→Int→Int
  | [],n => n
  | x :: r,n => if k = 3∧n ≤ 262144 then wtL k r (n + wtA x) else n
end
theorem wtA_eq (a:Arr):wtA a = min (wtL a.k a.it (sizeR a.k a.nu.length a.it.length)) 262145 := by
  cases a with
  | mk k s n is => rw [wtA]; rfl
theorem wtL_pos (k:Int):∀ (l:List Arr) (n:Int),0 ≤ n→(∀ x ∈ l,0 ≤ wtA x)→0 ≤ wtL k l n
  | [],n,h,_ => by rw [wtL]; exact h
  | x :: r,n,h,h2 => by
    rw [wtL]
    have := h2 x (by simp)
    split
    · exact wtL_pos k r _ (by omega) fun y hy => h2 y (by simp [hy])
    · exact h
theorem wtA_bounds:∀ (a:Arr),0 ≤ wtA a∧wtA a ≤ 262145
  | .mk k s n is => by
    rw [wtA]
    have hs:0 ≤ sizeR k n.length is.length := by unfold sizeR; split <;> (try split) <;> omega
    have := wtL_pos k is _ hs fun x hx => (wtA_bounds x).1
    omega
termination_by a => SizeOf.sizeOf a
decreasing_by
  have := List.sizeOf_lt_of_mem hx
  simp; omega
def sRc (row:Arr→List D) (q:Arr→Prop) (r:Arr→D):FnSpec where
  β := Arr
  α := Unit
  args := fun a => [.agg (row a)]
  st := fun _ => ⟨[],[]⟩
  pre := q
  post := fun _ _ => True
  res := fun a _ => .ret (r a)
  out := fun _ _ => ⟨[],[]⟩
def conWt (its:List Arr):Con := fun k ds S => match k with
  | 94 => some (sRc Arr.row1 (fun b => b ∈ its) (fun b => .int .i64 (wtA b)))
  | k => conRf k ds S
theorem sRc_row {k:Nat} {q q':Arr→Prop} {r:Arr→D} {b:Arr} (h:ACalls Tryz.prog k ((sRc Arr.row2 q r).args b) ⟨[],[]⟩ (SpecR (sRc Arr.row2 q r) b)):ACalls Tryz.prog k ((sRc Arr.row1 q' r).args b) ⟨[],[]⟩ (SpecR (sRc Arr.row1 q' r) b) := by
  refine (h.wkArgs ?_).mono fun _ _ ⟨y,h1,h2,h3⟩ => ⟨y,h1,h2,h3⟩
  simp only [sRc,wkL,wkD]
  exact ⟨row1_wk b,trivial⟩
theorem conWt_ok {its:List Arr} (ih:∀ b ∈ its,ACalls Tryz.prog 94 ((sRc Arr.row2 (fun _ => True) (fun b => .int .i64 (wtA b))).args b) ⟨[],[]⟩ (SpecR (sRc Arr.row2 (fun _ => True) (fun b => .int .i64 (wtA b))) b)):ConOk Tryz.prog (conWt its) := by
  intro k ds S A h
  unfold conWt at h
  split at h
  · injection h with h; subst h
    exact ConOk.plain (fun b hb => sRc_row (ih b hb)) rfl rfl
  · exact conRf_ok _ _ _ _ h
noncomputable def Ewt (a:Arr):Senv := { EC (conWt a.it) 33 5 [20] (fun _ => ([],[])) with
  ann := fun b _ S => match b with
    | 0 => some { slots := [3,4],keep := [0,1,2],α := Nat × Int,st := fun y => ([.int .i64 y.2,.int .i64 y.1],S),inv := fun y => y.1 ≤ a.it.length∧0 ≤ y.2∧y.2 ≤ maxLen∧wtL a.k (a.it.drop y.1) y.2 = wtL a.k a.it (sizeR a.k a.nu.length a.it.length),mu := fun y => a.it.length - y.1 }
    | _ => none }
noncomputable section
def ar5q5 (p0:Arr):List Arr := Arr.it p0
def ar5q6 (p0:Arr):Nat := LN (ar5q5 p0)
def ar5q7 (p0:Arr):Int := Arr.k p0
def ar5q8 (p0:Arr):Nat := LN (Arr.nu p0)
def ar5q9 (p0:Arr):Int := sizeR (ar5q7 p0) (ar5q8 p0) (ar5q6 p0)
def ar5q10 (p0:Nat) (p1:Arr) (p2:Int):Prop := p0 ≤ ar5q6 p1∧Z0 ≤ p2∧p2 ≤ (9223372036854775807:Int)∧wtL (ar5q7 p1) (List.drop p0 (ar5q5 p1)) p2 = wtL (ar5q7 p1) (ar5q5 p1) (ar5q9 p1)
def ar5q11 (p0:Arr):Nat := LN (Arr.sh p0)
def ar5q12 (p0:Arr) (p1:Nat):List D := [ZI (GI (Arr.sh p0) p1)]
def ar5q13 (p0:Arr) (p1:Nat):List D := [ZI (GI (Arr.nu p0) p1)]
def ar5q14:Arr := DA
def ar5q15 (p0:Arr) (p1:Nat):Arr := List.getD (ar5q5 p0) p1 ar5q14
def ar5q16 (p0:Arr) (p1:Nat):List Int := Arr.sh (ar5q15 p0 p1)
def ar5q17 (p0:Arr) (p1:Nat):List Int := Arr.nu (ar5q15 p0 p1)
def ar5q18 (p0:Arr) (p1:Nat):List Arr := Arr.it (ar5q15 p0 p1)
def ar5q19 (p0:Arr) (p1:Nat):List D := [ZI (Arr.k (ar5q15 p0 p1)),SI (ar5q16 p0 p1),SI (ar5q17 p0 p1),D.sl N4 (LN (ar5q18 p0 p1)) (fun (i:Nat) => Arr.row (List.getD (ar5q18 p0 p1) i ar5q14)) Mode.any]
def ar5q20 (p0:Nat) (p1:Arr):Prop := (SM p0∧(SM (ar5q7 p1)∧(SM (ar5q11 p1)∧(∀ (i:Nat),i < ar5q11 p1→SM (ar5q12 p1 i))∧True)∧(SM (ar5q8 p1)∧(∀ (i:Nat),i < ar5q8 p1→SM (ar5q13 p1 i))∧True)∧(SM (ar5q6 p1)∧(∀ (i:Nat),i < ar5q6 p1→SM (ar5q19 p1 i))∧True)∧True)∧True)∧True
def ar5q21 (p0:Nat) (p1:Arr):Bool := decide ((↑p0:Int) < (NI (ar5q6 p1)))
def ar5q22 (p0:Nat) (p1:Arr) (p2:Int):Bool := bif bif ar5q21 p0 p1 then ar5q7 p1 == (3:Int) else false then decide (p2 ≤ (262144:Int)) else false
def ar5q23 (p0:Nat) (p1:Arr) (p2:Int):Prop := false = ar5q22 p0 p1 p2∧True
def ar5q24 (p0:Arr) (p1:Nat):Arr := List.getD (ar5q5 p0) (Int.toNat (↑p1:Int)) ar5q14
def ar5q25 (p0:Arr) (p1:Nat):List Int := Arr.sh (ar5q24 p0 p1)
def ar5q26 (p0:Arr) (p1:Nat):Nat := LN (ar5q25 p0 p1)
def ar5q27 (p0:Arr) (p1:Nat):List Int := Arr.nu (ar5q24 p0 p1)
def ar5q28 (p0:Arr) (p1:Nat):Nat := LN (ar5q27 p0 p1)
def ar5q29 (p0:Arr) (p1:Nat):List Arr := Arr.it (ar5q24 p0 p1)
def ar5q30 (p0:Arr) (p1:Nat):Nat := LN (ar5q29 p0 p1)
def ar5q31 (p0:Arr):D := D.agg [ZI (ar5q7 p0),D.sl N1 (ar5q11 p0) (fun (i:Nat) => ar5q12 p0 i) Mode.any,D.sl N1 (ar5q8 p0) (fun (i:Nat) => ar5q13 p0 i) Mode.any,D.sl N4 (ar5q6 p0) (fun (i:Nat) => ar5q19 p0 i) Mode.any]
end
theorem wt_step (a : Arr) (ha : a.nu.length ≤ maxLen ∧ a.it.length ≤ maxLen ∧ a.sh.length ≤ maxLen) (ih : ∀ b ∈ a.it, ACalls Tryz.prog 94 ((sRc Arr.row2 (fun _ => True) (fun b => .int .i64 (wtA b))).args b) ⟨[], []⟩ (SpecR (sRc Arr.row2 (fun _ => True) (fun b => .int .i64 (wtA b))) b)) :
    ACalls Tryz.prog 94 ((sRc Arr.row2 (fun _ => True) (fun b => .int .i64 (wtA b))).args a) ⟨[],[]⟩ (SpecR (sRc Arr.row2 (fun _ => True) (fun b => .int .i64 (wtA b))) a) := by
  refine con_of (A := sRc Arr.row2 (fun _ => True) (fun b => .int .i64 (wtA b))) (x := a) (E := Ewt a) (eOk (conWt_ok ih) rfl) Tryz.func94 rfl (by kernel_rfl) rfl (by simp [sRc,Ewt,EC,E0]) ?_
  refine vc_eq (T :=
    ∀ (x:Nat),True→SM x∧True∧∀ (y:Unit),True→(∃ (x_1:Nat × Int),ar5q10 x_1.1 a x_1.2∧(ar5q9 a = x_1.2∧Z0 = (NI x_1.1)∧True)∧ar5q20 x a)∧∀ (x_1:Nat × Int),ar5q10 x_1.1 a x_1.2→(SM x∧ifB (ar5q21 x_1.1 a) (SM x∧ifB (ar5q7 a == (3:Int)) (decide (x_1.2 ≤ (262144:Int)) = ar5q22 x_1.1 a x_1.2∧True) (ar5q23 x_1.1 a x_1.2)) (ar5q23 x_1.1 a x_1.2))∧ifB (ar5q22 x_1.1 a x_1.2) (SM x∧side (Z0 ≤ (NI x_1.1)∧(NI x_1.1) < (NI (ar5q6 a))) (∃ (x_2:Arr),((Arr.k (ar5q24 a x_1.1) = ar5q7 x_2∧(ar5q26 a x_1.1 = ar5q11 x_2∧(∀ (i:Nat),i < ar5q26 a x_1.1→[ZI (GI (ar5q25 a x_1.1) i)] = ar5q12 x_2 i)∧True)∧(ar5q28 a x_1.1 = ar5q8 x_2∧(∀ (i:Nat),i < ar5q28 a x_1.1→[ZI (GI (ar5q27 a x_1.1) i)] = ar5q13 x_2 i)∧True)∧(ar5q30 a x_1.1 = ar5q6 x_2∧(∀ (i:Nat),i < ar5q30 a x_1.1→Arr.row (List.getD (ar5q29 a x_1.1) i ar5q14) = Arr.row (ar5q15 x_2 i))∧True)∧True)∧True)∧(True∧True)∧x_2 ∈ ar5q5 a∧∀ (y:Unit),True→(SM (ar5q31 a)∧SM (D.ref N0 x N0)∧SM (ZI Z0)∧True)∧∃ (y:Nat × Int),ar5q10 y.1 a y.2∧ar5q6 a - y.1 < ar5q6 a - x_1.1∧(IntKind.wrap IntKind.i64 (x_1.2 + wtA x_2) = y.2∧IntKind.wrap IntKind.i64 ((NI x_1.1) + Z1) = (NI y.1)∧True)∧ar5q20 x a)) (True∧∃ (y:Unit),True∧(if (262145:Int) < x_1.2 then (262145:Int) else x_1.2) = wtA a∧True∧True)) (by kernel_rfl) ?_
  delta DA GI LN N0 N1 N4 NI SI SM Z0 Z1 ZI ar5q10 ar5q11 ar5q12 ar5q13 ar5q14 ar5q15 ar5q16 ar5q17 ar5q18 ar5q19 ar5q20 ar5q21 ar5q22 ar5q23 ar5q24 ar5q25 ar5q26 ar5q27 ar5q28 ar5q29 ar5q30 ar5q31 ar5q5 ar5q6 ar5q7 ar5q8 ar5q9
  have da:(default:Arr) = Arr.mk 0 [] [] [] := rfl
  simp only [← da,Int.toNat_natCast,ifB_iff,side_iff,decide_eq_true_eq,decide_eq_false_iff_not,true_and,and_true,beq_iff_eq,Bool.cond_false_right,Bool.and_eq_true,Bool.and_eq_false_iff,beq_eq_false_iff_ne,ne_eq,exists_const,forall_const]
  obtain ⟨l1,l2,l3⟩ := ha
  simp only [maxLen] at l1 l2 l3
  have tt:(∀ i:Nat,i < a.sh.length→True)∧(∀ i:Nat,i < a.nu.length→True)∧∀ i:Nat,i < a.it.length→True := ⟨fun _ _ => trivial,fun _ _ => trivial,fun _ _ => trivial⟩
  have hsz:0 ≤ sizeR a.k a.nu.length a.it.length∧sizeR a.k a.nu.length a.it.length ≤ 9223372036854775807 := by
    unfold sizeR; split <;> (try split) <;> omega
  refine ⟨⟨(0,sizeR a.k a.nu.length a.it.length),⟨Nat.zero_le _,hsz.1,hsz.2,rfl⟩,⟨rfl,rfl⟩,tt⟩,?_⟩
  rintro ⟨j,n⟩ ⟨b1,b2,b3,hch⟩
  simp only at b1 b2 b3 hch ⊢
  refine ⟨⟨fun h1 => ⟨fun h2 => by simp [h1,h2],fun h2 => by simp [h2]⟩,fun h1 => by simp [h1]⟩,fun ⟨⟨h1,h2⟩,h3⟩ => ⟨by omega,?_⟩,fun hc => ?_⟩
  · have hlt':j < a.it.length := by omega
    have hbd := wtA_bounds (a.it.getD j default)
    rw [drop_step hlt',wtL,if_pos ⟨h2,h3⟩] at hch
    refine ⟨a.it.getD j default,⟨rfl,⟨rfl,fun _ _ => rfl⟩,⟨rfl,fun _ _ => rfl⟩,rfl,fun _ _ => rfl⟩,mem_getD hlt',(j + 1,n + wtA (a.it.getD j default)),⟨by simp only; omega,by simp only; omega,by simp only; omega,hch⟩,by simp only; omega,⟨wrap_i64' (by omega) (by omega),wrap_i64' (by omega) (by omega)⟩,tt⟩
  · have he:wtL a.k (a.it.drop j) n = n := by
      by_cases hj:j < a.it.length
      · rw [drop_step hj,wtL,if_neg (by rintro ⟨h2,h3⟩; rcases hc with (h | h) | h <;> omega)]
      · rw [List.drop_eq_nil_of_le (by omega),wtL]
    rw [he] at hch
    rw [wtA_eq,← hch]
    split <;> omega
theorem wt_all:∀ (a:Arr),a.ok→ACalls Tryz.prog 94 ((sRc Arr.row2 (fun _ => True) (fun b => .int .i64 (wtA b))).args a) ⟨[],[]⟩ (SpecR (sRc Arr.row2 (fun _ => True) (fun b => .int .i64 (wtA b))) a)
  | .mk k s n is,h => by
    have h' := h
    simp only [Arr.ok] at h'
    obtain ⟨_,_,_,h1,h2,h3,h4⟩ := h'
    refine wt_step (.mk k s n is) ⟨h2,h3,h1⟩ fun b hb => ?_
    have hb':b ∈ is := hb
    exact wt_all b ((okL_iff _).1 h4 b hb')
termination_by a => SizeOf.sizeOf a
decreasing_by
  have := List.sizeOf_lt_of_mem hb'
  simp; omega
end Go.Proofs.YtflbmbkhjcbhoaaGreatDoor
namespace Go.Proofs.YtflbmbkhjcbhoaaGreatDoor
open Go Go.Ab
theorem chkL_sat:∀ (l:List Arr) (d d' w':Int),chkL l d 262145 = some (d',w')→w' = 262145
  | [],d,d',w',h => by rw [chkL] at h; injection h with h; injection h with e1 e2; omega
  | x :: r,d,d',w',h => by
    rw [chkL] at h
    have := chkA_bounds x
    split at h
    · cases h
    · have e:(if (262145:Int) < 262145 + (chkA x).2.2 then 262145 else 262145 + (chkA x).2.2) = 262145 := by split <;> omega
      rw [e] at h; exact chkL_sat r _ d' w' h
theorem wtL_chk (k:Int):∀ (l:List Arr) (d w d' w':Int),chkL l d w = some (d',w')→(k = 3∨l = [])→(∀ x ∈ l,(chkA x).1 = 0→wtA x = (chkA x).2.2)→∀ n,min n 262145 = w→min (wtL k l n) 262145 = w'
  | [],d,w,d',w',h,_,_,n,hn => by
    rw [chkL] at h; injection h with h; injection h with e1 e2; rw [wtL]; omega
  | x :: r,d,w,d',w',h,hk,h3,n,hn => by
    have hk:k = 3 := hk.resolve_right (by simp)
    rw [chkL] at h
    have hb := chkA_bounds x
    split at h
    · cases h
    · rename_i hx
      have hx:(chkA x).1 = 0 := by simpa using hx
      have hwx := h3 x (by simp) hx
      rw [wtL]
      by_cases hn2:n ≤ 262144
      · rw [if_pos ⟨hk,hn2⟩]
        refine wtL_chk k r _ _ d' w' h (.inl hk) (fun y hy => h3 y (by simp [hy])) _ ?_
        split <;> omega
      · rw [if_neg (fun e => hn2 e.2)]
        have hw:w = 262145 := by omega
        rw [hw] at h
        have:(if (262145:Int) < 262145 + (chkA x).2.2 then 262145 else 262145 + (chkA x).2.2) = 262145 := by split <;> omega
        rw [this] at h
        have := chkL_sat r _ _ _ h
        omega
theorem form_zero {k:Int} {s:List Int} {nn ni:Nat} (h:formS k s nn ni = 0):(k = 3∧nn = 0)∨((k = 1∨k = 2)∧ni = 0) := by
  unfold formS at h
  by_cases hk:k = 1∨k = 2∨k = 3
  · rw [if_pos hk] at h
    by_cases hd:dimsS s ≠ 0
    · rw [if_pos hd] at h; exact (hd h).elim
    · rw [if_neg hd] at h
      by_cases hc:((if k = 3 then (ni:Int) else nn) ≠ sizeS s)∨((if k = 3 then (nn:Int) else ni) ≠ 0)
      · rw [if_pos hc] at h; omega
      · simp only [not_or,ne_eq,Decidable.not_not] at hc
        obtain ⟨c1,c2⟩ := hc
        by_cases k3:k = 3
        · simp only [k3,if_true] at c2; left; omega
        · simp only [k3,if_false] at c2; right; omega
  · rw [if_neg hk] at h; omega
theorem wt_of {a:Arr} {r:Int × Int} (h0:formS a.k a.sh a.nu.length a.it.length = 0) (hr:chkL a.it 0 ((a.nu.length:Int) + a.it.length) = some r) (h3:∀ x ∈ a.it,(chkA x).1 = 0→wtA x = (chkA x).2.2):wtA a = r.2 := by
  have hz := form_zero h0
  have hs := form_small h0
  rw [wtA_eq]
  refine wtL_chk a.k a.it 0 _ r.1 r.2 hr ?_ h3 _ ?_
  · rcases hz with ⟨h1,_⟩ | ⟨_,h2⟩
    · exact .inl h1
    · exact .inr (List.length_eq_zero_iff.1 h2)
  · unfold sizeR
    rcases hz with ⟨h1,h2⟩ | ⟨h1,h2⟩
    · rw [if_neg (by omega),if_pos h1]; omega
    · rw [if_pos h1]; omega
theorem wt_chk:∀ (a:Arr),(chkA a).1 = 0→wtA a = (chkA a).2.2
  | .mk k s n is,h => by
    have ih:∀ x ∈ (Arr.mk k s n is).it,(chkA x).1 = 0→wtA x = (chkA x).2.2 := fun x hx => by
      have hx':x ∈ is := hx
      exact wt_chk x
    have hA := chkA_eq (Arr.mk k s n is)
    generalize Arr.mk k s n is = a at *
    by_cases h0:formS a.k a.sh a.nu.length a.it.length = 0
    · rw [if_neg (fun e => e h0)] at hA
      by_cases h1:a.nu.any (badK a.k) = true
      · rw [if_pos h1] at hA; rw [hA] at h; cases h
      · rw [if_neg h1] at hA
        cases hr:chkL a.it 0 ((a.nu.length:Int) + a.it.length) with
        | none => rw [hr] at hA; simp only at hA; rw [hA] at h; cases h
        | some r =>
          rw [hr] at hA
          simp only at hA
          split at hA
          · rw [hA] at h; cases h
          · rw [hA]; exact wt_of h0 hr ih
    · rw [if_pos h0] at hA; rw [hA] at h; exact (h0 h).elim
termination_by a => SizeOf.sizeOf a
decreasing_by
  have := List.sizeOf_lt_of_mem hx'
  simp; omega
def resC (b:Arr):D := .tup [.int .i64 (chkA b).1,.int .i64 (chkA b).2.1]
def conCk (a:Arr):Con := fun k ds S => match k with
  | 71 => some (sRc Arr.row1 (fun b => b ∈ a.it) (fun b => .tup [.int .i64 (chkA b).1,.int .i64 (chkA b).2.1]))
  | 94 => some (sRc Arr.row2 (fun b => b = a) (fun b => .int .i64 (wtA b)))
  | k => conRf k ds S
theorem conCk_ok {a:Arr} (ha:a.ok) (ih:∀ b ∈ a.it,ACalls Tryz.prog 71 ((sRc Arr.row2 (fun _ => True) resC).args b) ⟨[],[]⟩ (SpecR (sRc Arr.row2 (fun _ => True) resC) b)):ConOk Tryz.prog (conCk a) := by
  intro k ds S A h
  unfold conCk at h
  split at h
  · injection h with h; subst h
    exact ConOk.plain (fun b hb => sRc_row (r := resC) (ih b hb)) rfl rfl
  · injection h with h; subst h
    refine ConOk.plain (fun b hb => ?_) rfl rfl
    have hb:b = a := hb
    rw [hb]
    exact (wt_all a ha).mono fun _ _ ⟨y,h1,h2,h3⟩ => ⟨y,h1,h2,h3⟩
  · exact conRf_ok _ _ _ _ h
def cutW (a:Arr) (d:D) (S:St):Option LoopAnn :=
  match d with
  | .int _ i => some { slots := [76],keep := [],α := Unit,st := fun _ => ([.bool (badK a.k (a.nu.getD i.toNat 0))],S),inv := fun _ => True,mu := fun _ => 0 }
  | _ => none
noncomputable def Eck (a:Arr):Senv := { EC (conCk a) 107 11 [18,23,30,43,48,76,81,94,105] (fun id => match id with | 9 => ([0,2,3,1,4,5,6,7,8,9],[1,4]) | _ => ([],[])) with
  cut := fun id env S => match id with
    | 14 => cutW a (Ab.look env 6) S
    | _ => none
  ann := fun b _ S => match b with
    | 0 => some { slots := [6],keep := [0,1,2,3],α := Nat,st := fun i => ([.int .i64 i],S),inv := fun i => i ≤ a.nu.length∧∀ z ∈ a.nu.take i,badK a.k z = false,mu := fun i => a.nu.length - i }
    | 2 => some { slots := [8,7],keep := [0,1,2,3],α := Nat × Int × Int,st := fun y => ([.int .i64 y.1,.int .i64 y.2.1],S),inv := fun y => y.1 ≤ a.it.length∧0 ≤ y.2.1∧y.2.1 ≤ 17∧0 ≤ y.2.2∧y.2.2 ≤ 262145∧chkL (a.it.drop y.1) y.2.1 y.2.2 = chkL a.it 0 ((a.nu.length:Int) + a.it.length),mu := fun y => a.it.length - y.1 }
    | _ => none }
noncomputable section
def ar6q0 (p0:Arr):Int := Arr.k p0
def ar6q1 (p0:Arr):Bool := decide (ar6q0 p0 < Z1)
def ar6q2 (p0:Arr):Bool := decide ((3:Int) < ar6q0 p0)
def ar6q3 (p0:Arr):Bool := bif ar6q1 p0 then true else ar6q2 p0
def ar6q4 (p0:Arr):Int := Prod.fst (chkA p0)
def ar6q5 (p0:Arr):Int := Prod.fst (Prod.snd (chkA p0))
def ar6q6 (p0:Arr):Prop := Z0 = ar6q5 p0∧True
def ar6q7 (p0:Arr):Nat := LN (Arr.sh p0)
def ar6q8 (p0:Arr) (p1:Nat):List D := [ZI (GI (Arr.sh p0) p1)]
def ar6q9 (p0:Arr):Prop := IntsP (ar6q7 p0) fun (i:Nat) => ar6q8 p0 i
def ar6q10 (p0:Arr):List Int := intsD (ar6q7 p0) fun (i:Nat) => ar6q8 p0 i
def ar6q11 (p0:Arr):Int := dimsS (ar6q10 p0)
def ar6q12 (p0:Arr):D := D.sl N1 (ar6q7 p0) (fun (i:Nat) => ar6q8 p0 i) Mode.any
def ar6q13 (p0:Nat) (p1:Arr):Prop := SM p0∧SM (ar6q12 p1)
def ar6q14 (p0:Arr):Prop := ar6q9 p0∧ar6q11 p0 = Z0
def ar6q15 (p0:Arr):List Int := Arr.nu p0
def ar6q16 (p0:Arr):Nat := LN (ar6q15 p0)
def ar6q17 (p0:Arr):List Arr := Arr.it p0
def ar6q18 (p0:Arr):Nat := LN (ar6q17 p0)
def ar6q19 (p0:Arr):Bool := sizeR (ar6q0 p0) (ar6q16 p0) (ar6q18 p0) != sizeS (ar6q10 p0)
def ar6q20 (p0:Arr):Prop := True∧∃ (_y:Unit),True∧((16:Int) = ar6q4 p0∧ar6q6 p0)∧True∧True
def ar6q21 (p0:Arr):Int := (NI (ar6q16 p0))
def ar6q22 (p0:Nat) (p1:Arr):Prop := p0 ≤ ar6q16 p1∧∀ (z:Int),z ∈ List.take p0 (ar6q15 p1)→badK (ar6q0 p1) z = false
def ar6q23 (p0:Arr) (p1:Nat):List D := [ZI (GI (ar6q15 p0) p1)]
def ar6q24:Arr := DA
def ar6q25 (p0:Arr) (p1:Nat):Arr := List.getD (ar6q17 p0) p1 ar6q24
def ar6q26 (p0:Arr) (p1:Nat):List Int := Arr.sh (ar6q25 p0 p1)
def ar6q27 (p0:Arr) (p1:Nat):List Int := Arr.nu (ar6q25 p0 p1)
def ar6q28 (p0:Arr) (p1:Nat):List Arr := Arr.it (ar6q25 p0 p1)
def ar6q29 (p0:Arr) (p1:Nat):List D := [ZI (Arr.k (ar6q25 p0 p1)),SI (ar6q26 p0 p1),SI (ar6q27 p0 p1),D.sl N4 (LN (ar6q28 p0 p1)) (fun (i:Nat) => Arr.row (List.getD (ar6q28 p0 p1) i ar6q24)) Mode.any]
def ar6q30 (p0:Nat) (p1:Arr):Prop := (SM p0∧(SM (ar6q0 p1)∧(SM (ar6q7 p1)∧(∀ (i:Nat),i < ar6q7 p1→SM (ar6q8 p1 i))∧True)∧(SM (ar6q16 p1)∧(∀ (i:Nat),i < ar6q16 p1→SM (ar6q23 p1 i))∧True)∧(SM (ar6q18 p1)∧(∀ (i:Nat),i < ar6q18 p1→SM (ar6q29 p1 i))∧True)∧True)∧True)∧True
def ar6q31 (p0:Arr) (p1:Nat):Int := GI (ar6q15 p0) (Int.toNat (↑p1:Int))
def ar6q32 (p0:Arr) (p1:Nat):Bool := badK (ar6q0 p0) (ar6q31 p0 p1)
def ar6q33 (p0:Nat) (p1:Arr) (p2:Nat):Prop := SM p0∧ifB (ar6q0 p1 == (2:Int)) (SM p0∧side (Z0 ≤ (↑p2:Int)∧(↑p2:Int) < ar6q21 p1) (True∧∀ (_y:Unit),True→∃ (_x:Unit),True∧((!chrB (ar6q31 p1 p2)) = ar6q32 p1 p2∧True)∧ar6q30 p0 p1)) (∃ (_x:Unit),True∧(false = ar6q32 p1 p2∧True)∧ar6q30 p0 p1)
def ar6q34 (p0:Arr):Prop := True∧∃ (_y:Unit),True∧((17:Int) = ar6q4 p0∧ar6q6 p0)∧True∧True
def ar6q35 (p0:Arr):D := D.agg [ZI (ar6q0 p0),ar6q12 p0,D.sl N1 (ar6q16 p0) (fun (i:Nat) => ar6q23 p0 i) Mode.any,D.sl N4 (ar6q18 p0) (fun (i:Nat) => ar6q29 p0 i) Mode.any]
def ar6q36 (p0:Arr) (p1:Nat):Prop := SM (ar6q35 p0)∧SM (D.ref N0 p1 N0)∧SM (ZI Z0)∧SM (ZI Z0)∧True
def ar6q37 (p0:Arr):Int := (NI (ar6q18 p0))
def ar6q38 (p0:Nat) (p1:Arr) (p2 p3:Int):Prop := p0 ≤ ar6q18 p1∧Z0 ≤ p2∧p2 ≤ (17:Int)∧Z0 ≤ p3∧p3 ≤ (262145:Int)∧chkL (List.drop p0 (ar6q17 p1)) p2 p3 = chkL (ar6q17 p1) Z0 (ar6q21 p1 + ar6q37 p1)
def ar6q39 (p0:Arr) (p1:Nat):Arr := List.getD (ar6q17 p0) (Int.toNat (↑p1:Int)) ar6q24
def ar6q40 (p0:Arr) (p1:Nat):List Int := Arr.sh (ar6q39 p0 p1)
def ar6q41 (p0:Arr) (p1:Nat):Nat := LN (ar6q40 p0 p1)
def ar6q42 (p0:Arr) (p1:Nat):List Int := Arr.nu (ar6q39 p0 p1)
def ar6q43 (p0:Arr) (p1:Nat):Nat := LN (ar6q42 p0 p1)
def ar6q44 (p0:Arr) (p1:Nat):List Arr := Arr.it (ar6q39 p0 p1)
def ar6q45 (p0:Arr) (p1:Nat):Nat := LN (ar6q44 p0 p1)
def ar6q46 (p0:Arr):Int := IntKind.wrap IntKind.i64 (ar6q5 p0 + Z1)
def ar6q47 (p0:Arr):Prop := True∧∃ (_y:Unit),True∧((21:Int) = ar6q4 p0∧ar6q6 p0)∧True∧True
def ar6q48 (p0:Arr) (p1:Nat):Prop := (∃ (x:Nat),ar6q22 x p0∧(Z0 = (↑x:Int)∧True)∧ar6q30 p1 p0)∧∀ (x:Nat),ar6q22 x p0→SM p1∧ifB (decide ((↑x:Int) < ar6q21 p0)) ((SM p1∧ifB (ar6q0 p0 == Z1) (SM p1∧side (Z0 ≤ (↑x:Int)∧(↑x:Int) < ar6q21 p0) (True∧∀ (_y:Unit),True→ifB (!numB (ar6q31 p0 x)) (∃ (_x_1:Unit),True∧(true = ar6q32 p0 x∧True)∧ar6q30 p1 p0) (ar6q33 p1 p0 x))) (ar6q33 p1 p0 x))∧∀ (_x_1:Unit),True→ifB (ar6q32 p0 x) (ar6q34 p0) (ar6q36 p0 p1∧∃ (y:Nat),ar6q22 y p0∧ar6q16 p0 - y < ar6q16 p0 - x∧(IntKind.wrap IntKind.i64 ((↑x:Int) + Z1) = (↑y:Int)∧True)∧ar6q30 p1 p0)) ((∃ (x:Nat × Int × Int),ar6q38 x.1 p0 x.2.1 x.2.2∧(Z0 = (NI x.1)∧Z0 = x.2.1∧True)∧ar6q30 p1 p0)∧∀ (x:Nat × Int × Int),ar6q38 x.1 p0 x.2.1 x.2.2→SM p1∧ifB (decide ((NI x.1) < ar6q37 p0)) (SM p1∧side (Z0 ≤ (NI x.1)∧(NI x.1) < ar6q37 p0) (∃ (x_1:Arr),((Arr.k (ar6q39 p0 x.1) = ar6q0 x_1∧(ar6q41 p0 x.1 = ar6q7 x_1∧(∀ (i:Nat),i < ar6q41 p0 x.1→[ZI (GI (ar6q40 p0 x.1) i)] = ar6q8 x_1 i)∧True)∧(ar6q43 p0 x.1 = ar6q16 x_1∧(∀ (i:Nat),i < ar6q43 p0 x.1→[ZI (GI (ar6q42 p0 x.1) i)] = ar6q23 x_1 i)∧True)∧(ar6q45 p0 x.1 = ar6q18 x_1∧(∀ (i:Nat),i < ar6q45 p0 x.1→Arr.row (List.getD (ar6q44 p0 x.1) i ar6q24) = Arr.row (ar6q25 x_1 i))∧True)∧True)∧True)∧(True∧True)∧x_1 ∈ ar6q17 p0∧∀ (_y:Unit),True→ifB (ar6q4 x_1 != Z0) (ar6q34 p0) (ar6q36 p0 p1∧∃ (y:Nat × Int × Int),ar6q38 y.1 p0 y.2.1 y.2.2∧ar6q18 p0 - y.1 < ar6q18 p0 - x.1∧(IntKind.wrap IntKind.i64 ((NI x.1) + Z1) = (NI y.1)∧(if x.2.1 < ar6q46 x_1 then ar6q46 x_1 else x.2.1) = y.2.1∧True)∧ar6q30 p1 p0))) (ifB (decide ((16:Int) < x.2.1)) (ar6q47 p0) (SM p1∧∃ (x_1:Arr),((ar6q0 p0 = ar6q0 x_1∧(ar6q7 p0 = ar6q7 x_1∧(∀ (i:Nat),i < ar6q7 p0→ar6q8 p0 i = ar6q8 x_1 i)∧True)∧(ar6q16 p0 = ar6q16 x_1∧(∀ (i:Nat),i < ar6q16 p0→ar6q23 p0 i = ar6q23 x_1 i)∧True)∧(ar6q18 p0 = ar6q18 x_1∧(∀ (i:Nat),i < ar6q18 p0→ar6q29 p0 i = ar6q29 x_1 i)∧True)∧True)∧True)∧(True∧True)∧x_1 = p0∧∀ (_y:Unit),True→ifB (decide ((262144:Int) < wtA x_1)) (ar6q47 p0) (True∧∃ (_y:Unit),True∧(Z0 = ar6q4 p0∧x.2.1 = ar6q5 p0∧True)∧True∧True))))
end
theorem ck_step (a : Arr) (hok : a.ok) (ha : a.nu.length ≤ maxLen ∧ a.it.length ≤ maxLen ∧ a.sh.length ≤ maxLen) (ih : ∀ b ∈ a.it, ACalls Tryz.prog 71 ((sRc Arr.row2 (fun _ => True) resC).args b) ⟨[], []⟩ (SpecR (sRc Arr.row2 (fun _ => True) resC) b)) :
    ACalls Tryz.prog 71 ((sRc Arr.row2 (fun _ => True) resC).args a) ⟨[],[]⟩ (SpecR (sRc Arr.row2 (fun _ => True) resC) a) := by
  refine con_of (A := sRc Arr.row2 (fun _ => True) resC) (x := a) (E := Eck a) (eOk (conCk_ok hok ih) rfl) Tryz.func71 rfl (by kernel_rfl) rfl (by simp [sRc,Eck,EC,E0]) ?_
  simp only [sRc,resC]
  refine vc_eq (T :=
    ∀ (x:Nat),True→(SM x∧ifB (ar6q1 a) (true = ar6q3 a∧True) (SM x∧ar6q2 a = ar6q3 a∧True))∧ifB (ar6q3 a) (True∧∃ (y:Unit),True∧((14:Int) = ar6q4 a∧ar6q6 a)∧True∧True) (SM x∧ar6q9 a∧∀ (y:Unit),True→ifB (ar6q11 a != Z0) (True∧∃ (y:Unit),True∧(ar6q11 a = ar6q4 a∧ar6q6 a)∧True∧True) (SM x∧SM x∧ifB (ar6q0 a == (3:Int)) (SM x∧SM x∧SM x∧True∧∀ (y:Unit),True→ar6q13 x a∧ar6q14 a∧∀ (y:Unit),True→ifB (ar6q19 a) (ar6q20 a) (ifB (decide (Z0 < ar6q21 a)) (ar6q20 a) (ar6q48 a x))) (SM x∧SM x∧True∧∀ (y:Unit),True→ar6q13 x a∧ar6q14 a∧∀ (y:Unit),True→ifB (ar6q19 a) (ar6q20 a) (ifB (decide (Z0 < ar6q37 a)) (ar6q20 a) (ar6q48 a x)))))) (by kernel_rfl) ?_
  delta DA GI LN N0 N1 N4 NI SI SM Z0 Z1 ZI ar6q0 ar6q1 ar6q10 ar6q11 ar6q12 ar6q13 ar6q14 ar6q15 ar6q16 ar6q17 ar6q18 ar6q19 ar6q2 ar6q20 ar6q21 ar6q22 ar6q23 ar6q24 ar6q25 ar6q26 ar6q27 ar6q28 ar6q29 ar6q3 ar6q30 ar6q31 ar6q32 ar6q33 ar6q34 ar6q35 ar6q36 ar6q37 ar6q38 ar6q39 ar6q4 ar6q40 ar6q41 ar6q42 ar6q43 ar6q44 ar6q45 ar6q46 ar6q47 ar6q48 ar6q5 ar6q6 ar6q7 ar6q8 ar6q9
  have da:(default:Arr) = Arr.mk 0 [] [] [] := rfl
  simp only [← da,intsD_isl,Int.toNat_natCast,ifB_iff,side_iff,decide_eq_true_eq,decide_eq_false_iff_not,true_and,and_true,beq_iff_eq,bne_iff_ne,Bool.cond_true_left,beq_eq_false_iff_ne,ne_eq,exists_const,forall_const]
  have hA := chkA_eq a
  obtain ⟨l1,l2,l3⟩ := ha
  simp only [maxLen] at l1 l2 l3
  have tt:(∀ i:Nat,i < a.sh.length→True)∧(∀ i:Nat,i < a.nu.length→True)∧∀ i:Nat,i < a.it.length→True := ⟨fun _ _ => trivial,fun _ _ => trivial,fun _ _ => trivial⟩
  have bad:∀ e,formS a.k a.sh a.nu.length a.it.length = e→e ≠ 0→e = (chkA a).1∧0 = (chkA a).2.1 := fun e h1 h2 => by
    rw [if_pos (by rw [h1]; exact h2),h1] at hA
    rw [hA]; exact ⟨rfl,rfl⟩
  refine ⟨⟨fun h => by simp [h],fun h => by simp [h]⟩,fun h => bad 14 ?_ (by decide),fun h => ⟨intsP_isl _,fun hd => bad _ ?_ hd,fun hd => ?_⟩⟩
  · rw [Bool.or_eq_true,decide_eq_true_eq,decide_eq_true_eq] at h
    unfold formS; rw [if_neg (by omega)]
  · rw [Bool.or_eq_false_iff,decide_eq_false_iff_not,decide_eq_false_iff_not] at h
    unfold formS; rw [if_pos (by omega),if_pos hd]
  rw [Bool.or_eq_false_iff,decide_eq_false_iff_not,decide_eq_false_iff_not] at h
  have hd0:dimsS a.sh = 0 := by simpa using hd
  have hk:a.k = 1∨a.k = 2∨a.k = 3 := by omega
  have hf:formS a.k a.sh a.nu.length a.it.length = if ((if a.k = 3 then (a.it.length:Int) else a.nu.length) ≠ sizeS a.sh)∨((if a.k = 3 then (a.nu.length:Int) else a.it.length) ≠ 0) then 16 else 0 := by
    unfold formS; rw [if_pos hk,if_neg (fun e => e hd0)]
  have hsz:sizeR a.k a.nu.length a.it.length = if a.k = 3 then (a.it.length:Int) else a.nu.length := by
    unfold sizeR
    by_cases k3:a.k = 3
    · rw [if_neg (by omega),if_pos k3,if_pos k3]
    · rw [if_pos (by omega),if_neg k3]
  rw [← hsz] at hf
  refine ⟨fun k3 => ⟨⟨intsP_isl _,hd0⟩,fun hs => bad 16 (by rw [hf,if_pos (.inl hs)]) (by decide),fun hs => ⟨fun ho => bad 16 (by rw [hf,if_pos (.inr (by rw [if_pos k3]; omega))]) (by decide),fun ho => ?_⟩⟩,
    fun k3 => ⟨⟨intsP_isl _,hd0⟩,fun hs => bad 16 (by rw [hf,if_pos (.inl hs)]) (by decide),fun hs => ⟨fun ho => bad 16 (by rw [hf,if_pos (.inr (by rw [if_neg k3]; omega))]) (by decide),fun ho => ?_⟩⟩⟩
  all_goals
    have hs':sizeR a.k a.nu.length a.it.length = sizeS a.sh := by simpa using hs
    have h0:formS a.k a.sh a.nu.length a.it.length = 0 := by
      rw [hf,if_neg]
      rintro (h1 | h1)
      · exact h1 hs'
      · simp only [k3,if_true,if_false] at h1; omega
    clear hf hs hsz
    have hsm := form_small h0
    refine ⟨⟨0,⟨Nat.zero_le _,by simp⟩,rfl,tt⟩,fun i hi => ⟨fun hlt => ?_,fun hge => ?_⟩⟩
    · have hlt':i < a.nu.length := by omega
      have hmem:a.nu.getD i 0 ∈ a.nu := by rw [List.getD_eq_getElem?_getD,List.getElem?_eq_getElem hlt']; exact List.getElem_mem hlt'
      have htk:a.nu.take (i + 1) = a.nu.take i ++ [a.nu.getD i 0] := by
        rw [List.take_add_one]; simp [List.getD_eq_getElem?_getD,hlt']
      generalize a.nu.getD i 0 = z at *
      refine ⟨⟨fun k1 => ⟨⟨by omega,hlt⟩,fun hn => ⟨by simp at hn; simp [badK,k1,hn],tt⟩,fun hn => ⟨fun k2 => by omega,fun k2 => ⟨by simp at hn; simp [badK,k1,hn],tt⟩⟩⟩,fun k1 => ⟨fun k2 => ⟨⟨by omega,hlt⟩,by simp [badK,k2],tt⟩,fun k2 => ⟨by simp [badK,k1,k2],tt⟩⟩⟩,fun hb => ?_,fun hb => ⟨i + 1,⟨by omega,fun y hy => ?_⟩,by omega,wrap_i64' (by omega) (by omega),tt⟩⟩
      · have:a.nu.any (badK a.k) = true := List.any_eq_true.2 ⟨z,hmem,hb⟩
        rw [if_neg (fun e => e h0),if_pos this] at hA
        rw [hA]
        exact ⟨rfl,rfl⟩
      · rw [htk,List.mem_append] at hy
        rcases hy with hy | hy
        · exact hi.2 y hy
        · simp at hy; rw [hy]; exact hb
    · have hii:i = a.nu.length := by omega
      rw [hii,List.take_length] at hi
      have hany:¬ a.nu.any (badK a.k) = true := by
        rw [List.any_eq_true]
        rintro ⟨z,hz,hb⟩
        rw [hi.2 z hz] at hb
        cases hb
      rw [if_neg (fun e => e h0),if_neg hany] at hA
      refine ⟨⟨(0,0,(a.nu.length:Int) + a.it.length),⟨Nat.zero_le _,Int.le_refl _,by simp,by simp only; omega,by simp only; omega,by simp⟩,⟨rfl,rfl⟩,tt⟩,?_⟩
      rintro ⟨j,d,w⟩ ⟨b1,b2,b3,b4,b5,hch⟩
      simp only at b1 b2 b3 b4 b5 hch ⊢
      refine ⟨fun hlt => ⟨⟨by omega,hlt⟩,?_⟩,fun hge => ?_⟩
      · have hlt':j < a.it.length := by omega
        have hbd := chkA_bounds (a.it.getD j default)
        rw [drop_step hlt',chkL] at hch
        refine ⟨a.it.getD j default,⟨rfl,⟨rfl,fun _ _ => rfl⟩,⟨rfl,fun _ _ => rfl⟩,rfl,fun _ _ => rfl⟩,mem_getD hlt',fun herr => ?_,fun hok => ?_⟩
        · rw [if_pos herr] at hch
          rw [← hch] at hA
          rw [hA]
          exact ⟨rfl,rfl⟩
        · have hok:(chkA (a.it.getD j default)).1 = 0 := by simpa using hok
          rw [if_neg (fun hne => hne hok)] at hch
          have w1:IntKind.i64.wrap ((chkA (a.it.getD j default)).2.1 + 1) = (chkA (a.it.getD j default)).2.1 + 1 := wrap_i64' (by omega) (by omega)
          rw [w1]
          refine ⟨(j + 1,(if d < (chkA (a.it.getD j default)).2.1 + 1 then (chkA (a.it.getD j default)).2.1 + 1 else d),(if 262145 < w + (chkA (a.it.getD j default)).2.2 then 262145 else w + (chkA (a.it.getD j default)).2.2)),⟨by simp only; omega,?_,?_,?_,?_,hch⟩,by simp only; omega,⟨wrap_i64' (by omega) (by omega),rfl⟩,tt⟩
          · simp only; split <;> omega
          · simp only; split <;> omega
          · simp only; split <;> omega
          · simp only; split <;> omega
      · have hj:j = a.it.length := by omega
        rw [hj,List.drop_length,chkL] at hch
        have hw := wt_of h0 hch.symm fun x _ hx => wt_chk x hx
        rw [← hch] at hA
        simp only at hA hw
        refine ⟨fun hc => ?_,fun hc => ⟨a,⟨rfl,⟨rfl,fun _ _ => rfl⟩,⟨rfl,fun _ _ => rfl⟩,rfl,fun _ _ => rfl⟩,rfl,fun hq => ?_,fun hq => ?_⟩⟩
        · rw [if_pos (.inl hc)] at hA
          rw [hA]; exact ⟨rfl,rfl⟩
        · rw [if_pos (.inr (by omega))] at hA
          rw [hA]; exact ⟨rfl,rfl⟩
        · rw [if_neg (by omega)] at hA
          rw [hA]; exact ⟨rfl,rfl⟩
theorem ck_all:∀ (a:Arr),a.ok→ACalls Tryz.prog 71 ((sRc Arr.row2 (fun _ => True) resC).args a) ⟨[],[]⟩ (SpecR (sRc Arr.row2 (fun _ => True) resC) a)
  | .mk k s n is,h => by
    have h' := h
    simp only [Arr.ok] at h'
    obtain ⟨_,_,_,h1,h2,h3,h4⟩ := h'
    refine ck_step (.mk k s n is) h ⟨h2,h3,h1⟩ fun b hb => ?_
    have hb':b ∈ is := hb
    exact ck_all b ((okL_iff _).1 h4 b hb')
termination_by a => SizeOf.sizeOf a
decreasing_by
  have := List.sizeOf_lt_of_mem hb'
  simp; omega
end Go.Proofs.YtflbmbkhjcbhoaaGreatDoor
namespace Go.Proofs.YtflbmbkhjcbhoaaGreatDoor
open Go Go.Ab
theorem sRc_row0 {k:Nat} {q q':Arr→Prop} {r:Arr→D} {b:Arr} (h:ACalls Tryz.prog k ((sRc Arr.row1 q r).args b) ⟨[],[]⟩ (SpecR (sRc Arr.row1 q r) b)):ACalls Tryz.prog k ((sRc Arr.row q' r).args b) ⟨[],[]⟩ (SpecR (sRc Arr.row q' r) b) := by
  refine (h.wkArgs ?_).mono fun _ _ ⟨y,h1,h2,h3⟩ => ⟨y,h1,h2,h3⟩
  simp only [sRc,wkL,wkD]
  exact ⟨row_wk b,trivial⟩
theorem sRc_q {k:Nat} {row:Arr→List D} {q q':Arr→Prop} {r:Arr→D} {b:Arr} (h:ACalls Tryz.prog k ((sRc row q r).args b) ⟨[],[]⟩ (SpecR (sRc row q r) b)):ACalls Tryz.prog k ((sRc row q' r).args b) ⟨[],[]⟩ (SpecR (sRc row q' r) b) :=
  h.mono fun _ _ ⟨y,h1,h2,h3⟩ => ⟨y,h1,h2,h3⟩
def errA (a:Arr):D := .int .i64 (chkA a).1
def conRr (a:Arr):Con := fun k _ _ => match k with
  | 71 => some (sRc Arr.row2 (fun b => b = a) (fun b => .tup [.int .i64 (chkA b).1,.int .i64 (chkA b).2.1]))
  | 23 => some (sRc Arr.row1 (fun b => b = a) (fun b => .int .i64 (chkA b).1))
  | _ => none
theorem conRr_ok {a:Arr} (ha:a.ok):ConOk Tryz.prog (conRr a) := by
  intro k ds S A h
  unfold conRr at h
  split at h
  · injection h with h; subst h
    refine ConOk.plain (fun b hb => ?_) rfl rfl
    have hb:b = a := hb
    rw [hb]
    exact sRc_q (r := resC) (ck_all a ha)
  · injection h with h; subst h
    refine ConOk.plain (fun b hb => ?_) rfl rfl
    have hb:b = a := hb
    rw [hb]
    exact (ri_ok a ha).mono fun _ _ ⟨y,h1,h2,h3⟩ => ⟨(),trivial,h2,h3⟩
  · cases h
noncomputable def Err (a:Arr):Senv := EC (conRr a) 11 5 [] (fun _ => ([],[]))
noncomputable section
def ar7q0 (p0:Arr):Nat := LN (Arr.sh p0)
def ar7q1 (p0:Arr) (p1:Nat):List D := [ZI (GI (Arr.sh p0) p1)]
def ar7q2 (p0:Arr):Nat := LN (Arr.nu p0)
def ar7q3 (p0:Arr) (p1:Nat):List D := [ZI (GI (Arr.nu p0) p1)]
def ar7q4 (p0:Arr):Nat := LN (Arr.it p0)
def ar7q5:Arr := DA
def ar7q6 (p0:Arr) (p1:Nat):Arr := List.getD (Arr.it p0) p1 ar7q5
def ar7q7 (p0:Arr) (p1:Nat):List Int := Arr.sh (ar7q6 p0 p1)
def ar7q8 (p0:Arr) (p1:Nat):List Int := Arr.nu (ar7q6 p0 p1)
def ar7q9 (p0:Arr) (p1:Nat):List Arr := Arr.it (ar7q6 p0 p1)
def ar7q10 (p0:Arr) (p1:Nat):List D := [ZI (Arr.k (ar7q6 p0 p1)),SI (ar7q7 p0 p1),SI (ar7q8 p0 p1),D.sl N4 (LN (ar7q9 p0 p1)) (fun (i:Nat) => Arr.row (List.getD (ar7q9 p0 p1) i ar7q5)) Mode.any]
end
theorem rri_ok (a:Arr) (ha:a.ok):ACalls Tryz.prog 28 ((sRc Arr.row2 (fun _ => True) errA).args a) ⟨[],[]⟩ (SpecR (sRc Arr.row2 (fun _ => True) errA) a) := by
  refine con_of (A := sRc Arr.row2 (fun _ => True) errA) (x := a) (E := Err a) (eOk (conRr_ok ha) rfl) Tryz.func28 rfl (by kernel_rfl) rfl (by simp [sRc,Err,EC,E0]) ?_
  simp only [sRc,errA]
  refine vc_eq (T :=
    ∀ (x:Nat),True→SM x∧∃ (x:Arr),((Arr.k a = Arr.k x∧(ar7q0 a = ar7q0 x∧(∀ (i:Nat),i < ar7q0 a→ar7q1 a i = ar7q1 x i)∧True)∧(ar7q2 a = ar7q2 x∧(∀ (i:Nat),i < ar7q2 a→ar7q3 a i = ar7q3 x i)∧True)∧(ar7q4 a = ar7q4 x∧(∀ (i:Nat),i < ar7q4 a→ar7q10 a i = ar7q10 x i)∧True)∧True)∧True)∧(True∧True)∧x = a∧∀ (y:Unit),True→True∧∃ (y:Unit),True∧Prod.fst (chkA x) = Prod.fst (chkA a)∧True∧True) (by kernel_rfl) ?_
  delta DA GI LN N1 N4 SI SM Z0 ZI ar7q0 ar7q1 ar7q10 ar7q2 ar7q3 ar7q4 ar7q5 ar7q6 ar7q7 ar7q8 ar7q9
  simp only [and_true,exists_const]
  intro x _
  exact ⟨trivial,a,⟨rfl,⟨rfl,fun _ _ => rfl⟩,⟨rfl,fun _ _ => rfl⟩,rfl,fun _ _ => rfl⟩,trivial,rfl,fun _ _ => ⟨trivial,trivial,rfl⟩⟩
def badA (a:Arr):D := .bool ((chkA a).1 != 0)
noncomputable def Ebad (a:Arr):Senv := EC (conRr a) 6 3 [] (fun _ => ([],[]))
noncomputable section
def ar7q11 (p0:Arr):Nat := LN (Arr.sh p0)
def ar7q12 (p0:Arr) (p1:Nat):List D := [ZI (GI (Arr.sh p0) p1)]
def ar7q13 (p0:Arr):Nat := LN (Arr.nu p0)
def ar7q14 (p0:Arr) (p1:Nat):List D := [ZI (GI (Arr.nu p0) p1)]
def ar7q15 (p0:Arr):Nat := LN (Arr.it p0)
def ar7q16 (p0:Arr) (p1:Nat):List D := Arr.row (GA (Arr.it p0) p1)
end
theorem bad_ok (a:Arr) (ha:a.ok):ACalls Tryz.prog 22 ((sRc Arr.row1 (fun _ => True) badA).args a) ⟨[],[]⟩ (SpecR (sRc Arr.row1 (fun _ => True) badA) a) := by
  refine con_of (A := sRc Arr.row1 (fun _ => True) badA) (x := a) (E := Ebad a) (eOk (conRr_ok ha) rfl) Tryz.func22 rfl (by kernel_rfl) rfl (by simp [sRc,Ebad,EC,E0]) ?_
  simp only [sRc,badA]
  refine vc_eq (T :=
    ∀ (x:Nat),True→SM x∧∃ (x:Arr),((Arr.k a = Arr.k x∧(ar7q11 a = ar7q11 x∧(∀ (i:Nat),i < ar7q11 a→ar7q12 a i = ar7q12 x i)∧True)∧(ar7q13 a = ar7q13 x∧(∀ (i:Nat),i < ar7q13 a→ar7q14 a i = ar7q14 x i)∧True)∧(ar7q15 a = ar7q15 x∧(∀ (i:Nat),i < ar7q15 a→ar7q16 a i = ar7q16 x i)∧True)∧True)∧True)∧(True∧True)∧x = a∧∀ (y:Unit),True→True∧∃ (y:Unit),True∧(Prod.fst (chkA x) != Z0) = (Prod.fst (chkA a) != Z0)∧True∧True) (by kernel_rfl) ?_
  delta DA GA GI LN SM Z0 ZI ar7q11 ar7q12 ar7q13 ar7q14 ar7q15 ar7q16
  simp only [and_true,exists_const]
  intro x _
  exact ⟨trivial,a,⟨rfl,⟨rfl,fun _ _ => rfl⟩,⟨rfl,fun _ _ => rfl⟩,rfl,fun _ _ => rfl⟩,trivial,rfl,fun _ _ => ⟨trivial,trivial,rfl⟩⟩
def idxG {α:Type} (p:α→Bool):List α→Int→Int
  | [],_ => -1
  | x :: r,i => if p x then i else idxG p r (i + 1)
theorem idxG_any {α:Type} (p:α→Bool):∀ (l:List α) (i:Int),0 ≤ i→(decide (0 ≤ idxG p l i)) = l.any p
  | [],i,_ => by simp [idxG]
  | x :: r,i,h => by
    rw [idxG]
    by_cases hx:p x = true
    · rw [if_pos hx]; simp [hx,h]
    · rw [if_neg hx,idxG_any p r (i + 1) (by omega)]; simp [hx]
structure IdxG {α:Type} (p:α→Bool) (l:List α) (i:Nat):Prop where
  hi:i ≤ l.length
  hg:idxG p (l.drop i) i = idxG p l 0
theorem IdxG.step {α:Type} [Inhabited α] {p:α→Bool} {l:List α} {i:Nat} (h:IdxG p l i) (hlt:i < l.length):(p (l.getD i default) = true→idxG p l 0 = i)∧(p (l.getD i default) = false→IdxG p l (i + 1)) := by
  have hg := h.hg
  rw [drop_step hlt,idxG] at hg
  refine ⟨fun e => ?_,fun e => ?_⟩
  · rw [if_pos e] at hg; exact hg.symm
  · rw [if_neg (by rw [e]; exact Bool.false_ne_true)] at hg; exact ⟨by omega,hg⟩
theorem IdxG.done {α:Type} {p:α→Bool} {l:List α} {i:Nat} (h:IdxG p l i) (hge:¬ (i:Int) < l.length):idxG p l 0 = -1 := by
  have hg := h.hg
  have:i = l.length := by have := h.hi; omega
  rw [this,List.drop_length,idxG] at hg
  exact hg.symm
theorem row_four (a:Arr):a.row.length = 4 := by
  cases a with
  | mk k s n is => rfl
def conBa (l:List Arr):Con := fun k _ _ => match k with
  | 22 => some (sRc Arr.row (fun b => b ∈ l) (fun b => .bool ((chkA b).1 != 0)))
  | _ => none
theorem conBa_ok {l:List Arr} (h:∀ a ∈ l,a.ok):ConOk Tryz.prog (conBa l) := by
  intro k ds S A hh
  unfold conBa at hh
  split at hh
  · injection hh with hh; subst hh
    exact ConOk.plain (fun b hb => sRc_row0 (r := badA) (bad_ok b (h b hb))) rfl rfl
  · cases hh
noncomputable def Eix (l:List Arr):Senv := { EC (conBa l) 19 2 [4,5,7,8,9,16] (fun _ => ([],[])) with
  ann := fun b _ _ => match b with
    | 0 => some { slots := [8],keep := [0,1,6,7],α := Nat,st := fun i => ([.int .i64 i],⟨[],[]⟩),inv := fun i => IdxG (fun a => (chkA a).1 != 0) l i,mu := fun i => l.length - i }
    | _ => none }
noncomputable section
def ar7q17 (p0:Arr):Bool := Prod.fst (chkA p0) != Z0
def ar7q18 (p0:List Arr) (p1:Nat):Prop := IdxG (fun (a:Arr) => ar7q17 a) p0 p1
def ar7q19:Arr := DA
def ar7q20 (p0:List Arr) (p1:Nat):List D := Arr.row (List.getD p0 (Int.toNat (↑p1:Int)) ar7q19)
def ar7q21 (p0:List Arr):Int := idxG (fun (a:Arr) => ar7q17 a) p0 Z0
def ar7q22 (p0:List Arr):D := D.sl N4 (LN p0) (fun (i:Nat) => Arr.row (List.getD p0 i ar7q19)) Mode.any
end
theorem ix_ok (l:List Arr) (h:∀ a ∈ l,a.ok) (hl:l.length ≤ maxLen):ACalls Tryz.prog 61 [gsl 4 Arr.row l,.fn (.func 22) [] []] ⟨[],[]⟩ (SpecR (sC [gsl 4 Arr.row l,.fn (.func 22) [] []] (.int .i64 (idxG (fun a => (chkA a).1 != 0) l 0))) ()) := by
  refine con_of (A := sC _ _) (x := ()) (E := Eix l) (eOk (conBa_ok h) rfl) Tryz.func61 rfl (by kernel_rfl) rfl (by simp [sC,Eix,EC,E0]) ?_
  refine vc_eq (T :=
    (∃ (x:Nat),ar7q18 l x∧(Z0 = (↑x:Int)∧True)∧True∧True)∧∀ (x:Nat),ar7q18 l x→ifB (decide ((↑x:Int) < (LI l))) (side (Z0 ≤ (↑x:Int)∧(↑x:Int) < (LI l)) (side (N4 ≤ LN (ar7q20 l x)) (∃ (x_1:Arr),(weakL (List.take N4 (List.drop N0 (ar7q20 l x))) (Arr.row x_1)∧True)∧(True∧True)∧x_1 ∈ l∧∀ (y:Unit),True→ifB (ar7q17 x_1) (True∧∃ (y:Unit),True∧(↑x:Int) = ar7q21 l∧True∧True) ((SM (ar7q22 l)∧SM (D.fn (Fn.func (22:Nat)) [] [])∧SM D.unk∧SM (ZI (LI l))∧True)∧∃ (y:Nat),ar7q18 l y∧LN l - y < LN l - x∧(IntKind.wrap IntKind.i64 ((↑x:Int) + Z1) = (↑y:Int)∧True)∧True∧True)))) (True∧∃ (y:Unit),True∧(-1:Int) = ar7q21 l∧True∧True)) (by kernel_rfl) ?_
  delta DA LI LN N0 N4 SM Z0 Z1 ZI ar7q17 ar7q18 ar7q19 ar7q20 ar7q21 ar7q22
  simp only [Int.toNat_natCast,ifB_iff,side_iff,decide_eq_true_eq,decide_eq_false_iff_not,true_and,and_true,exists_const]
  simp only [maxLen] at hl
  refine ⟨⟨0,⟨Nat.zero_le _,by simp⟩,rfl⟩,fun i hh => ⟨fun hlt => ?_,fun hge => (hh.done hge).symm⟩⟩
  have hlt':i < l.length := by omega
  obtain ⟨s1,s2⟩ := hh.step hlt'
  have r4 := row_four (l.getD i default)
  refine ⟨⟨by omega,hlt⟩,Nat.le_of_eq r4.symm,l.getD i default,?_,mem_getD hlt',fun _ _ => ⟨fun e => (s1 e).symm,fun e => ⟨i + 1,s2 e,by omega,wrap_i64' (by omega) (by omega)⟩⟩⟩
  have da:(default:Arr) = Arr.mk 0 [] [] [] := rfl
  rw [← da,List.drop_zero,List.take_of_length_le (Nat.le_of_eq r4)]
  exact weakL_refl _
noncomputable def Ecf (l:List Arr):Senv := EC (fun k ds _ => match k with
  | 61 => some (pC ds (.int .i64 (idxG (fun a => (chkA a).1 != 0) l 0)) (ds = [gsl 4 Arr.row l,.fn (.func 22) [] []]))
  | _ => none) 9 2 [4] (fun _ => ([],[]))
noncomputable section
def ar7q23 (p0:List Arr):List D := [D.sl N4 (LN p0) (fun (i:Nat) => Arr.row (GA p0 i)) Mode.any,D.fn (Fn.func (22:Nat)) [] []]
end
theorem cf_ok (l:List Arr) (h:∀ a ∈ l,a.ok) (hl:l.length ≤ maxLen):ACalls Tryz.prog 21 [gsl 4 Arr.row l,.fn (.func 22) [] []] ⟨[],[]⟩ (SpecR (sC [gsl 4 Arr.row l,.fn (.func 22) [] []] (.bool (l.any fun a => (chkA a).1 != 0))) ()) := by
  refine con_of (A := sC _ _) (x := ()) (E := Ecf l) (eOk ?_ rfl) Tryz.func21 rfl (by kernel_rfl) rfl (by simp [sC,Ecf,EC,E0]) ?_
  · intro k ds S A hh
    dsimp only at hh
    split at hh
    · injection hh with hh; subst hh
      refine pC_ok fun e => ⟨weakL_refl _,?_⟩
      rw [e]
      exact ix_ok l h hl
    · cases hh
  refine vc_eq (T :=
    SM (ar7q23 l)∧∀ (y:Unit),True→True∧∃ (y:Unit),True∧(decide (Z0 ≤ idxG (fun (a:Arr) => Prod.fst (chkA a) != Z0) l Z0) = List.any l fun (a:Arr) => Prod.fst (chkA a) != Z0)∧True∧True) (by kernel_rfl) ?_
  delta DA GA LN N4 SM Z0 ar7q23
  simp only [true_and,and_true,exists_const]
  exact fun _ _ => idxG_any _ l 0 (Int.le_refl _)
end Go.Proofs.YtflbmbkhjcbhoaaGreatDoor
