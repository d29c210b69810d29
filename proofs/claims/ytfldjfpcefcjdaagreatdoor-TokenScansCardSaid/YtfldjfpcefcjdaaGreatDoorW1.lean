/- Functions of the given program and what each of them computes: lemmas towards the statement, their conditions stated with each of them. -/
import Derived.Test.YtfldjfpcefcjdaaGreatDoorAb3
import Derived.Test.YtfldjfpcefcjdaaGreatDoorProg
import Derived.KernelRfl
import Derived.Shelf.Strings.Builder1
import Derived.Shelf.Strings.Builder2
import Derived.Shelf.Strings.OnBuilder
import Derived.Shelf.Small.Utf8
import Derived.Shelf.Unicode.ValidAny
import Derived.Shelf.Strconv.Itoa0
import Derived.Shelf.Strconv.Itoa1
import Derived.Shelf.LaysM
import Derived.Shelf.Strconv.Itoa2
import Derived.Shelf.Strconv.Itoa3
import Derived.Shelf.Strconv.Itoa4
import Derived.Shelf.Strings.Prefix
import Derived.Shelf.Unicode.Latin
import Derived.Shelf.Unicode.Decode
import Derived.Shelf.Unicode.DecodeSlow
import Derived.Shelf.Unicode.DecodeAny
import Derived.Shelf.Unicode.CaseLookup
import Derived.Shelf.Unicode.CaseConvert
import Derived.Shelf.Unicode.CaseTo
import Derived.Shelf.Unicode.CaseLaid
import Derived.Lib.Builder
import Derived.Lib.UnsafeStr
import Derived.WalkKit
import Derived.ProofKit
import Derived.Lib.DecodeN
import Derived.Lib.AppendIntMem
import Derived.Lib.ItoaLen
import Derived.Lib.MapLaws
import Derived.Lib.Join
import Derived.Lib.LaidTab
import Derived.Lib.ItoaNum
import Derived.Lib.TrailingZeros
import Derived.Calls
import Derived.Below
import Derived.Laws.Entries
import Derived.Laws.Build
import Derived.Laws.Concat
import Derived.Laws.AppendOwn
import Derived.Laws.IdiomStrings
import Derived.Laws.BytesString
import Derived.Laws.NewFold
import Derived.Laws.MakeOwn
import Derived.Laws.IdiomCopy
import Derived.Laws.Shifts
import Derived.Laws.Strings
import Derived.Laws.Strings2
import Derived.Laws.Strings3
import Derived.Laws.RangeString
import Derived.Laws.Cover4
import Derived.MapKept
import Derived.Laws.StructEq
import Derived.Orders
import Derived.Scope
import Derived.OpenShut
import Derived.Recover
import Derived.Test.YtfldjfpcefcjdaaGreatDoorCards
import Derived.Test.YtfldjfpcefcjdaaGreatDoorTie
import Derived.Deep.DeepHandedRow
import Derived.Deep.DeepLaidRun
import Derived.Deep.DeepWitnessRowRef
import Derived.Lib.LaidIn
import Derived.Lib.LaidU8T
import Derived.Lib.LaidCaseMet
import Derived.PinnedBridge
import Derived.Stop.LaidErr
namespace Go.Proofs.YtfldjfpcefcjdaaGreatDoor
open Go Go.Ab
noncomputable def tab:List (Nat × TI) := [
  (0,⟨TypeDesc.tuple #[],1,0,[.unk]⟩),
  (1,⟨TypeDesc.func #[] #[] false,1,8,[.nilf]⟩),
  (2,⟨TypeDesc.int .i64,1,8,[.int .i64 0]⟩),
  (3,⟨TypeDesc.int .i64,1,8,[.int .i64 0]⟩),
  (4,⟨TypeDesc.bool,1,1,[.bool false]⟩),
  (5,⟨TypeDesc.int .u8,1,1,[.int .u8 0]⟩),
  (9,⟨TypeDesc.string,1,16,[.str []]⟩),
  (20,⟨TypeDesc.interface #[],1,16,[.nili]⟩),
  (21,⟨TypeDesc.int .i32,1,4,[.int .i32 0]⟩),
  (22,⟨TypeDesc.func #[] #[4] false,1,8,[.nilf]⟩),
  (23,⟨TypeDesc.slice 35,1,24,[.sl 1 0 (fun _ => []) .nil]⟩),
  (24,⟨TypeDesc.int .i64,1,8,[.int .i64 0]⟩),
  (25,⟨TypeDesc.slice 3,1,24,[.sl 1 0 (fun _ => []) .nil]⟩),
  (26,⟨Tryz.t26.desc,5,80,[.int .i64 0,.int .i64 0,.sl 1 0 (fun _ => []) .nil,.sl 1 0 (fun _ => []) .nil,.str []]⟩),
  (27,⟨Tryz.t26.desc,5,80,[.int .i64 0,.int .i64 0,.sl 1 0 (fun _ => []) .nil,.sl 1 0 (fun _ => []) .nil,.str []]⟩),
  (28,⟨TypeDesc.tuple #[23,27],1,0,[.unk]⟩),
  (29,⟨TypeDesc.func #[9] #[23,27] false,1,8,[.nilf]⟩),
  (30,⟨TypeDesc.func #[23,23] #[4] false,1,8,[.nilf]⟩),
  (31,⟨TypeDesc.func #[27,27] #[4] false,1,8,[.nilf]⟩),
  (32,⟨TypeDesc.func #[9] #[4] false,1,8,[.nilf]⟩),
  (33,⟨TypeDesc.int .i64,1,8,[.int .i64 0]⟩),
  (34,⟨Tryz.t34.desc,5,48,[.int .i64 0,.int .i64 0,.int .i64 0,.int .i64 0,.str []]⟩),
  (35,⟨Tryz.t34.desc,5,48,[.int .i64 0,.int .i64 0,.int .i64 0,.int .i64 0,.str []]⟩),
  (36,⟨TypeDesc.func #[23] #[9] false,1,8,[.nilf]⟩),
  (37,⟨Tryz.t37.desc,3,48,[.str [],.int .i64 0,.sl 1 0 (fun _ => []) .nil]⟩),
  (38,⟨Tryz.t37.desc,3,48,[.str [],.int .i64 0,.sl 1 0 (fun _ => []) .nil]⟩),
  (39,⟨TypeDesc.tuple #[35,3,24],1,0,[.unk]⟩),
  (40,⟨TypeDesc.func #[] #[35,3,24] false,1,8,[.nilf]⟩),
  (41,⟨TypeDesc.func #[9,3] #[4] false,1,8,[.nilf]⟩),
  (42,⟨TypeDesc.tuple #[35,24,3],1,0,[.unk]⟩),
  (43,⟨TypeDesc.func #[9,3] #[35,24,3] false,1,8,[.nilf]⟩),
  (44,⟨TypeDesc.func #[25,25] #[4] false,1,8,[.nilf]⟩),
  (45,⟨TypeDesc.slice 9,1,24,[.sl 1 0 (fun _ => []) .nil]⟩),
  (46,⟨TypeDesc.func #[35] #[9] false,1,8,[.nilf]⟩),
  (47,⟨TypeDesc.func #[45,9] #[9] false,1,8,[.nilf]⟩),
  (48,⟨TypeDesc.func #[45,9] #[4] false,1,8,[.nilf]⟩),
  (49,⟨TypeDesc.func #[] #[45] false,1,8,[.nilf]⟩),
  (50,⟨TypeDesc.pointer 38,1,8,[.nilp]⟩),
  (51,⟨TypeDesc.func #[3,52] #[3] false,1,8,[.nilf]⟩),
  (52,⟨TypeDesc.func #[5] #[4] false,1,8,[.nilf]⟩),
  (53,⟨TypeDesc.tuple #[35,24],1,0,[.unk]⟩),
  (54,⟨TypeDesc.func #[] #[35,24] false,1,8,[.nilf]⟩),
  (55,⟨TypeDesc.func #[5] #[35,3,24] false,1,8,[.nilf]⟩),
  (56,⟨TypeDesc.func #[9,3] #[35,24] false,1,8,[.nilf]⟩),
  (57,⟨TypeDesc.func #[3] #[4] false,1,8,[.nilf]⟩),
  (58,⟨TypeDesc.func #[3] #[9] false,1,8,[.nilf]⟩),
  (59,⟨TypeDesc.func #[21] #[4] false,1,8,[.nilf]⟩),
  (60,⟨TypeDesc.func #[61,21] #[9] false,1,8,[.nilf]⟩),
  (61,⟨TypeDesc.slice 21,1,24,[.sl 1 0 (fun _ => []) .nil]⟩),
  (62,⟨TypeDesc.pointer 65,1,8,[.nilp]⟩),
  (63,⟨TypeDesc.slice 5,1,24,[.sl 1 0 (fun _ => []) .nil]⟩),
  (64,⟨Tryz.t64.desc,2,32,[.nilp,.sl 1 0 (fun _ => []) .nil]⟩),
  (65,⟨Tryz.t64.desc,2,32,[.nilp,.sl 1 0 (fun _ => []) .nil]⟩),
  (66,⟨TypeDesc.func #[3] #[] false,1,8,[.nilf]⟩),
  (67, ⟨TypeDesc.interface #[("Error", 71)], 1, 16, [.nili]⟩),
  (68, ⟨TypeDesc.interface #[("Error", 71)], 1, 16, [.nili]⟩),
  (69,⟨TypeDesc.tuple #[3,68],1,0,[.unk]⟩),
  (70,⟨TypeDesc.func #[9] #[3,68] false,1,8,[.nilf]⟩),
  (71,⟨TypeDesc.func #[] #[9] false,1,8,[.nilf]⟩),
  (72,⟨TypeDesc.func #[45,9] #[3] false,1,8,[.nilf]⟩),
  (73,⟨TypeDesc.tuple #[3,24],1,0,[.unk]⟩),
  (74,⟨TypeDesc.func #[9] #[3,24] false,1,8,[.nilf]⟩),
  (75,⟨TypeDesc.func #[9] #[9] false,1,8,[.nilf]⟩),
  (76,⟨TypeDesc.func #[3] #[21,3,4] false,1,8,[.nilf]⟩),
  (77,⟨TypeDesc.tuple #[21,3,4],1,0,[.unk]⟩),
  (78,⟨TypeDesc.func #[21] #[3,68] false,1,8,[.nilf]⟩),
  (79,⟨TypeDesc.func #[9,9] #[4] false,1,8,[.nilf]⟩),
  (80,⟨TypeDesc.tuple #[3,3],1,0,[.unk]⟩),
  (81,⟨TypeDesc.func #[9,3] #[3,3] false,1,8,[.nilf]⟩),
  (82,⟨TypeDesc.func #[62,21,21] #[] false,1,8,[.nilf]⟩),
  (84,⟨TypeDesc.array 256 5,256,256,List.replicate 256 (.int .u8 0)⟩),
  (85,⟨Tryz.t85.desc,2,2,[.int .u8 0,.int .u8 0]⟩),
  (86,⟨Tryz.t85.desc,2,2,[.int .u8 0,.int .u8 0]⟩),
  (87,⟨TypeDesc.array 16 86,32,32,[.int .u8 0,.int .u8 0,.int .u8 0,.int .u8 0,.int .u8 0,.int .u8 0,.int .u8 0,.int .u8 0,.int .u8 0,.int .u8 0,.int .u8 0,.int .u8 0,.int .u8 0,.int .u8 0,.int .u8 0,.int .u8 0,.int .u8 0,.int .u8 0,.int .u8 0,.int .u8 0,.int .u8 0,.int .u8 0,.int .u8 0,.int .u8 0,.int .u8 0,.int .u8 0,.int .u8 0,.int .u8 0,.int .u8 0,.int .u8 0,.int .u8 0,.int .u8 0]⟩),
  (88,⟨TypeDesc.int .u64,1,8,[.int .u64 0]⟩),
  (89,⟨TypeDesc.pointer 5,1,8,[.nilp]⟩),
  (90,⟨TypeDesc.func #[5] #[68] false,1,8,[.nilf]⟩),
  (91,⟨TypeDesc.func #[92,9] #[9] false,1,8,[.nilf]⟩),
  (92,⟨TypeDesc.func #[21] #[21] false,1,8,[.nilf]⟩),
  (93,⟨TypeDesc.tuple #[21,3],1,0,[.unk]⟩),
  (94,⟨TypeDesc.func #[9] #[21,3] false,1,8,[.nilf]⟩),
  (95,⟨TypeDesc.func #[63,21] #[63] false,1,8,[.nilf]⟩),
  (96,⟨TypeDesc.func #[2,3] #[9] false,1,8,[.nilf]⟩),
  (97,⟨TypeDesc.int .u64,1,8,[.int .u64 0]⟩),
  (98,⟨TypeDesc.unsafePointer,1,8,[.nilp]⟩),
  (99,⟨TypeDesc.func #[98] #[98] false,1,8,[.nilf]⟩),
  (100,⟨TypeDesc.func #[3] #[63] false,1,8,[.nilf]⟩),
  (101,⟨TypeDesc.func #[21] #[3] false,1,8,[.nilf]⟩),
  (102,⟨TypeDesc.func #[] #[3] false,1,8,[.nilf]⟩),
  (103,⟨TypeDesc.func #[3,21] #[21] false,1,8,[.nilf]⟩),
  (104,⟨TypeDesc.tuple #[2,68],1,0,[.unk]⟩),
  (105,⟨TypeDesc.func #[9,3,3] #[2,68] false,1,8,[.nilf]⟩),
  (106,⟨TypeDesc.int .u32,1,4,[.int .u32 0]⟩),
  (107,⟨TypeDesc.func #[5] #[3] false,1,8,[.nilf]⟩),
  (108,⟨TypeDesc.tuple #[21,4],1,0,[.unk]⟩),
  (109,⟨TypeDesc.func #[3,21,110] #[21,4] false,1,8,[.nilf]⟩),
  (110,⟨TypeDesc.slice 134,1,24,[.sl 1 0 (fun _ => []) .nil]⟩),
  (111,⟨TypeDesc.func #[9,9,3,3,68] #[68] false,1,8,[.nilf]⟩),
  (112,⟨TypeDesc.array 24 5,24,24,[.int .u8 0,.int .u8 0,.int .u8 0,.int .u8 0,.int .u8 0,.int .u8 0,.int .u8 0,.int .u8 0,.int .u8 0,.int .u8 0,.int .u8 0,.int .u8 0,.int .u8 0,.int .u8 0,.int .u8 0,.int .u8 0,.int .u8 0,.int .u8 0,.int .u8 0,.int .u8 0,.int .u8 0,.int .u8 0,.int .u8 0,.int .u8 0]⟩),
  (113,⟨TypeDesc.func #[97] #[3] false,1,8,[.nilf]⟩),
  (114,⟨TypeDesc.func #[63,97] #[] false,1,8,[.nilf]⟩),
  (115,⟨TypeDesc.tuple #[63,9],1,0,[.unk]⟩),
  (116,⟨TypeDesc.func #[63,97,3,4,4] #[63,9] false,1,8,[.nilf]⟩),
  (117,⟨TypeDesc.pointer 134,1,8,[.nilp]⟩),
  (118,⟨TypeDesc.func #[21,110] #[117] false,1,8,[.nilf]⟩),
  (119,⟨TypeDesc.func #[3,21,117] #[21] false,1,8,[.nilf]⟩),
  (120,⟨TypeDesc.int .i64,1,8,[.int .i64 0]⟩),
  (121,⟨TypeDesc.tuple #[97,68],1,0,[.unk]⟩),
  (122,⟨TypeDesc.func #[9,3,3] #[97,68] false,1,8,[.nilf]⟩),
  (123,⟨TypeDesc.pointer 137,1,8,[.nilp]⟩),
  (124,⟨TypeDesc.func #[9,9] #[123] false,1,8,[.nilf]⟩),
  (125,⟨TypeDesc.func #[9,9,3] #[123] false,1,8,[.nilf]⟩),
  (126,⟨TypeDesc.func #[3] #[3] false,1,8,[.nilf]⟩),
  (127,⟨TypeDesc.func #[4] #[3] false,1,8,[.nilf]⟩),
  (128,⟨TypeDesc.array 20 97,20,160,[.int .u64 0,.int .u64 0,.int .u64 0,.int .u64 0,.int .u64 0,.int .u64 0,.int .u64 0,.int .u64 0,.int .u64 0,.int .u64 0,.int .u64 0,.int .u64 0,.int .u64 0,.int .u64 0,.int .u64 0,.int .u64 0,.int .u64 0,.int .u64 0,.int .u64 0,.int .u64 0]⟩),
  (129,⟨TypeDesc.array 65 5,65,65,List.replicate 65 (.int .u8 0)⟩),
  (130,⟨TypeDesc.func #[88] #[3] false,1,8,[.nilf]⟩),
  (131,⟨TypeDesc.array 3 21,3,12,[.int .i32 0,.int .i32 0,.int .i32 0]⟩),
  (132,⟨TypeDesc.array 3 21,3,12,[.int .i32 0,.int .i32 0,.int .i32 0]⟩),
  (133,⟨Tryz.t133.desc,5,20,[.int .u32 0,.int .u32 0,.int .i32 0,.int .i32 0,.int .i32 0]⟩),
  (134,⟨Tryz.t133.desc,5,20,[.int .u32 0,.int .u32 0,.int .i32 0,.int .i32 0,.int .i32 0]⟩),
  (135,⟨TypeDesc.func #[5] #[5] false,1,8,[.nilf]⟩),
  (136,⟨Tryz.t136.desc,3,48,[.str [],.str [],.nili]⟩),
  (137,⟨Tryz.t136.desc,3,48,[.str [],.str [],.nili]⟩),
  (138,⟨TypeDesc.func #[9] #[68] false,1,8,[.nilf]⟩),
  (139,⟨TypeDesc.func #[106] #[3] false,1,8,[.nilf]⟩),
  (141,⟨Tryz.t141.desc,1,16,[.str []]⟩),
  (143,⟨TypeDesc.array 32 5,32,32,[.int .u8 0,.int .u8 0,.int .u8 0,.int .u8 0,.int .u8 0,.int .u8 0,.int .u8 0,.int .u8 0,.int .u8 0,.int .u8 0,.int .u8 0,.int .u8 0,.int .u8 0,.int .u8 0,.int .u8 0,.int .u8 0,.int .u8 0,.int .u8 0,.int .u8 0,.int .u8 0,.int .u8 0,.int .u8 0,.int .u8 0,.int .u8 0,.int .u8 0,.int .u8 0,.int .u8 0,.int .u8 0,.int .u8 0,.int .u8 0,.int .u8 0,.int .u8 0]⟩),
  (144,⟨TypeDesc.array 64 5,64,64,[.int .u8 0,.int .u8 0,.int .u8 0,.int .u8 0,.int .u8 0,.int .u8 0,.int .u8 0,.int .u8 0,.int .u8 0,.int .u8 0,.int .u8 0,.int .u8 0,.int .u8 0,.int .u8 0,.int .u8 0,.int .u8 0,.int .u8 0,.int .u8 0,.int .u8 0,.int .u8 0,.int .u8 0,.int .u8 0,.int .u8 0,.int .u8 0,.int .u8 0,.int .u8 0,.int .u8 0,.int .u8 0,.int .u8 0,.int .u8 0,.int .u8 0,.int .u8 0,.int .u8 0,.int .u8 0,.int .u8 0,.int .u8 0,.int .u8 0,.int .u8 0,.int .u8 0,.int .u8 0,.int .u8 0,.int .u8 0,.int .u8 0,.int .u8 0,.int .u8 0,.int .u8 0,.int .u8 0,.int .u8 0,.int .u8 0,.int .u8 0,.int .u8 0,.int .u8 0,.int .u8 0,.int .u8 0,.int .u8 0,.int .u8 0,.int .u8 0,.int .u8 0,.int .u8 0,.int .u8 0,.int .u8 0,.int .u8 0,.int .u8 0,.int .u8 0]⟩),
  (152,⟨TypeDesc.func #[98,98] #[4] false,1,8,[.nilf]⟩)]
theorem tab_ok:TabOk Tryz.prog (tabGet tab) :=
  TabOk.cons (ti := ⟨_,_,_,_⟩) Tryz.underlying0 (by kernel_rfl) <|
  TabOk.cons (ti := ⟨_,_,_,_⟩) Tryz.underlying1 (by kernel_rfl) <|
  TabOk.cons (ti := ⟨_,_,_,_⟩) Tryz.underlying2 (by kernel_rfl) <|
  TabOk.cons (ti := ⟨_,_,_,_⟩) Tryz.underlying3 (by kernel_rfl) <|
  TabOk.cons (ti := ⟨_,_,_,_⟩) Tryz.underlying4 (by kernel_rfl) <|
  TabOk.cons (ti := ⟨_,_,_,_⟩) Tryz.underlying5 (by kernel_rfl) <|
  TabOk.cons (ti := ⟨_,_,_,_⟩) Tryz.underlying9 (by kernel_rfl) <|
  TabOk.cons (ti := ⟨_,_,_,_⟩) Tryz.underlying20 (by kernel_rfl) <|
  TabOk.cons (ti := ⟨_,_,_,_⟩) Tryz.underlying21 (by kernel_rfl) <|
  TabOk.cons (ti := ⟨_,_,_,_⟩) Tryz.underlying22 (by kernel_rfl) <|
  TabOk.cons (ti := ⟨_,_,_,_⟩) Tryz.underlying23 (by kernel_rfl) <|
  TabOk.cons (ti := ⟨_,_,_,_⟩) Tryz.underlying24 (by kernel_rfl) <|
  TabOk.cons (ti := ⟨_,_,_,_⟩) Tryz.underlying25 (by kernel_rfl) <|
  TabOk.cons (ti := ⟨_,_,_,_⟩) Tryz.underlying26 (by kernel_rfl) <|
  TabOk.cons (ti := ⟨_,_,_,_⟩) Tryz.underlying27 (by kernel_rfl) <|
  TabOk.cons (ti := ⟨_,_,_,_⟩) Tryz.underlying28 (by kernel_rfl) <|
  TabOk.cons (ti := ⟨_,_,_,_⟩) Tryz.underlying29 (by kernel_rfl) <|
  TabOk.cons (ti := ⟨_,_,_,_⟩) Tryz.underlying30 (by kernel_rfl) <|
  TabOk.cons (ti := ⟨_,_,_,_⟩) Tryz.underlying31 (by kernel_rfl) <|
  TabOk.cons (ti := ⟨_,_,_,_⟩) Tryz.underlying32 (by kernel_rfl) <|
  TabOk.cons (ti := ⟨_,_,_,_⟩) Tryz.underlying33 (by kernel_rfl) <|
  TabOk.cons (ti := ⟨_,_,_,_⟩) Tryz.underlying34 (by kernel_rfl) <|
  TabOk.cons (ti := ⟨_,_,_,_⟩) Tryz.underlying35 (by kernel_rfl) <|
  TabOk.cons (ti := ⟨_,_,_,_⟩) Tryz.underlying36 (by kernel_rfl) <|
  TabOk.cons (ti := ⟨_,_,_,_⟩) Tryz.underlying37 (by kernel_rfl) <|
  TabOk.cons (ti := ⟨_,_,_,_⟩) Tryz.underlying38 (by kernel_rfl) <|
  TabOk.cons (ti := ⟨_,_,_,_⟩) Tryz.underlying39 (by kernel_rfl) <|
  TabOk.cons (ti := ⟨_,_,_,_⟩) Tryz.underlying40 (by kernel_rfl) <|
  TabOk.cons (ti := ⟨_,_,_,_⟩) Tryz.underlying41 (by kernel_rfl) <|
  TabOk.cons (ti := ⟨_,_,_,_⟩) Tryz.underlying42 (by kernel_rfl) <|
  TabOk.cons (ti := ⟨_,_,_,_⟩) Tryz.underlying43 (by kernel_rfl) <|
  TabOk.cons (ti := ⟨_,_,_,_⟩) Tryz.underlying44 (by kernel_rfl) <|
  TabOk.cons (ti := ⟨_,_,_,_⟩) Tryz.underlying45 (by kernel_rfl) <|
  TabOk.cons (ti := ⟨_,_,_,_⟩) Tryz.underlying46 (by kernel_rfl) <|
  TabOk.cons (ti := ⟨_,_,_,_⟩) Tryz.underlying47 (by kernel_rfl) <|
  TabOk.cons (ti := ⟨_,_,_,_⟩) Tryz.underlying48 (by kernel_rfl) <|
  TabOk.cons (ti := ⟨_,_,_,_⟩) Tryz.underlying49 (by kernel_rfl) <|
  TabOk.cons (ti := ⟨_,_,_,_⟩) Tryz.underlying50 (by kernel_rfl) <|
  TabOk.cons (ti := ⟨_,_,_,_⟩) Tryz.underlying51 (by kernel_rfl) <|
  TabOk.cons (ti := ⟨_,_,_,_⟩) Tryz.underlying52 (by kernel_rfl) <|
  TabOk.cons (ti := ⟨_,_,_,_⟩) Tryz.underlying53 (by kernel_rfl) <|
  TabOk.cons (ti := ⟨_,_,_,_⟩) Tryz.underlying54 (by kernel_rfl) <|
  TabOk.cons (ti := ⟨_,_,_,_⟩) Tryz.underlying55 (by kernel_rfl) <|
  TabOk.cons (ti := ⟨_,_,_,_⟩) Tryz.underlying56 (by kernel_rfl) <|
  TabOk.cons (ti := ⟨_,_,_,_⟩) Tryz.underlying57 (by kernel_rfl) <|
  TabOk.cons (ti := ⟨_,_,_,_⟩) Tryz.underlying58 (by kernel_rfl) <|
  TabOk.cons (ti := ⟨_,_,_,_⟩) Tryz.underlying59 (by kernel_rfl) <|
  TabOk.cons (ti := ⟨_,_,_,_⟩) Tryz.underlying60 (by kernel_rfl) <|
  TabOk.cons (ti := ⟨_,_,_,_⟩) Tryz.underlying61 (by kernel_rfl) <|
  TabOk.cons (ti := ⟨_,_,_,_⟩) Tryz.underlying62 (by kernel_rfl) <|
  TabOk.cons (ti := ⟨_,_,_,_⟩) Tryz.underlying63 (by kernel_rfl) <|
  TabOk.cons (ti := ⟨_,_,_,_⟩) Tryz.underlying64 (by kernel_rfl) <|
  TabOk.cons (ti := ⟨_,_,_,_⟩) Tryz.underlying65 (by kernel_rfl) <|
  TabOk.cons (ti := ⟨_,_,_,_⟩) Tryz.underlying66 (by kernel_rfl) <|
  TabOk.cons (ti := ⟨_,_,_,_⟩) Tryz.underlying67 (by kernel_rfl) <|
  TabOk.cons (ti := ⟨_,_,_,_⟩) Tryz.underlying68 (by kernel_rfl) <|
  TabOk.cons (ti := ⟨_,_,_,_⟩) Tryz.underlying69 (by kernel_rfl) <|
  TabOk.cons (ti := ⟨_,_,_,_⟩) Tryz.underlying70 (by kernel_rfl) <|
  TabOk.cons (ti := ⟨_,_,_,_⟩) Tryz.underlying71 (by kernel_rfl) <|
  TabOk.cons (ti := ⟨_,_,_,_⟩) Tryz.underlying72 (by kernel_rfl) <|
  TabOk.cons (ti := ⟨_,_,_,_⟩) Tryz.underlying73 (by kernel_rfl) <|
  TabOk.cons (ti := ⟨_,_,_,_⟩) Tryz.underlying74 (by kernel_rfl) <|
  TabOk.cons (ti := ⟨_,_,_,_⟩) Tryz.underlying75 (by kernel_rfl) <|
  TabOk.cons (ti := ⟨_,_,_,_⟩) Tryz.underlying76 (by kernel_rfl) <|
  TabOk.cons (ti := ⟨_,_,_,_⟩) Tryz.underlying77 (by kernel_rfl) <|
  TabOk.cons (ti := ⟨_,_,_,_⟩) Tryz.underlying78 (by kernel_rfl) <|
  TabOk.cons (ti := ⟨_,_,_,_⟩) Tryz.underlying79 (by kernel_rfl) <|
  TabOk.cons (ti := ⟨_,_,_,_⟩) Tryz.underlying80 (by kernel_rfl) <|
  TabOk.cons (ti := ⟨_,_,_,_⟩) Tryz.underlying81 (by kernel_rfl) <|
  TabOk.cons (ti := ⟨_,_,_,_⟩) Tryz.underlying82 (by kernel_rfl) <|
  TabOk.cons (ti := ⟨_,_,_,_⟩) Tryz.underlying84 (by kernel_rfl) <|
  TabOk.cons (ti := ⟨_,_,_,_⟩) Tryz.underlying85 (by kernel_rfl) <|
  TabOk.cons (ti := ⟨_,_,_,_⟩) Tryz.underlying86 (by kernel_rfl) <|
  TabOk.cons (ti := ⟨_,_,_,_⟩) Tryz.underlying87 (by kernel_rfl) <|
  TabOk.cons (ti := ⟨_,_,_,_⟩) Tryz.underlying88 (by kernel_rfl) <|
  TabOk.cons (ti := ⟨_,_,_,_⟩) Tryz.underlying89 (by kernel_rfl) <|
  TabOk.cons (ti := ⟨_,_,_,_⟩) Tryz.underlying90 (by kernel_rfl) <|
  TabOk.cons (ti := ⟨_,_,_,_⟩) Tryz.underlying91 (by kernel_rfl) <|
  TabOk.cons (ti := ⟨_,_,_,_⟩) Tryz.underlying92 (by kernel_rfl) <|
  TabOk.cons (ti := ⟨_,_,_,_⟩) Tryz.underlying93 (by kernel_rfl) <|
  TabOk.cons (ti := ⟨_,_,_,_⟩) Tryz.underlying94 (by kernel_rfl) <|
  TabOk.cons (ti := ⟨_,_,_,_⟩) Tryz.underlying95 (by kernel_rfl) <|
  TabOk.cons (ti := ⟨_,_,_,_⟩) Tryz.underlying96 (by kernel_rfl) <|
  TabOk.cons (ti := ⟨_,_,_,_⟩) Tryz.underlying97 (by kernel_rfl) <|
  TabOk.cons (ti := ⟨_,_,_,_⟩) Tryz.underlying98 (by kernel_rfl) <|
  TabOk.cons (ti := ⟨_,_,_,_⟩) Tryz.underlying99 (by kernel_rfl) <|
  TabOk.cons (ti := ⟨_,_,_,_⟩) Tryz.underlying100 (by kernel_rfl) <|
  TabOk.cons (ti := ⟨_,_,_,_⟩) Tryz.underlying101 (by kernel_rfl) <|
  TabOk.cons (ti := ⟨_,_,_,_⟩) Tryz.underlying102 (by kernel_rfl) <|
  TabOk.cons (ti := ⟨_,_,_,_⟩) Tryz.underlying103 (by kernel_rfl) <|
  TabOk.cons (ti := ⟨_,_,_,_⟩) Tryz.underlying104 (by kernel_rfl) <|
  TabOk.cons (ti := ⟨_,_,_,_⟩) Tryz.underlying105 (by kernel_rfl) <|
  TabOk.cons (ti := ⟨_,_,_,_⟩) Tryz.underlying106 (by kernel_rfl) <|
  TabOk.cons (ti := ⟨_,_,_,_⟩) Tryz.underlying107 (by kernel_rfl) <|
  TabOk.cons (ti := ⟨_,_,_,_⟩) Tryz.underlying108 (by kernel_rfl) <|
  TabOk.cons (ti := ⟨_,_,_,_⟩) Tryz.underlying109 (by kernel_rfl) <|
  TabOk.cons (ti := ⟨_,_,_,_⟩) Tryz.underlying110 (by kernel_rfl) <|
  TabOk.cons (ti := ⟨_,_,_,_⟩) Tryz.underlying111 (by kernel_rfl) <|
  TabOk.cons (ti := ⟨_,_,_,_⟩) Tryz.underlying112 (by kernel_rfl) <|
  TabOk.cons (ti := ⟨_,_,_,_⟩) Tryz.underlying113 (by kernel_rfl) <|
  TabOk.cons (ti := ⟨_,_,_,_⟩) Tryz.underlying114 (by kernel_rfl) <|
  TabOk.cons (ti := ⟨_,_,_,_⟩) Tryz.underlying115 (by kernel_rfl) <|
  TabOk.cons (ti := ⟨_,_,_,_⟩) Tryz.underlying116 (by kernel_rfl) <|
  TabOk.cons (ti := ⟨_,_,_,_⟩) Tryz.underlying117 (by kernel_rfl) <|
  TabOk.cons (ti := ⟨_,_,_,_⟩) Tryz.underlying118 (by kernel_rfl) <|
  TabOk.cons (ti := ⟨_,_,_,_⟩) Tryz.underlying119 (by kernel_rfl) <|
  TabOk.cons (ti := ⟨_,_,_,_⟩) Tryz.underlying120 (by kernel_rfl) <|
  TabOk.cons (ti := ⟨_,_,_,_⟩) Tryz.underlying121 (by kernel_rfl) <|
  TabOk.cons (ti := ⟨_,_,_,_⟩) Tryz.underlying122 (by kernel_rfl) <|
  TabOk.cons (ti := ⟨_,_,_,_⟩) Tryz.underlying123 (by kernel_rfl) <|
  TabOk.cons (ti := ⟨_,_,_,_⟩) Tryz.underlying124 (by kernel_rfl) <|
  TabOk.cons (ti := ⟨_,_,_,_⟩) Tryz.underlying125 (by kernel_rfl) <|
  TabOk.cons (ti := ⟨_,_,_,_⟩) Tryz.underlying126 (by kernel_rfl) <|
  TabOk.cons (ti := ⟨_,_,_,_⟩) Tryz.underlying127 (by kernel_rfl) <|
  TabOk.cons (ti := ⟨_,_,_,_⟩) Tryz.underlying128 (by kernel_rfl) <|
  TabOk.cons (ti := ⟨_,_,_,_⟩) Tryz.underlying129 (by kernel_rfl) <|
  TabOk.cons (ti := ⟨_,_,_,_⟩) Tryz.underlying130 (by kernel_rfl) <|
  TabOk.cons (ti := ⟨_,_,_,_⟩) Tryz.underlying131 (by kernel_rfl) <|
  TabOk.cons (ti := ⟨_,_,_,_⟩) Tryz.underlying132 (by kernel_rfl) <|
  TabOk.cons (ti := ⟨_,_,_,_⟩) Tryz.underlying133 (by kernel_rfl) <|
  TabOk.cons (ti := ⟨_,_,_,_⟩) Tryz.underlying134 (by kernel_rfl) <|
  TabOk.cons (ti := ⟨_,_,_,_⟩) Tryz.underlying135 (by kernel_rfl) <|
  TabOk.cons (ti := ⟨_,_,_,_⟩) Tryz.underlying136 (by kernel_rfl) <|
  TabOk.cons (ti := ⟨_,_,_,_⟩) Tryz.underlying137 (by kernel_rfl) <|
  TabOk.cons (ti := ⟨_,_,_,_⟩) Tryz.underlying138 (by kernel_rfl) <|
  TabOk.cons (ti := ⟨_,_,_,_⟩) Tryz.underlying139 (by kernel_rfl) <|
  TabOk.cons (ti := ⟨_,_,_,_⟩) Tryz.underlying141 (by kernel_rfl) <|
  TabOk.cons (ti := ⟨_,_,_,_⟩) Tryz.underlying143 (by kernel_rfl) <|
  TabOk.cons (ti := ⟨_,_,_,_⟩) Tryz.underlying144 (by kernel_rfl) <|
  TabOk.cons (ti := ⟨_,_,_,_⟩) Tryz.underlying152 (by kernel_rfl) <|
  TabOk.nil _
end Go.Proofs.YtfldjfpcefcjdaaGreatDoor
namespace Go.Proofs.YtfldjfpcefcjdaaGreatDoor
open Go Go.Ab
noncomputable def frames:List (Nat × Frm) := [
  (3,{ fn := Tryz.f3,n := 32,V := 1,cross := [2,3,4,5,6,9],ord := fun _ => ([],[]) }),
  (4,{ fn := Tryz.f4,n := 66,V := 10,cross := [],ord := fun _ => ([],[]) }),
  (5,{ fn := Tryz.f5,n := 55,V := 1,cross := [2,3,4,5,6,7,10,19,29,36],ord := fun id => match id with | 11 => ([0,1,2,3,4],[4]) | _ => ([],[]) }),
  (6,{ fn := Tryz.f6,n := 72,V := 1,cross := [2,3,4,5,6,7,8,11,16,32,38,42,53,59],ord := fun _ => ([],[]) }),
  (7,{ fn := Tryz.f7,n := 26,V := 2,cross := [4,5,10,14,25],ord := fun id => match id with | 6 => ([0,1,2,3,4,5,6,7,8],[]) | _ => ([],[]) }),
  (8,{ fn := Tryz.f8,n := 38,V := 5,cross := [],ord := fun _ => ([],[]) }),
  (9,{ fn := Tryz.f9,n := 20,V := 1,cross := [2,3,5,6,7,8,9],ord := fun _ => ([],[]) }),
  (10,{ fn := Tryz.f10,n := 11,V := 1,cross := [2],ord := fun _ => ([],[]) }),
  (11,{ fn := Tryz.f11,n := 44,V := 1,cross := [11,20,21,23,25],ord := fun id => match id with | 0 => ([0,1,2,3,4,5,6,7,8,9],[]) | 1 => ([0,1,2,3,4,5,6,7,8],[]) | _ => ([],[]) }),
  (12,{ fn := Tryz.f12,n := 69,V := 1,cross := [2,3,4,5,6,7,22,30,42,50],ord := fun id => match id with | 1 => ([0,1,2,3,4,5,6,7,8,9],[]) | 13 => ([0,1,2,3,4,5,6,7,8],[6]) | _ => ([],[]) }),
  (13,{ fn := Tryz.f13,n := 15,V := 2,cross := [4],ord := fun _ => ([],[]) }),
  (14,{ fn := Tryz.f14,n := 66,V := 2,cross := [4,5,6,7,8,9,14,22,34,48,56],ord := fun _ => ([],[]) }),
  (15,{ fn := Tryz.f15,n := 26,V := 2,cross := [4,5,10,14,25],ord := fun id => match id with | 6 => ([0,1,2,3,4,5,6,7,8],[]) | _ => ([],[]) }),
  (16,{ fn := Tryz.f16,n := 51,V := 3,cross := [4,5,7,9,11,13,15,19,36,44],ord := fun _ => ([],[]) }),
  (17,{ fn := Tryz.f17,n := 75,V := 2,cross := [4,5,7,8,10,12,13,15,22,29,39,40,41,42,49,63,64,65,66],ord := fun _ => ([],[]) }),
  (18,{ fn := Tryz.f18,n := 9,V := 2,cross := [4],ord := fun _ => ([],[]) }),
  (19,{ fn := Tryz.f19,n := 2,V := 1,cross := [],ord := fun _ => ([],[]) }),
  (20,{ fn := Tryz.f20,n := 2,V := 1,cross := [],ord := fun _ => ([],[]) }),
  (21,{ fn := Tryz.f21,n := 27,V := 3,cross := [6,23],ord := fun _ => ([],[]) }),
  (22,{ fn := Tryz.f22,n := 5,V := 1,cross := [2],ord := fun _ => ([],[]) }),
  (23,{ fn := Tryz.f23,n := 9,V := 1,cross := [2],ord := fun _ => ([],[]) }),
  (24,{ fn := Tryz.f24,n := 80,V := 1,cross := [2,3,4,5,6,7,18,53,70],ord := fun id => match id with | 7 => ([0,1,2,3,4,5,6,7,8,9,10,11,12,13,14,15],[10]) | _ => ([],[]) }),
  (25,{ fn := Tryz.f25,n := 13,V := 1,cross := [2],ord := fun _ => ([],[]) }),
  (26,{ fn := Tryz.f26,n := 44,V := 1,cross := [2,3,4,5,22,29,35],ord := fun id => match id with | 2 => ([0,1,2,3,4,5,6,7,8,9,10],[]) | _ => ([],[]) }),
  (27,{ fn := Tryz.f27,n := 105,V := 2,cross := [4,5,6,7,8,9,10,11,12,13,14,15,25,34,61,68,98],ord := fun id => match id with | 7 => ([0,1,2,3,4,5,6,7],[5]) | 9 => ([0,1,2,3,4,5,6,7,8,9,10],[7,9,10]) | 14 => ([0,1,2,3,4,5,6,7],[5]) | _ => ([],[]) }),
  (28,{ fn := Tryz.f28,n := 42,V := 1,cross := [2,3,4,6,9,10,11,12,32,36],ord := fun id => match id with | 5 => ([0,1,2,3,4,5,6,7,8,9,10,11,12,13,14,15,16,17],[16]) | _ => ([],[]) }),
  (29,{ fn := Tryz.f29,n := 48,V := 2,cross := [4,5,6,7,8,9,10,16,20,35],ord := fun _ => ([],[]) }),
  (30,{ fn := Tryz.f30,n := 56,V := 2,cross := [4,5,6,7,8,12,19,30,39,48],ord := fun _ => ([],[]) }),
  (31,{ fn := Tryz.f31,n := 45,V := 2,cross := [4,5,6,8,34],ord := fun _ => ([],[]) }),
  (32,{ fn := Tryz.f32,n := 9,V := 1,cross := [2],ord := fun _ => ([],[]) }),
  (33,{ fn := Tryz.f33,n := 86,V := 2,cross := [4,5,6,7,8,9,10,15,28,42,73,77],ord := fun _ => ([],[]) }),
  (34,{ fn := Tryz.f34,n := 13,V := 1,cross := [2],ord := fun _ => ([],[]) }),
  (35,{ fn := Tryz.f35,n := 51,V := 2,cross := [4,5,6,7,8,25,39,44,48],ord := fun _ => ([],[]) }),
  (36,{ fn := Tryz.f36,n := 9,V := 1,cross := [2],ord := fun _ => ([],[]) }),
  (37,{ fn := Tryz.f37,n := 13,V := 1,cross := [2,3,8],ord := fun _ => ([],[]) }),
  (38,{ fn := Tryz.f38,n := 17,V := 1,cross := [2,3,10],ord := fun _ => ([],[]) }),
  (39,{ fn := Tryz.f39,n := 23,V := 2,cross := [4,5,7,10,11,12,13],ord := fun _ => ([],[]) }),
  (40,{ fn := Tryz.f40,n := 169,V := 1,cross := [2,3,4,5,6,9,13,24,39,62,75,76,94,97,125,128,166],ord := fun id => match id with | 7 => ([0,1,2,3,4,6,7,5,8,9,10,11,12],[5,8]) | 9 => ([0,1,2,3,4,6,7,10,11,13,14,5,8,9,12,15,16,17,18,19,20],[5,8,12,15]) | 17 => ([0,1,2,3,4,5,6,7,8,9,10,11,12,13,14,15,16],[]) | 21 => ([0,1,2,3,4,5,6,7,8,9,10,11,12,13,14,15,16,17,18,19,20,21,22,23,24,25,26],[]) | 25 => ([0,1,2,3,4,5,6,7,8,9,10,11,12,13,14,15,16,17,18,19,20,21,22,23,24,25,26,27,28,29,30,31,32,33,34,35,36],[]) | _ => ([],[]) }),
  (41,{ fn := Tryz.f41,n := 25,V := 2,cross := [7,21],ord := fun id => match id with | 3 => ([0,1,2,3,5,6,7,8,9,11,4,10,12],[4]) | _ => ([],[]) }),
  (42,{ fn := Tryz.f42,n := 19,V := 2,cross := [4,5],ord := fun _ => ([],[]) }),
  (43,{ fn := Tryz.f43,n := 14,V := 1,cross := [2],ord := fun id => match id with | 1 => ([0,1,2,3,5,6,7,8,9,4,10,11],[4,10]) | _ => ([],[]) }),
  (44,{ fn := Tryz.f44,n := 19,V := 2,cross := [4,5,7,8,9,16],ord := fun _ => ([],[]) }),
  (45,{ fn := Tryz.f45,n := 49,V := 1,cross := [2,3,4,5,6,7,8,9,11,12,13,16,23,39,45],ord := fun _ => ([],[]) }),
  (46,{ fn := Tryz.f46,n := 9,V := 1,cross := [2],ord := fun _ => ([],[]) }),
  (47,{ fn := Tryz.f47,n := 9,V := 1,cross := [2],ord := fun _ => ([],[]) }),
  (48,{ fn := Tryz.f48,n := 78,V := 1,cross := [2,3,4,5,6,7,8,9,10,14,21,31,33,41,52,57,70],ord := fun _ => ([],[]) }),
  (49,{ fn := Tryz.f49,n := 80,V := 2,cross := [4,5,6,7,8,9,16,48,57,58,60,62,64,68],ord := fun _ => ([],[]) }),
  (50,{ fn := Tryz.f50,n := 21,V := 2,cross := [4],ord := fun _ => ([],[]) }),
  (51,{ fn := Tryz.f51,n := 30,V := 2,cross := [4,5,6],ord := fun _ => ([],[]) }),
  (52,{ fn := Tryz.f52,n := 8,V := 2,cross := [4],ord := fun _ => ([],[]) }),
  (53,{ fn := Tryz.f53,n := 55,V := 2,cross := [4,5,6,7,11,20,51],ord := fun _ => ([],[]) }),
  (54,{ fn := Tryz.f54,n := 57,V := 2,cross := [4,5,6,9,13,19,27,56],ord := fun _ => ([],[]) }),
  (55,{ fn := Tryz.f55,n := 9,V := 1,cross := [2],ord := fun _ => ([],[]) }),
  (56,{ fn := Tryz.f56,n := 9,V := 1,cross := [2],ord := fun _ => ([],[]) }),
  (57,{ fn := Tryz.f57,n := 31,V := 1,cross := [2,3,12,16,30],ord := fun _ => ([],[]) }),
  (58,{ fn := Tryz.f58,n := 5,V := 1,cross := [2],ord := fun _ => ([],[]) }),
  (59,{ fn := Tryz.f59,n := 51,V := 3,cross := [9,14,19,24,37],ord := fun _ => ([],[]) }),
  (60,{ fn := Tryz.f60,n := 59,V := 1,cross := [2],ord := fun id => match id with | 1 => ([0,1,3,4,8,9,13,14,2,5,6,7,10,11,12,15,16,17,18],[2,5,10,15]) | 2 => ([0,1,3,4,8,9,13,14,18,19,23,24,28,29,33,34,2,5,6,7,10,11,12,15,16,17,20,21,22,25,26,27,30,31,32,35,36,37,38],[2,5,10,15,20,25,30,35]) | _ => ([],[]) }),
  (61,{ fn := Tryz.f61,n := 20,V := 1,cross := [6,19],ord := fun _ => ([],[]) }),
  (62,{ fn := Tryz.f62,n := 30,V := 2,cross := [4],ord := fun id => match id with | 0 => ([0,1,2,3,6,9,10,11,12,13,4,5,7,8,14,15],[4,8]) | _ => ([],[]) }),
  (63,{ fn := Tryz.f63,n := 17,V := 2,cross := [4],ord := fun _ => ([],[]) }),
  (64,{ fn := Tryz.f64,n := 85,V := 2,cross := [4,5,6,7,8,9,11,12,14,15,16,28,30,44,56,65,68,69,70,76,78],ord := fun _ => ([],[]) }),
  (65,{ fn := Tryz.f65,n := 16,V := 1,cross := [2,4,10],ord := fun _ => ([],[]) }),
  (66,{ fn := Tryz.f66,n := 19,V := 1,cross := [2,3,10],ord := fun _ => ([],[]) }),
  (67,{ fn := Tryz.f67,n := 77,V := 2,cross := [4,5,6,7,8,9,25,57],ord := fun _ => ([],[]) }),
  (68,{ fn := Tryz.f68,n := 16,V := 2,cross := [4,7],ord := fun _ => ([],[]) }),
  (69,{ fn := Tryz.f69,n := 18,V := 2,cross := [4],ord := fun _ => ([],[]) }),
  (70,{ fn := Tryz.f70,n := 96,V := 2,cross := [4,5,6,7,8,13,17,18,20,22,24,51,62,80,90],ord := fun _ => ([],[]) }),
  (71,{ fn := Tryz.f71,n := 5,V := 1,cross := [2],ord := fun _ => ([],[]) }),
  (72,{ fn := Tryz.f72,n := 8,V := 2,cross := [4],ord := fun _ => ([],[]) }),
  (75,{ fn := Tryz.f75,n := 25,V := 1,cross := [2,3,6,9,12,19,22],ord := fun _ => ([],[]) }),
  (76,{ fn := Tryz.f76,n := 8,V := 1,cross := [2],ord := fun _ => ([],[]) }),
  (77,{ fn := Tryz.f77,n := 13,V := 2,cross := [4],ord := fun _ => ([],[]) }),
  (78,{ fn := Tryz.f78,n := 117,V := 1,cross := [2,3,4,5,6,7,8,9,10,11,12,16,23,45,57,59,75,77,98],ord := fun _ => ([],[]) }),
  (79,{ fn := Tryz.f79,n := 13,V := 1,cross := [2],ord := fun _ => ([],[]) }),
  (80,{ fn := Tryz.f80,n := 25,V := 3,cross := [6,7,8,17],ord := fun _ => ([],[]) }),
  (81,{ fn := Tryz.f81,n := 78,V := 2,cross := [4,5,11,25,50],ord := fun _ => ([],[]) }),
  (82,{ fn := Tryz.f82,n := 17,V := 1,cross := [2],ord := fun _ => ([],[]) }),
  (83,{ fn := Tryz.f83,n := 18,V := 1,cross := [2,4,13],ord := fun _ => ([],[]) }),
  (84,{ fn := Tryz.f84,n := 54,V := 2,cross := [4,5,6,7,8,9,11,17,23,34],ord := fun _ => ([],[]) }),
  (85,{ fn := Tryz.f85,n := 25,V := 3,cross := [6,7,8,14,19],ord := fun _ => ([],[]) }),
  (86,{ fn := Tryz.f86,n := 73,V := 3,cross := [6,7,8,9,10,11,13,16,17,21,38,41,52,62,69],ord := fun _ => ([],[]) }),
  (87,{ fn := Tryz.f87,n := 43,V := 5,cross := [10,11,12,19,26,34],ord := fun _ => ([],[]) }),
  (88,{ fn := Tryz.f88,n := 15,V := 1,cross := [2,4],ord := fun _ => ([],[]) }),
  (89,{ fn := Tryz.f89,n := 15,V := 1,cross := [2,3],ord := fun _ => ([],[]) }),
  (90,{ fn := Tryz.f90,n := 167,V := 2,cross := [4,5,6,7,8,9,10,11,12,13,14,15,16,20,99,139,161],ord := fun id => match id with | 7 => ([0,1,2,3,4,5,6,7,8,9,10,11,12,13,14],[12,14]) | 8 => ([0,1,2,3,4,5,6,7,8,9,10,11,12,13,14],[12,14]) | 9 => ([0,1,2,3,4,5,6,7,8,9,10,11,12,13,14],[12,14]) | 10 => ([0,1,2,3,4,5,6,7,8,9,10,11,12,13,14],[12,14]) | 17 => ([0,1,2,3,4,5,6,7,8,9,10,11,12,13,14],[12,14]) | 18 => ([0,1,2,3,4,5,6,7,8,9,10,11,12,13,14],[12,14]) | 23 => ([0,1,2,3,4,5,6,7,8,9,10,11,12,13,14],[12,14]) | _ => ([],[]) }),
  (91,{ fn := Tryz.f91,n := 102,V := 5,cross := [10,11,12,13,14,15,16,17,18,28,30,34,46,68,89,94],ord := fun _ => ([],[]) }),
  (92,{ fn := Tryz.f92,n := 50,V := 2,cross := [4,5,6,7,8,13,38,46],ord := fun _ => ([],[]) }),
  (93,{ fn := Tryz.f93,n := 37,V := 3,cross := [6,7,15],ord := fun id => match id with | 3 => ([0,1,2,3,5,6,7,8,9,13,14,4,10,11,12,15,16,17,18],[4,10,15]) | _ => ([],[]) }),
  (94,{ fn := Tryz.f94,n := 172,V := 3,cross := [6,7,8,9,10,11,12,13,15,16,17,19,25,32,37,40,52,64,77,83,85,90,92,99,100,101,102,106,112,121,137,141,159,169],ord := fun _ => ([],[]) }),
  (95,{ fn := Tryz.f95,n := 11,V := 2,cross := [4],ord := fun id => match id with | 1 => ([0,1,3,2,4,5,6],[2,5]) | _ => ([],[]) }),
  (96,{ fn := Tryz.f96,n := 11,V := 2,cross := [4],ord := fun id => match id with | 1 => ([0,1,3,2,4,5,6],[2,5]) | _ => ([],[]) }),
  (97,{ fn := Tryz.f97,n := 16,V := 3,cross := [6],ord := fun _ => ([],[]) }),
  (98,{ fn := Tryz.f98,n := 16,V := 3,cross := [6],ord := fun _ => ([],[]) }),
  (99,{ fn := Tryz.f99,n := 6,V := 1,cross := [2],ord := fun _ => ([],[]) }),
  (100,{ fn := Tryz.f100,n := 25,V := 1,cross := [2,4,8,14],ord := fun _ => ([],[]) }),
  (101,{ fn := Tryz.f101,n := 4,V := 1,cross := [2,3],ord := fun _ => ([],[]) }),
  (102,{ fn := Tryz.f102,n := 8,V := 1,cross := [2],ord := fun _ => ([],[]) }),
  (103,{ fn := Tryz.f103,n := 8,V := 1,cross := [2],ord := fun _ => ([],[]) }),
  (104,{ fn := Tryz.f104,n := 5,V := 1,cross := [2],ord := fun _ => ([],[]) }),
  (105,{ fn := Tryz.f105,n := 94,V := 1,cross := [2,3,4,5,18,46,54,83,87,89,91],ord := fun _ => ([],[]) }),
  (106,{ fn := Tryz.f106,n := 18,V := 1,cross := [2,3,6],ord := fun _ => ([],[]) }),
  (107,{ fn := Tryz.f107,n := 7,V := 1,cross := [2],ord := fun _ => ([],[]) }),
  (108,{ fn := Tryz.f108,n := 14,V := 1,cross := [2,4],ord := fun _ => ([],[]) }),
  (109,{ fn := Tryz.f109,n := 14,V := 1,cross := [2,4],ord := fun _ => ([],[]) })]
abbrev eqs:List Nat := [35,86,134,142]
theorem eqs_ok:∀ t,eqs.contains t = true→Tryz.prog.eqGuardType Tryz.prog.depth t = false∧Tryz.prog.stoodInHeld t = false := by
  intro t h
  simp only [eqs,List.contains_eq_mem,List.mem_cons,List.not_mem_nil,or_false,decide_eq_true_eq] at h
  rcases h with rfl | rfl | rfl | rfl
  · exact ⟨Tryz.eqGuardType35,Tryz.stoodInHeld35⟩
  · exact ⟨Tryz.eqGuardType86,Tryz.stoodInHeld86⟩
  · exact ⟨Tryz.eqGuardType134,Tryz.stoodInHeld134⟩
  · exact ⟨Tryz.eqGuardType142,Tryz.stoodInHeld142⟩
theorem frames_ok:FrmOk Tryz.prog (frmGet frames) :=
  FrmOk.cons Tryz.func3 rfl (by decide) <|
  FrmOk.cons Tryz.func4 rfl (by decide) <|
  FrmOk.cons Tryz.func5 rfl (by decide) <|
  FrmOk.cons Tryz.func6 rfl (by decide) <|
  FrmOk.cons Tryz.func7 rfl (by decide) <|
  FrmOk.cons Tryz.func8 rfl (by decide) <|
  FrmOk.cons Tryz.func9 rfl (by decide) <|
  FrmOk.cons Tryz.func10 rfl (by decide) <|
  FrmOk.cons Tryz.func11 rfl (by decide) <|
  FrmOk.cons Tryz.func12 rfl (by decide) <|
  FrmOk.cons Tryz.func13 rfl (by decide) <|
  FrmOk.cons Tryz.func14 rfl (by decide) <|
  FrmOk.cons Tryz.func15 rfl (by decide) <|
  FrmOk.cons Tryz.func16 rfl (by decide) <|
  FrmOk.cons Tryz.func17 rfl (by decide) <|
  FrmOk.cons Tryz.func18 rfl (by decide) <|
  FrmOk.cons Tryz.func19 rfl (by decide) <|
  FrmOk.cons Tryz.func20 rfl (by decide) <|
  FrmOk.cons Tryz.func21 rfl (by decide) <|
  FrmOk.cons Tryz.func22 rfl (by decide) <|
  FrmOk.cons Tryz.func23 rfl (by decide) <|
  FrmOk.cons Tryz.func24 rfl (by decide) <|
  FrmOk.cons Tryz.func25 rfl (by decide) <|
  FrmOk.cons Tryz.func26 rfl (by decide) <|
  FrmOk.cons Tryz.func27 rfl (by decide) <|
  FrmOk.cons Tryz.func28 rfl (by decide) <|
  FrmOk.cons Tryz.func29 rfl (by decide) <|
  FrmOk.cons Tryz.func30 rfl (by decide) <|
  FrmOk.cons Tryz.func31 rfl (by decide) <|
  FrmOk.cons Tryz.func32 rfl (by decide) <|
  FrmOk.cons Tryz.func33 rfl (by decide) <|
  FrmOk.cons Tryz.func34 rfl (by decide) <|
  FrmOk.cons Tryz.func35 rfl (by decide) <|
  FrmOk.cons Tryz.func36 rfl (by decide) <|
  FrmOk.cons Tryz.func37 rfl (by decide) <|
  FrmOk.cons Tryz.func38 rfl (by decide) <|
  FrmOk.cons Tryz.func39 rfl (by decide) <|
  FrmOk.cons Tryz.func40 rfl (by decide) <|
  FrmOk.cons Tryz.func41 rfl (by decide) <|
  FrmOk.cons Tryz.func42 rfl (by decide) <|
  FrmOk.cons Tryz.func43 rfl (by decide) <|
  FrmOk.cons Tryz.func44 rfl (by decide) <|
  FrmOk.cons Tryz.func45 rfl (by decide) <|
  FrmOk.cons Tryz.func46 rfl (by decide) <|
  FrmOk.cons Tryz.func47 rfl (by decide) <|
  FrmOk.cons Tryz.func48 rfl (by decide) <|
  FrmOk.cons Tryz.func49 rfl (by decide) <|
  FrmOk.cons Tryz.func50 rfl (by decide) <|
  FrmOk.cons Tryz.func51 rfl (by decide) <|
  FrmOk.cons Tryz.func52 rfl (by decide) <|
  FrmOk.cons Tryz.func53 rfl (by decide) <|
  FrmOk.cons Tryz.func54 rfl (by decide) <|
  FrmOk.cons Tryz.func55 rfl (by decide) <|
  FrmOk.cons Tryz.func56 rfl (by decide) <|
  FrmOk.cons Tryz.func57 rfl (by decide) <|
  FrmOk.cons Tryz.func58 rfl (by decide) <|
  FrmOk.cons Tryz.func59 rfl (by decide) <|
  FrmOk.cons Tryz.func60 rfl (by decide) <|
  FrmOk.cons Tryz.func61 rfl (by decide) <|
  FrmOk.cons Tryz.func62 rfl (by decide) <|
  FrmOk.cons Tryz.func63 rfl (by decide) <|
  FrmOk.cons Tryz.func64 rfl (by decide) <|
  FrmOk.cons Tryz.func65 rfl (by decide) <|
  FrmOk.cons Tryz.func66 rfl (by decide) <|
  FrmOk.cons Tryz.func67 rfl (by decide) <|
  FrmOk.cons Tryz.func68 rfl (by decide) <|
  FrmOk.cons Tryz.func69 rfl (by decide) <|
  FrmOk.cons Tryz.func70 rfl (by decide) <|
  FrmOk.cons Tryz.func71 rfl (by decide) <|
  FrmOk.cons Tryz.func72 rfl (by decide) <|
  FrmOk.cons Tryz.func75 rfl (by decide) <|
  FrmOk.cons Tryz.func76 rfl (by decide) <|
  FrmOk.cons Tryz.func77 rfl (by decide) <|
  FrmOk.cons Tryz.func78 rfl (by decide) <|
  FrmOk.cons Tryz.func79 rfl (by decide) <|
  FrmOk.cons Tryz.func80 rfl (by decide) <|
  FrmOk.cons Tryz.func81 rfl (by decide) <|
  FrmOk.cons Tryz.func82 rfl (by decide) <|
  FrmOk.cons Tryz.func83 rfl (by decide) <|
  FrmOk.cons Tryz.func84 rfl (by decide) <|
  FrmOk.cons Tryz.func85 rfl (by decide) <|
  FrmOk.cons Tryz.func86 rfl (by decide) <|
  FrmOk.cons Tryz.func87 rfl (by decide) <|
  FrmOk.cons Tryz.func88 rfl (by decide) <|
  FrmOk.cons Tryz.func89 rfl (by decide) <|
  FrmOk.cons Tryz.func90 rfl (by decide) <|
  FrmOk.cons Tryz.func91 rfl (by decide) <|
  FrmOk.cons Tryz.func92 rfl (by decide) <|
  FrmOk.cons Tryz.func93 rfl (by decide) <|
  FrmOk.cons Tryz.func94 rfl (by decide) <|
  FrmOk.cons Tryz.func95 rfl (by decide) <|
  FrmOk.cons Tryz.func96 rfl (by decide) <|
  FrmOk.cons Tryz.func97 rfl (by decide) <|
  FrmOk.cons Tryz.func98 rfl (by decide) <|
  FrmOk.cons Tryz.func99 rfl (by decide) <|
  FrmOk.cons Tryz.func100 rfl (by decide) <|
  FrmOk.cons Tryz.func101 rfl (by decide) <|
  FrmOk.cons Tryz.func102 rfl (by decide) <|
  FrmOk.cons Tryz.func103 rfl (by decide) <|
  FrmOk.cons Tryz.func104 rfl (by decide) <|
  FrmOk.cons Tryz.func105 rfl (by decide) <|
  FrmOk.cons Tryz.func106 rfl (by decide) <|
  FrmOk.cons Tryz.func107 rfl (by decide) <|
  FrmOk.cons Tryz.func108 rfl (by decide) <|
  FrmOk.cons Tryz.func109 rfl (by decide) <|
  FrmOk.nil _
end Go.Proofs.YtfldjfpcefcjdaaGreatDoor
namespace Go.Proofs
open Go.Shelf
def Tryz.lays159_ren:Go.Shelf.Ren := ⟨fun | 159 => 48 | 165 => 41 | 166 => 42 | 167 => 63 | 169 => 43 | 230 => 64 | 204 => 65 | 240 => 61 | 241 => 62 | 197 => 66 | 118 => 75 | 168 => 51 | 270 => 76 | 262 => 77 | 276 => 73 | 277 => 74 | 260 => 78 | 242 => 68 | 313 => 85 | 278 => 81 | 274 => 92 | 275 => 93 | n => n,fun | 9 => 9 | 4 => 4 | 3 => 3 | 5 => 5 | 72 => 65 | 0 => 0 | 76 => 69 | 75 => 68 | 107 => 92 | 70 => 62 | 20 => 20 | 37 => 63 | 127 => 89 | 21 => 21 | 105 => 93 | 164 => 98 | 162 => 110 | 203 => 108 | 119 => 84 | 46 => 88 | 139 => 87 | 138 => 86 | 51 => 106 | 160 => 117 | 208 => 134 | 206 => 132 | 80 => 71 | n => n,fun | 13 => 3 | 3 => 0 | 4 => 1 | n => n⟩
theorem Tryz.lays159:Go.Proofs.Lays.n159 Tryz.prog Tryz.lays159_ren := {
  mixed := by kernel_rfl
  f118 := Tryz.func75.trans (congrArg some (by kernel_rfl))
  f159 := Tryz.func48.trans (congrArg some (by kernel_rfl))
  f165 := Tryz.func41.trans (congrArg some (by kernel_rfl))
  f166 := Tryz.func42.trans (congrArg some (by kernel_rfl))
  f167 := Tryz.func63.trans (congrArg some (by kernel_rfl))
  f168 := Tryz.func51.trans (congrArg some (by kernel_rfl))
  f169 := Tryz.func43.trans (congrArg some (by kernel_rfl))
  f197 := Tryz.func66.trans (congrArg some (by kernel_rfl))
  f204 := Tryz.func65.trans (congrArg some (by kernel_rfl))
  f230 := Tryz.func64.trans (congrArg some (by kernel_rfl))
  f240 := Tryz.func61.trans (congrArg some (by kernel_rfl))
  f241 := Tryz.func62.trans (congrArg some (by kernel_rfl))
  f242 := Tryz.func68.trans (congrArg some (by kernel_rfl))
  f260 := Tryz.func78.trans (congrArg some (by kernel_rfl))
  f262 := Tryz.func77.trans (congrArg some (by kernel_rfl))
  f270 := Tryz.func76.trans (congrArg some (by kernel_rfl))
  f274 := Tryz.func92.trans (congrArg some (by kernel_rfl))
  f275 := Tryz.func93.trans (congrArg some (by kernel_rfl))
  f276 := Tryz.func73.trans (congrArg some (by kernel_rfl))
  f277 := Tryz.func74.trans (congrArg some (by kernel_rfl))
  f278 := Tryz.func81.trans (congrArg some (by kernel_rfl))
  f313 := Tryz.func85.trans (congrArg some (by kernel_rfl))
  t0 := Tryz.underlying0
  a0 := Tryz.isAgg0
  z0 := Tryz.sizeOf0
  v0 := Tryz.zeroValue0
  t3 := Tryz.underlying3
  a3 := Tryz.isAgg3
  z3 := Tryz.sizeOf3
  v3 := Tryz.zeroValue3
  t4 := Tryz.underlying4
  a4 := Tryz.isAgg4
  z4 := Tryz.sizeOf4
  v4 := Tryz.zeroValue4
  t5 := Tryz.underlying5
  a5 := Tryz.isAgg5
  z5 := Tryz.sizeOf5
  v5 := Tryz.zeroValue5
  t9 := Tryz.underlying9
  a9 := Tryz.isAgg9
  z9 := Tryz.sizeOf9
  v9 := Tryz.zeroValue9
  t20 := Tryz.underlying20
  a20 := Tryz.isAgg20
  z20 := Tryz.sizeOf20
  v20 := Tryz.zeroValue20
  t21 := Tryz.underlying21
  a21 := Tryz.isAgg21
  z21 := Tryz.sizeOf21
  v21 := Tryz.zeroValue21
  t37 := Tryz.underlying63
  a37 := Tryz.isAgg63
  z37 := Tryz.sizeOf63
  v37 := Tryz.zeroValue63
  t46 := Tryz.underlying88
  a46 := Tryz.isAgg88
  z46 := Tryz.sizeOf88
  v46 := Tryz.zeroValue88
  t51 := Tryz.underlying106
  a51 := Tryz.isAgg106
  z51 := Tryz.sizeOf106
  v51 := Tryz.zeroValue106
  t70 := Tryz.underlying62
  a70 := Tryz.isAgg62
  z70 := Tryz.sizeOf62
  v70 := Tryz.zeroValue62
  t72 := Tryz.underlying65
  a72 := Tryz.isAgg65
  z72 := Tryz.sizeOf65
  v72 := Tryz.zeroValue65
  t75 := Tryz.underlying68
  a75 := Tryz.isAgg68
  z75 := Tryz.sizeOf68
  v75 := Tryz.zeroValue68
  t76 := Tryz.underlying69
  a76 := Tryz.isAgg69
  z76 := Tryz.sizeOf69
  v76 := Tryz.zeroValue69
  t105 := Tryz.underlying93
  a105 := Tryz.isAgg93
  z105 := Tryz.sizeOf93
  v105 := Tryz.zeroValue93
  t107 := Tryz.underlying92
  a107 := Tryz.isAgg92
  z107 := Tryz.sizeOf92
  v107 := Tryz.zeroValue92
  t119 := Tryz.underlying84
  a119 := Tryz.isAgg84
  z119 := Tryz.sizeOf84
  t127 := Tryz.underlying89
  a127 := Tryz.isAgg89
  z127 := Tryz.sizeOf89
  v127 := Tryz.zeroValue89
  t138 := Tryz.underlying86
  a138 := Tryz.isAgg86
  z138 := Tryz.sizeOf86
  v138 := Tryz.zeroValue86
  t139 := Tryz.underlying87
  a139 := Tryz.isAgg87
  z139 := Tryz.sizeOf87
  v139 := Tryz.zeroValue87
  t160 := Tryz.underlying117
  a160 := Tryz.isAgg117
  z160 := Tryz.sizeOf117
  v160 := Tryz.zeroValue117
  t162 := Tryz.underlying110
  a162 := Tryz.isAgg110
  z162 := Tryz.sizeOf110
  v162 := Tryz.zeroValue110
  t164 := Tryz.underlying98
  a164 := Tryz.isAgg98
  z164 := Tryz.sizeOf98
  v164 := Tryz.zeroValue98
  t203 := Tryz.underlying108
  a203 := Tryz.isAgg108
  z203 := Tryz.sizeOf108
  v203 := Tryz.zeroValue108
  t206 := Tryz.underlying132
  a206 := Tryz.isAgg132
  z206 := Tryz.sizeOf132
  v206 := Tryz.zeroValue132
  t208 := Tryz.underlying134
  a208 := Tryz.isAgg134
  z208 := Tryz.sizeOf134
  v208 := Tryz.zeroValue134
  g3 := by kernel_rfl
  g4 := by kernel_rfl
  g13 := by kernel_rfl }
theorem Tryz.Builder_Extra_159:Builder.Extra Tryz.prog Tryz.lays159_ren := {
  sizeBuilder := by kernel_rfl
  liesBuilder := by kernel_rfl
  t5 := Tryz.underlying5
  a5 := Tryz.isAgg5
  z5 := Tryz.sizeOf5
  v5 := Tryz.zeroValue5
  infoByte := by kernel_rfl
  cellsByte := by kernel_rfl
  sizeByte := by kernel_rfl
  neB5 := by decide }
open Go.RowKit in
theorem Tryz.strings_ToLower_ascii (s : ByteArray) (w : World) (hs : s.size ≤ 140737488355328) (hascii : ∀ (j : Nat) (b : UInt8), s.data.toList[j]? = some b → b.toNat < 128) :
    Calls Tryz.prog 48 #[.string s] w fun e w' => e = .returned (.string ⟨(Lib.toLowerA s.data.toList).toArray⟩)∧Below w.heap.size w w' := Any.strings_ToLower_ascii Tryz.lays159 Tryz.Builder_Extra_159 s w hs hascii
def Tryz.lays156_ren:Go.Shelf.Ren := ⟨fun | 156 => 17 | 165 => 41 | 166 => 42 | 169 => 43 | 240 => 61 | 241 => 62 | 276 => 73 | 277 => 74 | n => n,fun | 31 => 45 | 9 => 9 | 3 => 3 | 4 => 4 | 0 => 0 | 20 => 20 | 72 => 65 | 76 => 69 | 70 => 62 | 37 => 63 | 75 => 68 | 127 => 89 | 164 => 98 | 5 => 5 | 80 => 71 | n => n,fun | n => n⟩
theorem Tryz.lays156:Go.Proofs.Lays.n156 Tryz.prog Tryz.lays156_ren := {
  mixed := by kernel_rfl
  f156 := Tryz.func17.trans (congrArg some (by kernel_rfl))
  f165 := Tryz.func41.trans (congrArg some (by kernel_rfl))
  f166 := Tryz.func42.trans (congrArg some (by kernel_rfl))
  f169 := Tryz.func43.trans (congrArg some (by kernel_rfl))
  f240 := Tryz.func61.trans (congrArg some (by kernel_rfl))
  f241 := Tryz.func62.trans (congrArg some (by kernel_rfl))
  f276 := Tryz.func73.trans (congrArg some (by kernel_rfl))
  f277 := Tryz.func74.trans (congrArg some (by kernel_rfl))
  t0 := Tryz.underlying0
  a0 := Tryz.isAgg0
  z0 := Tryz.sizeOf0
  v0 := Tryz.zeroValue0
  t3 := Tryz.underlying3
  a3 := Tryz.isAgg3
  z3 := Tryz.sizeOf3
  v3 := Tryz.zeroValue3
  t4 := Tryz.underlying4
  a4 := Tryz.isAgg4
  z4 := Tryz.sizeOf4
  v4 := Tryz.zeroValue4
  t9 := Tryz.underlying9
  a9 := Tryz.isAgg9
  z9 := Tryz.sizeOf9
  v9 := Tryz.zeroValue9
  t20 := Tryz.underlying20
  a20 := Tryz.isAgg20
  z20 := Tryz.sizeOf20
  v20 := Tryz.zeroValue20
  t31 := Tryz.underlying45
  a31 := Tryz.isAgg45
  z31 := Tryz.sizeOf45
  v31 := Tryz.zeroValue45
  t37 := Tryz.underlying63
  a37 := Tryz.isAgg63
  z37 := Tryz.sizeOf63
  v37 := Tryz.zeroValue63
  t70 := Tryz.underlying62
  a70 := Tryz.isAgg62
  z70 := Tryz.sizeOf62
  v70 := Tryz.zeroValue62
  t72 := Tryz.underlying65
  a72 := Tryz.isAgg65
  z72 := Tryz.sizeOf65
  v72 := Tryz.zeroValue65
  t75 := Tryz.underlying68
  a75 := Tryz.isAgg68
  z75 := Tryz.sizeOf68
  v75 := Tryz.zeroValue68
  t76 := Tryz.underlying69
  a76 := Tryz.isAgg69
  z76 := Tryz.sizeOf69
  v76 := Tryz.zeroValue69
  t127 := Tryz.underlying89
  a127 := Tryz.isAgg89
  z127 := Tryz.sizeOf89
  v127 := Tryz.zeroValue89
  t164 := Tryz.underlying98
  a164 := Tryz.isAgg98
  z164 := Tryz.sizeOf98
  v164 := Tryz.zeroValue98 }
theorem Tryz.Builder_Extra_156:Builder.Extra Tryz.prog Tryz.lays156_ren := {
  sizeBuilder := by kernel_rfl
  liesBuilder := by kernel_rfl
  t5 := Tryz.underlying5
  a5 := Tryz.isAgg5
  z5 := Tryz.sizeOf5
  v5 := Tryz.zeroValue5
  infoByte := by kernel_rfl
  cellsByte := by kernel_rfl
  sizeByte := by kernel_rfl
  neB5 := by decide }
open Go.RowKit in
theorem Tryz.strings_Join_none (a : Option Addr) (c : Nat) (sep : ByteArray) (w : World) :
    Calls Tryz.prog 17 #[.slice a 0 c,.string sep] w fun e w' => e = .returned (.string ⟨#[]⟩)∧w' = w := Any.strings_Join_none Tryz.lays156 Tryz.Builder_Extra_156 a c sep w
open Go.RowKit in
theorem Tryz.strings_Join (bk o c : Nat) (xs : List ByteArray) (sep : ByteArray) (w : World) (hcells : ∀ (j : Nat) x, xs[j]? = some x → w.cell? ⟨bk, o + j, none⟩ = some (.string x)) (hbk : bk < w.heap.size) (hN : xs.length ≤ 140737488355328) (hcap : xs.length ≤ c) (hlen : (Lib.join (xs.map (·.data.toList)) sep.data.toList).length ≤ 140737488355328) :
    Calls Tryz.prog 17 #[.slice (some ⟨bk,o,none⟩) xs.length c,.string sep] w fun e w' => e = .returned (.string ⟨(Lib.join (xs.map (·.data.toList)) sep.data.toList).toArray⟩)∧Below w.heap.size w w' := Any.strings_Join Tryz.lays156 Tryz.Builder_Extra_156 bk o c xs sep w hcells hbk hN hcap hlen
def Tryz.lays119_ren:Go.Shelf.Ren := ⟨fun | 119 => 38 | n => n,fun | 21 => 21 | 4 => 4 | n => n,fun | n => n⟩
theorem Tryz.lays119:Go.Proofs.Lays.n119 Tryz.prog Tryz.lays119_ren := {
  mixed := by kernel_rfl
  f119 := Tryz.func38.trans (congrArg some (by kernel_rfl))
  t4 := Tryz.underlying4
  a4 := Tryz.isAgg4
  z4 := Tryz.sizeOf4
  v4 := Tryz.zeroValue4
  t21 := Tryz.underlying21
  a21 := Tryz.isAgg21
  z21 := Tryz.sizeOf21
  v21 := Tryz.zeroValue21 }
theorem Tryz.utf8_ValidRune (r : Int) (w : World) :
    Calls Tryz.prog 38 #[.int .i32 r] w fun e w' => e = .returned (.bool (Lib.validRune r))∧w' = w := Any.utf8_ValidRune Tryz.lays119 r w
def Tryz.laysM171_ren:Go.Shelf.Ren := ⟨fun | 171 => 58 | 243 => 71 | 246 => 84 | 283 => 88 | 284 => 89 | 285 => 90 | 286 => 91 | 129 => 100 | 317 => 99 | 318 => 101 | 319 => 102 | 320 => 103 | 337 => 108 | 338 => 109 | n => n,fun | 3 => 3 | 9 => 9 | 2 => 2 | 4 => 4 | 171 => 112 | 0 => 0 | 53 => 97 | 37 => 63 | 5 => 5 | 173 => 115 | 212 => 128 | 51 => 106 | 20 => 20 | 213 => 129 | 46 => 88 | 232 => 143 | 233 => 144 | n => n,fun | 17 => 4 | 18 => 7 | 19 => 8 | n => n⟩
theorem Tryz.laysM171:Go.Proofs.LaysM.n171 Tryz.prog Tryz.laysM171_ren := {
  mixed := by kernel_rfl
  f129 := Tryz.func100.trans (congrArg some (by kernel_rfl))
  f171 := Tryz.func58.trans (congrArg some (by kernel_rfl))
  f243 := Tryz.func71.trans (congrArg some (by kernel_rfl))
  f246 := Tryz.func84.trans (congrArg some (by kernel_rfl))
  f283 := Tryz.func88.trans (congrArg some (by kernel_rfl))
  f284 := Tryz.func89.trans (congrArg some (by kernel_rfl))
  f285 := Tryz.func90.trans (congrArg some (by kernel_rfl))
  f286 := Tryz.func91.trans (congrArg some (by kernel_rfl))
  f317 := Tryz.func99.trans (congrArg some (by kernel_rfl))
  f318 := Tryz.func101.trans (congrArg some (by kernel_rfl))
  f319 := Tryz.func102.trans (congrArg some (by kernel_rfl))
  f320 := Tryz.func103.trans (congrArg some (by kernel_rfl))
  f337 := Tryz.func108.trans (congrArg some (by kernel_rfl))
  f338 := Tryz.func109.trans (congrArg some (by kernel_rfl))
  t0 := Tryz.underlying0
  a0 := Tryz.isAgg0
  z0 := Tryz.sizeOf0
  v0 := Tryz.zeroValue0
  t2 := Tryz.underlying2
  a2 := Tryz.isAgg2
  z2 := Tryz.sizeOf2
  v2 := Tryz.zeroValue2
  t3 := Tryz.underlying3
  a3 := Tryz.isAgg3
  z3 := Tryz.sizeOf3
  v3 := Tryz.zeroValue3
  t4 := Tryz.underlying4
  a4 := Tryz.isAgg4
  z4 := Tryz.sizeOf4
  v4 := Tryz.zeroValue4
  t5 := Tryz.underlying5
  a5 := Tryz.isAgg5
  z5 := Tryz.sizeOf5
  v5 := Tryz.zeroValue5
  t9 := Tryz.underlying9
  a9 := Tryz.isAgg9
  z9 := Tryz.sizeOf9
  v9 := Tryz.zeroValue9
  t20 := Tryz.underlying20
  a20 := Tryz.isAgg20
  z20 := Tryz.sizeOf20
  v20 := Tryz.zeroValue20
  t37 := Tryz.underlying63
  a37 := Tryz.isAgg63
  z37 := Tryz.sizeOf63
  v37 := Tryz.zeroValue63
  t46 := Tryz.underlying88
  a46 := Tryz.isAgg88
  z46 := Tryz.sizeOf88
  v46 := Tryz.zeroValue88
  t51 := Tryz.underlying106
  a51 := Tryz.isAgg106
  z51 := Tryz.sizeOf106
  v51 := Tryz.zeroValue106
  t53 := Tryz.underlying97
  a53 := Tryz.isAgg97
  z53 := Tryz.sizeOf97
  v53 := Tryz.zeroValue97
  t171 := Tryz.underlying112
  a171 := Tryz.isAgg112
  z171 := Tryz.sizeOf112
  v171 := Tryz.zeroValue112
  t173 := Tryz.underlying115
  a173 := Tryz.isAgg115
  z173 := Tryz.sizeOf115
  v173 := Tryz.zeroValue115
  t212 := Tryz.underlying128
  a212 := Tryz.isAgg128
  z212 := Tryz.sizeOf128
  v212 := Tryz.zeroValue128
  t213 := Tryz.underlying129
  a213 := Tryz.isAgg129
  z213 := Tryz.sizeOf129
  t232 := Tryz.underlying143
  a232 := Tryz.isAgg143
  z232 := Tryz.sizeOf143
  v232 := Tryz.zeroValue143
  t233 := Tryz.underlying144
  a233 := Tryz.isAgg144
  z233 := Tryz.sizeOf144
  v233 := Tryz.zeroValue144
  g17 := by kernel_rfl
  g18 := by kernel_rfl
  g19 := by kernel_rfl
  i0 := by kernel_rfl
  i2 := by kernel_rfl
  i3 := by kernel_rfl
  i4 := by kernel_rfl
  i5 := by kernel_rfl
  i9 := by kernel_rfl
  i20 := by kernel_rfl
  i37 := by kernel_rfl
  i46 := by kernel_rfl
  i51 := by kernel_rfl
  i53 := by kernel_rfl
  i171 := by kernel_rfl
  i173 := by kernel_rfl
  i212 := by kernel_rfl
  i232 := by kernel_rfl
  i233 := by kernel_rfl
  m17 := by kernel_rfl
  m18 := by kernel_rfl
  m19 := by kernel_rfl }
open Go.RowKit Go.Sort Go.Lib in
theorem Tryz.strconv_Itoa (n : Int) (h0 : -9223372036854775808 ≤ n) (h1 : n ≤ 9223372036854775807) (w : World) (htab : Lib.TabIs Tryz.prog w "internal/strconv.uint64pow10" .u64 Lib.pow10Tab) :
    Calls Tryz.prog 58 #[.int .i64 n] w fun e w' => e = .returned (.string ⟨(Lib.itoa n).toArray⟩)∧∃ k os,w' = grow (w.drewN k) os := Any.strconv_Itoa Tryz.laysM171 n h0 h1 w htab
def Tryz.lays99_ren:Go.Shelf.Ren := ⟨fun | 99 => 52 | 206 => 69 | n => n,fun | 9 => 9 | 4 => 4 | 3 => 3 | n => n,fun | n => n⟩
theorem Tryz.lays99:Go.Proofs.Lays.n99 Tryz.prog Tryz.lays99_ren := {
  mixed := by kernel_rfl
  f99 := Tryz.func52.trans (congrArg some (by kernel_rfl))
  f206 := Tryz.func69.trans (congrArg some (by kernel_rfl))
  t3 := Tryz.underlying3
  a3 := Tryz.isAgg3
  z3 := Tryz.sizeOf3
  v3 := Tryz.zeroValue3
  t4 := Tryz.underlying4
  a4 := Tryz.isAgg4
  z4 := Tryz.sizeOf4
  v4 := Tryz.zeroValue4
  t9 := Tryz.underlying9
  a9 := Tryz.isAgg9
  z9 := Tryz.sizeOf9
  v9 := Tryz.zeroValue9 }
open Go.RowKit Go.Lib in
theorem Tryz.strings_HasPrefix (s p : ByteArray) (w : World) :
    Calls Tryz.prog 52 #[.string s,.string p] w fun e w' => e = .returned (.bool (Lib.hasPrefix s.data.toList p.data.toList))∧w' = w := Any.strings_HasPrefix Tryz.lays99 s p w
def Tryz.lays204_ren:Go.Shelf.Ren := ⟨fun | 204 => 65 | 262 => 77 | 313 => 85 | 274 => 92 | 275 => 93 | n => n,fun | 21 => 21 | 4 => 4 | 3 => 3 | 162 => 110 | 203 => 108 | 160 => 117 | 46 => 88 | 0 => 0 | 208 => 134 | 51 => 106 | 206 => 132 | n => n,fun | 13 => 3 | n => n⟩
theorem Tryz.lays204:Go.Proofs.Lays.n204 Tryz.prog Tryz.lays204_ren := {
  mixed := by kernel_rfl
  f204 := Tryz.func65.trans (congrArg some (by kernel_rfl))
  f262 := Tryz.func77.trans (congrArg some (by kernel_rfl))
  f274 := Tryz.func92.trans (congrArg some (by kernel_rfl))
  f275 := Tryz.func93.trans (congrArg some (by kernel_rfl))
  f313 := Tryz.func85.trans (congrArg some (by kernel_rfl))
  t0 := Tryz.underlying0
  a0 := Tryz.isAgg0
  z0 := Tryz.sizeOf0
  v0 := Tryz.zeroValue0
  t3 := Tryz.underlying3
  a3 := Tryz.isAgg3
  z3 := Tryz.sizeOf3
  v3 := Tryz.zeroValue3
  t4 := Tryz.underlying4
  a4 := Tryz.isAgg4
  z4 := Tryz.sizeOf4
  v4 := Tryz.zeroValue4
  t21 := Tryz.underlying21
  a21 := Tryz.isAgg21
  z21 := Tryz.sizeOf21
  v21 := Tryz.zeroValue21
  t46 := Tryz.underlying88
  a46 := Tryz.isAgg88
  z46 := Tryz.sizeOf88
  v46 := Tryz.zeroValue88
  t51 := Tryz.underlying106
  a51 := Tryz.isAgg106
  z51 := Tryz.sizeOf106
  v51 := Tryz.zeroValue106
  t160 := Tryz.underlying117
  a160 := Tryz.isAgg117
  z160 := Tryz.sizeOf117
  v160 := Tryz.zeroValue117
  t162 := Tryz.underlying110
  a162 := Tryz.isAgg110
  z162 := Tryz.sizeOf110
  v162 := Tryz.zeroValue110
  t203 := Tryz.underlying108
  a203 := Tryz.isAgg108
  z203 := Tryz.sizeOf108
  v203 := Tryz.zeroValue108
  t206 := Tryz.underlying132
  a206 := Tryz.isAgg132
  z206 := Tryz.sizeOf132
  v206 := Tryz.zeroValue132
  t208 := Tryz.underlying134
  a208 := Tryz.isAgg134
  z208 := Tryz.sizeOf134
  v208 := Tryz.zeroValue134
  g13 := by kernel_rfl }
def Tryz.lays197_ren:Go.Shelf.Ren := ⟨fun | 197 => 66 | 260 => 78 | n => n,fun | 9 => 9 | 21 => 21 | 3 => 3 | 4 => 4 | 5 => 5 | 105 => 93 | 119 => 84 | 0 => 0 | 46 => 88 | 139 => 87 | 138 => 86 | n => n,fun | 3 => 0 | 4 => 1 | n => n⟩
theorem Tryz.lays197:Go.Proofs.Lays.n197 Tryz.prog Tryz.lays197_ren := {
  mixed := by kernel_rfl
  f197 := Tryz.func66.trans (congrArg some (by kernel_rfl))
  f260 := Tryz.func78.trans (congrArg some (by kernel_rfl))
  t0 := Tryz.underlying0
  a0 := Tryz.isAgg0
  z0 := Tryz.sizeOf0
  v0 := Tryz.zeroValue0
  t3 := Tryz.underlying3
  a3 := Tryz.isAgg3
  z3 := Tryz.sizeOf3
  v3 := Tryz.zeroValue3
  t4 := Tryz.underlying4
  a4 := Tryz.isAgg4
  z4 := Tryz.sizeOf4
  v4 := Tryz.zeroValue4
  t5 := Tryz.underlying5
  a5 := Tryz.isAgg5
  z5 := Tryz.sizeOf5
  v5 := Tryz.zeroValue5
  t9 := Tryz.underlying9
  a9 := Tryz.isAgg9
  z9 := Tryz.sizeOf9
  v9 := Tryz.zeroValue9
  t21 := Tryz.underlying21
  a21 := Tryz.isAgg21
  z21 := Tryz.sizeOf21
  v21 := Tryz.zeroValue21
  t46 := Tryz.underlying88
  a46 := Tryz.isAgg88
  z46 := Tryz.sizeOf88
  v46 := Tryz.zeroValue88
  t105 := Tryz.underlying93
  a105 := Tryz.isAgg93
  z105 := Tryz.sizeOf93
  v105 := Tryz.zeroValue93
  t119 := Tryz.underlying84
  a119 := Tryz.isAgg84
  z119 := Tryz.sizeOf84
  t138 := Tryz.underlying86
  a138 := Tryz.isAgg86
  z138 := Tryz.sizeOf86
  v138 := Tryz.zeroValue86
  t139 := Tryz.underlying87
  a139 := Tryz.isAgg87
  z139 := Tryz.sizeOf87
  v139 := Tryz.zeroValue87
  g3 := by kernel_rfl
  g4 := by kernel_rfl }
def Tryz.lays260_ren:Go.Shelf.Ren := ⟨fun | 260 => 78 | n => n,fun | 9 => 9 | 21 => 21 | 3 => 3 | 4 => 4 | 5 => 5 | 119 => 84 | 0 => 0 | 46 => 88 | 139 => 87 | 138 => 86 | n => n,fun | 3 => 0 | 4 => 1 | n => n⟩
theorem Tryz.lays260:Go.Proofs.Lays.n260 Tryz.prog Tryz.lays260_ren := {
  mixed := by kernel_rfl
  f260 := Tryz.func78.trans (congrArg some (by kernel_rfl))
  t0 := Tryz.underlying0
  a0 := Tryz.isAgg0
  z0 := Tryz.sizeOf0
  v0 := Tryz.zeroValue0
  t3 := Tryz.underlying3
  a3 := Tryz.isAgg3
  z3 := Tryz.sizeOf3
  v3 := Tryz.zeroValue3
  t4 := Tryz.underlying4
  a4 := Tryz.isAgg4
  z4 := Tryz.sizeOf4
  v4 := Tryz.zeroValue4
  t5 := Tryz.underlying5
  a5 := Tryz.isAgg5
  z5 := Tryz.sizeOf5
  v5 := Tryz.zeroValue5
  t9 := Tryz.underlying9
  a9 := Tryz.isAgg9
  z9 := Tryz.sizeOf9
  v9 := Tryz.zeroValue9
  t21 := Tryz.underlying21
  a21 := Tryz.isAgg21
  z21 := Tryz.sizeOf21
  v21 := Tryz.zeroValue21
  t46 := Tryz.underlying88
  a46 := Tryz.isAgg88
  z46 := Tryz.sizeOf88
  v46 := Tryz.zeroValue88
  t119 := Tryz.underlying84
  a119 := Tryz.isAgg84
  z119 := Tryz.sizeOf84
  t138 := Tryz.underlying86
  a138 := Tryz.isAgg86
  z138 := Tryz.sizeOf86
  v138 := Tryz.zeroValue86
  t139 := Tryz.underlying87
  a139 := Tryz.isAgg87
  z139 := Tryz.sizeOf87
  v139 := Tryz.zeroValue87
  g3 := by kernel_rfl
  g4 := by kernel_rfl }
open Go.RowKit Go.Lib in
theorem Tryz.utf8_DecodeRuneInString (s : ByteArray) (w : World) (hT : Lib.Utf8Tabs 0 1 w) :
    Calls Tryz.prog 66 #[.string s] w fun e w' => e = .returned (.tuple #[.int .i32 (Lib.decodeGo s).1,.int .i64 (Lib.decodeGo s).2])∧Below w.heap.size w w' := Any.utf8_DecodeRuneInString Tryz.lays197 s w hT
def Tryz.lays196_ren:Go.Shelf.Ren := ⟨fun | 196 => 40 | 259 => 60 | n => n,fun | 9 => 9 | 4 => 4 | 3 => 3 | 5 => 5 | 12 => 12 | 119 => 84 | 0 => 0 | 46 => 88 | 139 => 87 | 138 => 86 | 53 => 97 | n => n,fun | 3 => 0 | 4 => 1 | n => n⟩
theorem Tryz.lays196:Go.Proofs.Lays.n196 Tryz.prog Tryz.lays196_ren := {
  mixed := by kernel_rfl
  f196 := Tryz.func40.trans (congrArg some (by kernel_rfl))
  f259 := Tryz.func60.trans (congrArg some (by kernel_rfl))
  t0 := Tryz.underlying0
  a0 := Tryz.isAgg0
  z0 := Tryz.sizeOf0
  v0 := Tryz.zeroValue0
  t3 := Tryz.underlying3
  a3 := Tryz.isAgg3
  z3 := Tryz.sizeOf3
  v3 := Tryz.zeroValue3
  t4 := Tryz.underlying4
  a4 := Tryz.isAgg4
  z4 := Tryz.sizeOf4
  v4 := Tryz.zeroValue4
  t5 := Tryz.underlying5
  a5 := Tryz.isAgg5
  z5 := Tryz.sizeOf5
  v5 := Tryz.zeroValue5
  t9 := Tryz.underlying9
  a9 := Tryz.isAgg9
  z9 := Tryz.sizeOf9
  v9 := Tryz.zeroValue9
  t12 := Tryz.underlying12
  a12 := Tryz.isAgg12
  z12 := Tryz.sizeOf12
  v12 := Tryz.zeroValue12
  t46 := Tryz.underlying88
  a46 := Tryz.isAgg88
  z46 := Tryz.sizeOf88
  v46 := Tryz.zeroValue88
  t53 := Tryz.underlying97
  a53 := Tryz.isAgg97
  z53 := Tryz.sizeOf97
  v53 := Tryz.zeroValue97
  t119 := Tryz.underlying84
  a119 := Tryz.isAgg84
  z119 := Tryz.sizeOf84
  t138 := Tryz.underlying86
  a138 := Tryz.isAgg86
  z138 := Tryz.sizeOf86
  v138 := Tryz.zeroValue86
  t139 := Tryz.underlying87
  a139 := Tryz.isAgg87
  z139 := Tryz.sizeOf87
  v139 := Tryz.zeroValue87
  g3 := by kernel_rfl
  g4 := by kernel_rfl }
open Go.RowKit in
theorem Tryz.utf8_ValidString (s : ByteArray) (w : World) (hs : s.size ≤ 9223372036854775807) (hT : Lib.Utf8Tabs 0 1 w) :
    Calls Tryz.prog 40 #[.string s] w fun e w' => e = .returned (.bool (Lib.validD s.data.toList))∧Below w.heap.size w w' := Any.utf8_ValidString Tryz.lays196 s w hs hT
end Go.Proofs
namespace Go.Proofs.YtfldjfpcefcjdaaGreatDoor
open Go Go.Ab
theorem mix:Tryz.prog.follows .mixedOrders = true := by kernel_rfl
def SM {α:Type} (x:α):Prop := x = x
def Z0:Int := 0
def Z1:Int := 1
def N0:Nat := 0
def N1:Nat := 1
def N2:Nat := 2
def N4:Nat := 4
def N6:Nat := 6
def U0:UInt8 := 0
def LN {α:Type} (l:List α):Nat := List.length l
def LI {α:Type} (l:List α):Int := (↑(List.length l):Int)
def BI (l:List UInt8) (i:Nat):Int := (↑(UInt8.toNat (List.getD l i (0:UInt8))):Int)
def NI (x:Nat):Int := (↑x:Int)
def TN (x:Nat):Nat := Int.toNat (↑x:Int)
def TL {α:Type} (l:List α):Nat := Int.toNat (↑(List.length l):Int)
def ZI (a:Int):D := D.int IntKind.i64 a
def ZB (a:Int):D := D.int IntKind.u8 a
abbrev Con := Nat→List D→St→Option FnSpec
noncomputable def E0 (con:Con) (n V:Nat) (cross:List Nat) (ord:Nat→List Nat × List Nat):Senv where
  P := Tryz.prog
  tt := tabGet tab
  n := n
  dfs := []
  V := V
  cross := cross
  gh := fun _ => []
  gr := []
  unr := fun _ => 0
  cut := fun _ _ _ => none
  ann := fun _ _ _ => none
  ord := ord
  con := con
  eqs := eqs
noncomputable def EC (con:Con) (n V:Nat) (cross:List Nat) (ord:Nat→List Nat × List Nat):Senv :=
  { E0 con n V cross ord with auto := true,inl := inlD { E0 con 0 0 [] (fun _ => ([],[])) with auto := true } (frmGet frames) 9 }
abbrev con0:Con := fun _ _ _ => none
theorem con0_ok:ConOk Tryz.prog con0 := fun _ _ _ _ h => nomatch h
theorem eOk {con:Con} (hc:ConOk Tryz.prog con) {E:Senv} (h:E = { EC con E.n E.V E.cross E.ord with gh := E.gh,gr := E.gr,unr := E.unr,cut := E.cut,ann := E.ann,cut2 := E.cut2,ann2 := E.ann2,own := E.own,gz := E.gz,mg := E.mg,pvt := E.pvt,bcut := E.bcut,bd := E.bd }):EnvOk E := by
  rw [h]
  exact ⟨tab_ok,hc,mix,fun k ds S R h => inlD_ok (E := { E0 con 0 0 [] (fun _ => ([],[])) with auto := true }) tab_ok hc mix frames_ok eqs_ok 9 k ds S R h,eqs_ok⟩
def pC (ds:List D) (d:D) (p:Prop):FnSpec where
  β := Unit
  α := Unit
  args := fun _ => ds
  st := fun _ => ⟨[],[]⟩
  pre := fun _ => p
  post := fun _ _ => True
  res := fun _ _ => .ret d
  out := fun _ _ => ⟨[],[]⟩
  fit := some ()
def pQ {α:Type} (ds:List D) (d:α→D) (q:α→Prop) (p:Prop):FnSpec where
  β := Unit
  α := α
  args := fun _ => ds
  st := fun _ => ⟨[],[]⟩
  pre := fun _ => p
  post := fun _ y => q y
  res := fun _ y => .ret (d y)
  out := fun _ _ => ⟨[],[]⟩
  fit := some ()
theorem leS_nil (S:St):leS ⟨[],[]⟩ S := by simp [leS,chk_iff,Go.Ab.nodupB,leO,leT]
theorem pC_ok {k : Nat} {ds : List D} {S : St} {us : List D} {d : D} {p : Prop} (h : p → weakL ds us ∧ ACalls Tryz.prog k us ⟨[], []⟩ (SpecR (sC us d) ())) :
    (∀ x,(pC us d p).pre x→ACalls Tryz.prog k ((pC us d p).args x) ((pC us d p).st x) (SpecR (pC us d p) x))∧(∀ x,(pC us d p).fit = some x→(pC us d p).pre x→weakL ds ((pC us d p).args x)∧leS ((pC us d p).st x) S)∧((pC us d p).all = true→∀ x,(pC us d p).pre x→weakL ds ((pC us d p).args x)∧(pC us d p).st x = S) :=
  ⟨fun _ hp => (h hp).2.mono fun _ _ ⟨_,_h1,h2,h3⟩ => ⟨(),trivial,h2,h3⟩,fun _ _ hp => ⟨(h hp).1,leS_nil S⟩,fun e => nomatch e⟩
theorem pQ_ok {α : Type} {k : Nat} {ds : List D} {S : St} {us : List D} {d : α → D} {q : α → Prop} {p : Prop} (h : p → weakL ds us ∧ ACalls Tryz.prog k us ⟨[], []⟩ (SpecR (pQ us d q p) ())) :
    (∀ x,(pQ us d q p).pre x→ACalls Tryz.prog k ((pQ us d q p).args x) ((pQ us d q p).st x) (SpecR (pQ us d q p) x))∧(∀ x,(pQ us d q p).fit = some x→(pQ us d q p).pre x→weakL ds ((pQ us d q p).args x)∧leS ((pQ us d q p).st x) S)∧((pQ us d q p).all = true→∀ x,(pQ us d q p).pre x→weakL ds ((pQ us d q p).args x)∧(pQ us d q p).st x = S) :=
  ⟨fun _ hp => (h hp).2,fun _ _ hp => ⟨(h hp).1,leS_nil S⟩,fun e => nomatch e⟩
theorem take_step {α:Type} [Inhabited α] {l:List α} {i:Nat} (h:i < l.length):l.take (i + 1) = l.take i ++ [l.getD i default] := by
  rw [List.take_add_one]
  simp [List.getD_eq_getElem?_getD,h]
end Go.Proofs.YtfldjfpcefcjdaaGreatDoor
namespace Go.Proofs.YtfldjfpcefcjdaaGreatDoor
open Go Go.Ab
def bsl (l:List UInt8) (m:Ab.Mode):D := .sl 1 l.length (fun i => [.int .u8 ((l.getD i 0).toNat:Int)]) m
def inI64 (z:Int):Prop := -9223372036854775808 ≤ z∧z ≤ 9223372036854775807
theorem sC_weak {k:Nat} {ds us:List D} {d:D} (hw:weakL ds us) (h:ACalls Tryz.prog k us ⟨[],[]⟩ (SpecR (sC us d) ())):ACalls Tryz.prog k ds ⟨[],[]⟩ (SpecR (sC ds d) ()) :=
  (ACalls.weakArgs h hw).mono fun _ _ ⟨_,_h1,h2,h3⟩ => ⟨(),trivial,h2,h3⟩
end Go.Proofs.YtfldjfpcefcjdaaGreatDoor
namespace Go.Proofs.YtfldjfpcefcjdaaGreatDoor
open Go Go.Ab
theorem bytesOf_bsl (l:List UInt8):bytesOf l.length (fun i => [.int .u8 ((l.getD i 0).toNat:Int)]) = l := by
  apply List.ext_getElem
  · simp [bytesOf]
  · intro i h1 h2
    simp only [bytesOf,List.getElem_map,List.getElem_range,rowByte,Ab.byteOf,List.getD_eq_getElem?_getD,List.getElem?_eq_getElem h2,Option.getD_some,Int.toNat_natCast,UInt8.ofNat_toNat]
theorem rowsB_bsl (l:List UInt8):rowsB l.length (fun i => [.int .u8 ((l.getD i 0).toNat:Int)]) = true := by
  simp only [rowsB,List.all_eq_true,List.mem_range]
  intro i _
  have := (l.getD i 0).toNat_lt
  simp only [rowB,Ab.byteB,Bool.and_eq_true,decide_eq_true_eq]; omega
theorem bsl_weak {n:Nat} {g:Nat→List D} {m:Ab.Mode} (h:rowsB n g = true):weakD (.sl 1 n g m) (bsl (bytesOf n g) m) := by
  simp only [bsl,weakD,chk_iff]
  refine ⟨by simp,by simp [bytesOf],fun i hi => ?_,weakM_refl m⟩
  have hb:rowB (g i) = true := List.all_eq_true.1 h i (List.mem_range.2 hi)
  have hg:(bytesOf n g).getD i 0 = rowByte (g i) := by simp [bytesOf,List.getD_eq_getElem?_getD,hi]
  rw [hg]
  unfold rowB at hb
  split at hb
  · rename_i d hd
    rw [hd]
    have := byteB_eq hb
    simp only [rowByte]
    rw [← this]
  · cases hb
theorem app_bsl (l r:List UInt8) {i:Nat} (_hi:i < l.length + r.length):appF l.length (fun i => [D.int .u8 ((l.getD i 0).toNat:Int)]) (fun i => [D.int .u8 ((r.getD i 0).toNat:Int)]) i = [D.int .u8 (((l ++ r).getD i 0).toNat:Int)] := by
  simp only [appF]
  split
  · rename_i hlt
    simp [List.getD_eq_getElem?_getD,List.getElem?_append_left hlt]
  · rename_i hge
    simp [List.getD_eq_getElem?_getD,List.getElem?_append_right (Nat.le_of_not_lt hge)]
theorem app_gen {n : Nat} {l r : List UInt8} {F G : Nat → List D} (hn : n = l.length) (hF : ∀ i, i < n → F i = [D.int .u8 ((l.getD i 0).toNat : Int)]) (hG : ∀ i, i < r.length → G i = [D.int .u8 ((r.getD i 0).toNat : Int)]) :
    ∀ i,i < n + r.length→appF n F G i = [D.int .u8 (((l ++ r).getD i 0).toNat:Int)] := by
  intro i hi
  subst hn
  rw [← app_bsl l r hi]
  simp only [appF]
  split
  · exact hF i (by assumption)
  · exact hG _ (by omega)
theorem app_row' {n : Nat} {l : List UInt8} {F : Nat → List D} {z : Int} {b : UInt8} (hn : n = l.length) (hF : ∀ i, i < n → F i = [D.int .u8 ((l.getD i 0).toNat : Int)]) (h : z = (b.toNat : Int)) :
    ∀ i,i < n + 1→appF n F (fun i => [[D.int .u8 z]].getD i []) i = [D.int .u8 (((l ++ [b]).getD i 0).toNat:Int)] := by
  intro i hi
  subst hn
  simp only [appF]
  split
  · rename_i hlt
    rw [hF i hlt]
    simp [List.getD_eq_getElem?_getD,List.getElem?_append_left hlt]
  · have:i = l.length := by omega
    subst this
    simp [List.getD_eq_getElem?_getD,h]
end Go.Proofs.YtfldjfpcefcjdaaGreatDoor
namespace Go.Proofs.YtfldjfpcefcjdaaGreatDoor
open Go Go.Ab
set_option maxRecDepth 100000
theorem tyB:Tryz.prog.underlying 62 = some (.pointer 65) := Tryz.underlying62
theorem tyU:Tryz.prog.underlying 98 = some .unsafePointer := Tryz.underlying98
theorem infoB:∃ j,Tryz.prog.info? 65 = some j∧j.size = 2 := Option.map_eq_some_iff.1 (show (Tryz.prog.info? 65).map (·.size) = some 2 by kernel_rfl)
theorem liesB:liesAt Tryz.prog Tryz.prog.depth 65 (2 / Tryz.prog.cellsOf 65) 0 65 1 = true := by kernel_rfl
theorem cc_used (b : Nat) (w : World) (h0 : w.cell? ⟨b, 0, none⟩ = some (.pointer (some ⟨b, 0, none⟩))) :
    Calls Tryz.prog 61 #[.pointer (some ⟨b,0,none⟩)] w fun e w' => e = .returned (.tuple #[])∧w' = w := by
  obtain ⟨j,hj,hjs⟩ := infoB
  go_enter Tryz.func61,Tryz.ntmps61
  go_wp2
  rw [Lib.run_neq_ptr_same w _ tyB hj]
  go_wp2
  go_end0
  exact ⟨rfl,rfl⟩
theorem cc_fresh (b : Nat) (w : World) (h0 : w.cell? ⟨b, 0, none⟩ = some (.pointer none)) (hsh : w.shape? b = some (65, 2)) (hfz : w.frozen? ⟨b, 0, none⟩ = false) :
    Calls Tryz.prog 61 #[.pointer (some ⟨b,0,none⟩)] w fun e w' => e = .returned (.tuple #[])∧w' = w.setCell ⟨b,0,none⟩ (.pointer (some ⟨b,0,none⟩)) := by
  obtain ⟨j,hj,hjs⟩ := infoB
  go_enter Tryz.func61,Tryz.ntmps61
  go_wp2
  rw [Lib.run_to_unsafe w ⟨b,0,none⟩ tyB tyU hj (by rw [hjs]; decide) hsh (Nat.zero_lt_succ 1)]
  simp only [Result.andThen]
  rw [Oper.upon_value]
  go_wp2
  rw [run_callFunc_extern Tryz.func73 (by kernel_rfl) (by kernel_rfl) (by kernel_rfl) (e := Extern.AbiNoEscape.same) (by kernel_rfl)]
  rw [Lib.run_noEscape]
  simp only [Result.andThen]
  rw [Oper.upon_value]
  go_wp2
  rw [Lib.run_from_unsafe w ⟨b,0,none⟩ tyU tyB hj hsh liesB]
  simp only [Result.andThen]
  rw [Oper.upon_value]
  go_wp2
  go_end0
  exact ⟨rfl,rfl⟩
def sCc (k x E:Nat) (d:D):FnSpec where
  β := Unit
  α := Unit
  args := fun _ => [.ref k x 0]
  st := fun _ => ⟨[(k,x,.bld 65 E d)],[]⟩
  pre := fun _ => True
  post := fun _ _ => True
  res := fun _ _ => .ret (.tup [])
  out := fun _ _ => ⟨[(k,x,.bld 65 E d)],[]⟩
theorem cc_ok (k x E:Nat) (d:D):ACalls Tryz.prog 61 ((sCc k x E d).args ()) ((sCc k x E d).st ()) (SpecR (sCc k x E d) ()) := by
  refine ⟨⟨_,Tryz.func61,by kernel_rfl,by kernel_rfl⟩,fun C F args w ha hs => ?_⟩
  obtain ⟨u,e,hu⟩ := repL_one' ha
  have e2:args = [u].toArray := by rw [← e]
  subst e2
  simp only [Rep] at hu
  subst hu
  have hg:getO ((sCc k x E d).st ()).objs k = some (x,.bld 65 E d) := by simp [sCc,getO]
  obtain ⟨c1,c2,v0,v1,fz,h1,h2,h3,h4,h5⟩ := hs.obj_of hg
  have fin:∀ w',Sat C (((sCc k x E d).st ()).add F) w'→∃ C' r S',C.le C'∧Sat C' (S'.add F) w'∧RepEnd C' r (.returned (.tuple #[]))∧SpecR (sCc k x E d) () r S' := fun w' h =>
    ⟨C,.ret (.tup []),_,.refl C,h,by simp [RepEnd,Rep,RepL],(),trivial,rfl,rfl⟩
  rcases h3 with rfl | rfl
  · have hc:w.cell? ⟨x,0,none⟩ = some (.pointer none) := by rw [cell_of_heap h1]; rfl
    have hsh:w.shape? x = some (65,2) := by simp [World.shape?,h1]
    have hfz:w.frozen? ⟨x,0,none⟩ = false := frozen_of_heap h1 h2 (by simp)
    refine (cc_fresh x w hc hsh hfz).mono fun e w' ⟨he,hw⟩ => ?_
    subst he hw
    refine fin _ ?_
    have hr := setCell_heap h1 (o := 0) (.pointer (some ⟨x,0,none⟩))
    have := hs.replace (o' := .bld 65 E d) (w' := w.setCell ⟨x,0,none⟩ (.pointer (some ⟨x,0,none⟩))) hg (by simp) (fun j hj => Go.RowKit.Below.heap_setCell _ _ _ _ hj) rfl rfl rfl ⟨.pointer (some ⟨x,0,none⟩),v1,fz,by simpa using hr,by simpa using h2.set 0 (.pointer (some ⟨x,0,none⟩)),.inr rfl,h4,h5⟩
    simpa [sCc,St.set,setO] using this
  · have hc:w.cell? ⟨x,0,none⟩ = some (.pointer (some ⟨x,0,none⟩)) := by rw [cell_of_heap h1]; rfl
    refine (cc_used x w hc).mono fun e w' ⟨he,hw⟩ => ?_
    subst he hw
    exact fin _ hs
end Go.Proofs.YtfldjfpcefcjdaaGreatDoor
namespace Go.Proofs.YtfldjfpcefcjdaaGreatDoor
open Go Go.Ab
set_option maxRecDepth 100000
def conCc:Con := fun k ds S => match k with
  | 61 => match ds with
    | [.ref k x 0] => match getO S.objs k with
      | some (y,.bld T E d) => some ((sCc k x E d).fits () (y = x∧T = 65∧tokD d = true))
      | _ => none
    | _ => none
  | _ => none
theorem conCc_ok:ConOk Tryz.prog conCc := by
  intro k ds S A h
  unfold conCc at h
  split at h
  · split at h
    · rename_i k x
      split at h
      · rename_i y T E d hg
        injection h with h; subst h
        refine ⟨fun _ _ => cc_ok k x E d,fun _ _ hy => ?_,fun h => nomatch h⟩
        obtain ⟨⟨rfl,rfl,ht⟩,_⟩ := hy
        refine ⟨⟨by simp [weakD,chk],trivial⟩,chk_iff.2 ⟨rfl,?_,trivial⟩⟩
        simp only [FnSpec.fits,sCc,leO,hg]
        exact ⟨trivial,chk_iff.2 ⟨by simp [ht],weakD_refl _⟩,trivial⟩
      · cases h
    · cases h
  · cases h
def sWs (f:List UInt8) (E x t:Nat) (l:List UInt8) (r:AEnd) (ar:List D):FnSpec where
  β := Unit
  α := Nat
  args := fun _ => .ref 0 x 0 :: ar
  st := fun _ => ⟨[(0,x,.bld 65 E (bsl l (.tok 0 t)))],[(0,t)]⟩
  pre := fun _ => True
  post := fun _ _ => True
  res := fun _ _ => r
  out := fun _ t' => ⟨[(0,x,.bld 65 E (bsl (l ++ f) (.tok 0 t')))],[(0,t')]⟩
noncomputable def Ews:Senv := { EC conCc 19 2 [4,5] (fun _ => ([],[])) with own := fun t => Nat.beq t 63 }
theorem ws_ok (x t : Nat) (l s : List UInt8) (hl : l.length + s.length ≤ 140737488355328) :
    ACalls Tryz.prog 42 ((sWs s 5 x t l (.ret (.tup [.int .i64 s.length,.nili])) [.str s]).args ()) ((sWs s 5 x t l (.ret (.tup [.int .i64 s.length,.nili])) [.str s]).st ()) (SpecR (sWs s 5 x t l (.ret (.tup [.int .i64 s.length,.nili])) [.str s]) ()) := by
  refine con_of (A := sWs s 5 x t l (.ret (.tup [.int .i64 s.length,.nili])) [.str s]) (x := ()) (E := Ews) (eOk conCc_ok rfl) Tryz.func42 rfl (by kernel_rfl) rfl (by simp [sWs,Ews,EC,E0]) ?_
  refine vc_eq (T :=
    ((SM x∧SM (65:Nat)∧SM true)∧True)∧∀ (y:Unit),True→SM x∧SM t∧side ((LN l + LN s) * N1 ≤ (140737488355328:Nat)∧LN l + LN s ≤ (9223372036854775807:Nat)) (∀ (t1:Nat),(t % (1000003:Nat) = N6→t1 % (1000003:Nat) = N6)→SM x∧(t % (1000003:Nat) = N6→t1 % (1000003:Nat) = N6)∧True∧∃ (y:Nat),True∧(SM (LI s)∧True∧True)∧(SM x∧(LN l + LN s = LN (l ++ s)∧(∀ (i:Nat),i < LN l + LN s→appF (LN l) (fun (i:Nat) => [ZB (BI l i)]) (fun (i:Nat) => [ZB (BI s i)]) i = [ZB (BI (l ++ s) i)])∧t1 = y)∧True)∧t1 = y∧True)) (by kernel_rfl) ?_
  delta BI LI LN N1 N6 SM U0 ZB
  refine ⟨⟨⟨rfl,rfl,rfl⟩,trivial⟩,fun _ _ => ⟨rfl,rfl,?_⟩⟩
  rw [side_iff]
  exact ⟨by omega,fun t1 ht => ⟨rfl,ht,trivial,t1,trivial,⟨rfl,trivial,trivial⟩,⟨rfl,⟨by rw [List.length_append],app_gen rfl (fun _ _ => rfl) (fun _ _ => rfl),rfl⟩,trivial⟩,rfl,trivial⟩⟩
noncomputable def Ewb:Senv := { EC conCc 17 2 [4] (fun _ => ([],[])) with own := fun t => Nat.beq t 63 }
theorem wb_ok (x t : Nat) (l : List UInt8) (b : UInt8) (hl : l.length + 1 ≤ 140737488355328) :
    ACalls Tryz.prog 63 ((sWs [b] 5 x t l (.ret .nili) [.int .u8 (b.toNat:Int)]).args ()) ((sWs [b] 5 x t l (.ret .nili) [.int .u8 (b.toNat:Int)]).st ()) (SpecR (sWs [b] 5 x t l (.ret .nili) [.int .u8 (b.toNat:Int)]) ()) := by
  refine con_of (A := sWs [b] 5 x t l (.ret .nili) [.int .u8 (b.toNat:Int)]) (x := ()) (E := Ewb) (eOk conCc_ok rfl) Tryz.func63 rfl (by kernel_rfl) rfl (by simp [sWs,Ewb,EC,E0]) ?_
  refine vc_eq (T :=
    ((SM x∧SM (65:Nat)∧SM true)∧True)∧∀ (y:Unit),True→SM x∧SM t∧side ((LN l + N1) * N1 ≤ (140737488355328:Nat)∧LN l + N1 ≤ (9223372036854775807:Nat)) (∀ (t1:Nat),(t % (1000003:Nat) = N6→t1 % (1000003:Nat) = N6)→SM x∧(t % (1000003:Nat) = N6→t1 % (1000003:Nat) = N6)∧True∧∃ (y:Nat),True∧True∧(SM x∧(LN l + N1 = LN (l ++ [b])∧(∀ (i:Nat),i < LN l + N1→appF (LN l) (fun (i:Nat) => [ZB (BI l i)]) (fun (i:Nat) => List.getD [[ZB (NI (UInt8.toNat b))]] i []) i = [ZB (BI (l ++ [b]) i)])∧t1 = y)∧True)∧t1 = y∧True)) (by kernel_rfl) ?_
  delta BI LN N1 N6 NI SM U0 ZB
  refine ⟨⟨⟨rfl,rfl,rfl⟩,trivial⟩,fun _ _ => ⟨rfl,rfl,?_⟩⟩
  rw [side_iff]
  exact ⟨by omega,fun t1 ht => ⟨rfl,ht,trivial,t1,trivial,trivial,⟨rfl,⟨by simp,app_row' rfl (fun _ _ => rfl) rfl,rfl⟩,trivial⟩,rfl,trivial⟩⟩
def sBw (f:List UInt8) (k kt x t:Nat) (l:List UInt8) (r:AEnd) (ar:List D):FnSpec where
  β := Unit
  α := Nat
  args := fun _ => .ref k x 0 :: ar
  st := fun _ => ⟨[(k,x,.bld 65 5 (bsl l (.tok kt t)))],[(kt,t)]⟩
  pre := fun _ => True
  post := fun _ _ => True
  res := fun _ _ => r
  out := fun _ t' => ⟨[(k,x,.bld 65 5 (bsl (l ++ f) (.tok kt t')))],[(kt,t')]⟩
theorem bw_of {g : Nat} {f : List UInt8} (k kt x t : Nat) {l : List UInt8} {r : AEnd} {ar : List D} (h : ACalls Tryz.prog g ((sWs f 5 x t l r ar).args ()) ((sWs f 5 x t l r ar).st ()) (SpecR (sWs f 5 x t l r ar) ())) :
    ACalls Tryz.prog g ((sBw f k kt x t l r ar).args ()) ((sBw f k kt x t l r ar).st ()) (SpecR (sBw f k kt x t l r ar) ()) := by
  refine h.respec (A' := sBw f k kt x t l r ar) (x' := ()) ?_ ?_ fun y _ => ⟨y,trivial,?_,?_⟩
  · simp [sBw,sWs,weakL,weakD,chk,weakL_refl]
  · simp [sBw,sWs,posS,posO,posT,weakO,weakD,chk,bsl,weakM,tokD]
  · simp only [sBw,sWs]; cases r <;> simp [weakEnd,weakD_refl]
  · simp [sBw,sWs,posS,posO,posT,weakO,weakD,chk,bsl,weakM,tokD]; rfl
end Go.Proofs.YtfldjfpcefcjdaaGreatDoor
namespace Go.Proofs.YtfldjfpcefcjdaaGreatDoor
open Go Go.Ab
set_option maxRecDepth 100000
theorem str_some (b g cap cs : Nat) (p : Value) (fz : Nat × Nat) (arr : Array Value) (fg : Nat × Nat) (l : List UInt8) (w : World) (h0 : l ≠ []) (hn : l.length ≤ cap) (hcs : l.length ≤ arr.size) (h63 : l.length ≤ 9223372036854775807)
    (hbk:w.heap[b]? = some (.cells #[p,.slice (some ⟨g,0,none⟩) l.length cap] cs fz)) (hg:w.heap[g]? = some (.cells arr 5 fg))
    (hcell:∀ j x,l[j]? = some x→w.cell? ⟨g,j,none⟩ = some (.int .u8 x.toNat)) :
    Calls Tryz.prog 43 #[.pointer (some ⟨b,0,none⟩)] w fun e w' => e = .returned (.string ⟨l.toArray⟩)∧w' = w.drew.freeze ⟨g,0,none⟩ l.length := by
  have hl0:l.length ≠ 0 := by simpa using h0
  have c1:w.drew.cell? ⟨b,1,none⟩ = some (.slice (some ⟨g,0,none⟩) l.length cap) := by
    have:w.drew.heap[b]? = some (.cells #[p,.slice (some ⟨g,0,none⟩) l.length cap] cs fz) := hbk
    rw [cell_of_heap this]; rfl
  have hSD:(Builtin.unsafeSliceData_ #[63] 89 #[.slice (some ⟨g,0,none⟩) l.length cap]).run Tryz.prog w.drew = .ok (.pointer (some ⟨g,0,none⟩)) w.drew :=
    Lib.run_unsafeSliceData_row _ _ _ _ _ _ (by omega)
  have hUS:(Builtin.unsafeString_ #[89,3] 9 #[.pointer (some ⟨g,0,none⟩),.int .i64 l.length]).run Tryz.prog w.drew = .ok (.string ⟨l.toArray⟩) (w.drew.freeze ⟨g,0,none⟩ l.length) := by
    refine Lib.run_unsafeString_row w.drew 89 3 9 5 Tryz.underlying89 (by kernel_rfl) g arr.size (by have hg':w.drew.heap[g]? = some (.cells arr 5 fg) := hg; simp [World.shape?,hg']) l h0 hcs h63 ?_
    intro j x hx
    have e:w.drew.cell? ⟨g,j,none⟩ = some (.int .u8 x.toNat) := hcell j x hx
    have e2:(if j = 0 then (⟨g,0,none⟩:Addr) else ⟨g,j,none⟩) = ⟨g,j,none⟩ := by split <;> simp_all
    simpa [Addr.add,e2] using e
  have mixed:Tryz.prog.follows .mixedOrders = true := by kernel_rfl
  go_enter Tryz.func43,Tryz.ntmps43
  go_wp2
  go_region_o
  all_goals (go_wp2; go_ret; exact ⟨rfl,rfl⟩)
theorem str_nil (b cs : Nat) (p : Value) (fz : Nat × Nat) (w : World) (hbk : w.heap[b]? = some (.cells #[p, .slice none 0 0] cs fz)) :
    Calls Tryz.prog 43 #[.pointer (some ⟨b,0,none⟩)] w fun e w' => e = .returned (.string ⟨#[]⟩)∧Go.RowKit.Below w.heap.size w w' := by
  have hUS:∀ W,(Builtin.unsafeString_ #[89,3] 9 #[.pointer none,.int .i64 0]).run Tryz.prog W = .ok (.string .empty) W := fun W => Lib.run_unsafeString_none W _ _ _ none
  have c1:w.drew.cell? ⟨b,1,none⟩ = some (.slice none 0 0) := by
    have:w.drew.heap[b]? = some (.cells #[p,.slice none 0 0] cs fz) := hbk
    rw [cell_of_heap this]; rfl
  have hSD:(Builtin.unsafeSliceData_ #[63] 89 #[.slice none 0 0]).run Tryz.prog w.drew = .ok (.pointer none) w.drew := Lib.run_unsafeSliceData_nil _ _ _ _ _
  have mixed:Tryz.prog.follows .mixedOrders = true := by kernel_rfl
  go_enter Tryz.func43,Tryz.ntmps43
  go_wp2
  go_region_o
  all_goals (go_wp2; go_ret; exact ⟨rfl,Go.RowKit.Below.drew (Go.RowKit.Below.refl _ w)⟩)
theorem str_room (b g cap cs : Nat) (p : Value) (fz : Nat × Nat) (w : World) (hc0 : cap ≠ 0) (hbk : w.heap[b]? = some (.cells #[p, .slice (some ⟨g, 0, none⟩) 0 cap] cs fz)) :
    Calls Tryz.prog 43 #[.pointer (some ⟨b,0,none⟩)] w fun e w' => e = .returned (.string ⟨#[]⟩)∧Go.RowKit.Below w.heap.size w w' := by
  have hUS:∀ W,(Builtin.unsafeString_ #[89,3] 9 #[.pointer (some ⟨g,0,none⟩),.int .i64 0]).run Tryz.prog W = .ok (.string .empty) W := fun W => Lib.run_unsafeString_none W _ _ _ _
  have c1:w.drew.cell? ⟨b,1,none⟩ = some (.slice (some ⟨g,0,none⟩) 0 cap) := by
    have:w.drew.heap[b]? = some (.cells #[p,.slice (some ⟨g,0,none⟩) 0 cap] cs fz) := hbk
    rw [cell_of_heap this]; rfl
  have hSD:(Builtin.unsafeSliceData_ #[63] 89 #[.slice (some ⟨g,0,none⟩) 0 cap]).run Tryz.prog w.drew = .ok (.pointer (some ⟨g,0,none⟩)) w.drew :=
    Lib.run_unsafeSliceData_row _ _ _ _ _ _ hc0
  clear hc0
  have mixed:Tryz.prog.follows .mixedOrders = true := by kernel_rfl
  go_enter Tryz.func43,Tryz.ntmps43
  go_wp2
  go_region_o
  all_goals (go_wp2; go_ret; exact ⟨rfl,Go.RowKit.Below.drew (Go.RowKit.Below.refl _ w)⟩)
theorem str_noroom (b g cs : Nat) (p : Value) (fz fg : Nat × Nat) (arr : Array Value) (E : Nat) (w : World) (hg : w.heap[g]? = some (.cells arr E fg)) (hbk : w.heap[b]? = some (.cells #[p, .slice (some ⟨g, 0, none⟩) 0 0] cs fz)) :
    Calls Tryz.prog 43 #[.pointer (some ⟨b,0,none⟩)] w fun e w' => e = .returned (.string ⟨#[]⟩)∧Go.RowKit.Below w.heap.size w w' := by
  have hUS:∀ W q,(Builtin.unsafeString_ #[89,3] 9 #[.pointer q,.int .i64 0]).run Tryz.prog W = .ok (.string .empty) W := fun W q => Lib.run_unsafeString_none W _ _ _ q
  have hb:b < w.heap.size := (Array.getElem?_eq_some_iff.1 hbk).1
  have c1:w.drew.cell? ⟨b,1,none⟩ = some (.slice (some ⟨g,0,none⟩) 0 0) := by
    have:w.drew.heap[b]? = some (.cells #[p,.slice (some ⟨g,0,none⟩) 0 0] cs fz) := hbk
    rw [cell_of_heap this]; rfl
  have c0:w.cell? ⟨b,1,none⟩ = some (.slice (some ⟨g,0,none⟩) 0 0) := c1
  have hSD:(Builtin.unsafeSliceData_ #[63] 89 #[.slice (some ⟨g,0,none⟩) 0 0]).run Tryz.prog w.drew = .ok (.pointer (some ⟨w.drew.heap.size,0,none⟩)) (w.drew.alloc (.view ⟨g,0,none⟩ 5)) :=
    Lib.run_unsafeSliceData_zero _ _ _ _ Tryz.underlying89 _ _ (E,arr.size) (by have hg':w.drew.heap[g]? = some (.cells arr E fg) := hg; simp [World.shape?,hg'])
  have hSD0:(Builtin.unsafeSliceData_ #[63] 89 #[.slice (some ⟨g,0,none⟩) 0 0]).run Tryz.prog w = .ok (.pointer (some ⟨w.heap.size,0,none⟩)) (w.alloc (.view ⟨g,0,none⟩ 5)) :=
    Lib.run_unsafeSliceData_zero _ _ _ _ Tryz.underlying89 _ _ (E,arr.size) (by simp [World.shape?,hg])
  have c2:(w.drew.alloc (.view ⟨g,0,none⟩ 5)).cell? ⟨b,1,none⟩ = some (.slice (some ⟨g,0,none⟩) 0 0) := by
    rw [World.cell?_alloc_lt _ _ _ hb]; exact c1
  have c3:(w.alloc (.view ⟨g,0,none⟩ 5)).drew.cell? ⟨b,1,none⟩ = some (.slice (some ⟨g,0,none⟩) 0 0) := c2
  have mixed:Tryz.prog.follows .mixedOrders = true := by kernel_rfl
  go_enter Tryz.func43,Tryz.ntmps43
  go_wp2
  go_region_o
  all_goals (go_wp2; go_ret; exact ⟨rfl,(Go.RowKit.Below.drew (Go.RowKit.Below.refl _ w)).alloc (Nat.le_refl _) _⟩)
theorem sat_freeze {C:Ctx} {S:St} {w:World} {g n:Nat} (H:Sat C S w) (hg:C.w0.heap.size ≤ g) (ho:∀ p ∈ S.objs,p.2.1 ≠ g) (ht:∀ t ∈ S.toks,∀ x,C.tok t.2 = some x→¬ x.clash g):Sat C S (w.freeze ⟨g,0,none⟩ n) := by
  have hne:∀ k,k ≠ g→(w.freeze ⟨g,0,none⟩ n).heap[k]? = w.heap[k]? := by
    intro k hk
    unfold World.freeze; split <;> simp [Array.getElem?_modify,Ne.symm hk]
  have hcell:∀ a,(w.freeze ⟨g,0,none⟩ n).cell? a = w.cell? a := by
    intro a
    unfold World.cell?
    by_cases e:a.block = g
    · rw [e]
      unfold World.freeze
      by_cases h0:n = 0
      · rw [if_pos h0]
      · rw [if_neg h0]
        simp only [Array.getElem?_modify,if_true]
        cases w.heap[g]? with
        | none => rfl
        | some o => cases o <;> rfl
    · rw [hne _ e]
  refine ⟨H.below.trans ⟨by unfold World.freeze; split <;> rfl,by unfold World.freeze; split <;> rfl,by unfold World.freeze; split <;> rfl,by unfold World.freeze; split <;> simp,fun k hk => hne k (by omega)⟩,fun b o v h => (hcell _).trans (H.imm b o v h),H.one,fun p hp => ?_,H.nodup,fun t htm => ?_,H.tnodup,H.tfin,H.tdist⟩
  · obtain ⟨h1,h2,h3⟩ := H.objs p hp
    exact ⟨h1,h2,h3.of_heap (hne _ (ho p hp))⟩
  · obtain ⟨x,h1,h2,h3⟩ := H.toks t htm
    exact ⟨x,h1,h2.of_heap fun b hb => hne b fun e => ht t htm x h1 (e ▸ hb),h3⟩
def sBs (k kt x t:Nat) (l:List UInt8):FnSpec where
  β := Unit
  α := Unit
  args := fun _ => [.ref k x 0]
  st := fun _ => ⟨[(k,x,.bld 65 5 (bsl l (.tok kt t)))],[(kt,t)]⟩
  pre := fun _ => True
  post := fun _ _ => True
  res := fun _ _ => .ret (.str l)
  out := fun _ _ => ⟨[],[]⟩
theorem bstr_ok (k kt x t:Nat) (l:List UInt8) (h63:l.length ≤ 9223372036854775807):ACalls Tryz.prog 43 ((sBs k kt x t l).args ()) ((sBs k kt x t l).st ()) (SpecR (sBs k kt x t l) ()) := by
  refine ⟨⟨_,Tryz.func43,by kernel_rfl,by kernel_rfl⟩,fun C F args w ha hs => ?_⟩
  obtain ⟨u,e,hu⟩ := repL_one' ha
  have e2:args = [u].toArray := by rw [← e]
  subst e2
  simp only [Rep] at hu
  subst hu
  have hg:getO ((sBs k kt x t l).st ()).objs k = some (x,.bld 65 5 (bsl l (.tok kt t))) := by simp [sBs,getO]
  obtain ⟨c1,c2,v0,v1,fz,h1,h2,h3,h4,h5⟩ := hs.obj_of hg
  have h5:tokE t = 5 + 1 := h5
  simp only [bsl,Rep] at h4
  obtain ⟨a,len,cap,rfl,hh,hr⟩ := h4
  have hlen:len = l.length := hh.1
  subst hlen
  have hF:Sat C F w := by
    have h := hs.le (S' := ⟨[],[]⟩) ⟨List.nil_sublist _,List.nil_sublist _⟩
    simpa [St.add] using h
  have fin:∀ w',Sat C F w'→∃ C' r S',C.le C'∧Sat C' (S'.add F) w'∧RepEnd C' r (.returned (.string ⟨l.toArray⟩))∧SpecR (sBs k kt x t l) () r S' := fun w' h =>
    ⟨C,.ret (.str l),⟨[],[]⟩,.refl C,h,by simp [RepEnd,Rep],(),trivial,rfl,rfl⟩
  have h6 := hh.2.2.2.2.2
  have hcap:l.length ≤ cap := hh.2.1
  simp only at h6
  have hmem:(kt,t) ∈ (((sBs k kt x t l).st ()).add F).toks := by simp [sBs,St.add]
  obtain ⟨q,q1,q2,q3⟩ := hs.toks (kt,t) hmem
  simp only at q1
  rw [q1] at h6
  cases q with
  | no =>
    simp only at h6
    have ha0:a = none := h6.2 (by rw [h5]; omega)
    subst ha0
    have hl0 := (hh.2.2.2.1 rfl)
    have hl:l = [] := List.length_eq_zero_iff.1 hl0.1
    subst hl
    obtain rfl:cap = 0 := hl0.2
    refine (str_nil x _ v0 fz w h1).mono fun e w' ⟨he,hb⟩ => ?_
    subst he
    exact fin w' (hF.kept hb)
  | «at» g n cp wd =>
    obtain ⟨rfl,rfl,rfl,rfl⟩ := h6
    obtain ⟨p1,p2,arr,E,fg,p3,p4,p5,p6⟩ := q2
    have hE:E = 5 := Nat.succ.inj ((p6 (by simp only; rw [h5]; omega)).trans h5)
    subst hE
    by_cases hl:l = []
    · subst hl
      by_cases hc:cp = 0
      · subst hc
        refine (str_noroom x g _ v0 fz fg arr _ w p3 h1).mono fun e w' ⟨he,hb⟩ => ?_
        subst he
        exact fin w' (hF.kept hb)
      · refine (str_room x g cp _ v0 fz w hc h1).mono fun e w' ⟨he,hb⟩ => ?_
        subst he
        exact fin w' (hF.kept hb)
    · refine (str_some x g cp _ v0 fz arr fg l w hl hcap (by rw [p5]; omega) h63 h1 p3 fun j y hy => ?_).mono fun e w' ⟨he,hw⟩ => ?_
      · have hj:j < l.length := (List.getElem?_eq_some_iff.1 hy).1
        have hrow := (hr ⟨g,0,none⟩ rfl j hj).2
        simp only [RepCells] at hrow
        obtain ⟨⟨v,i1,i2⟩,_⟩ := hrow
        simp only [Rep] at i2
        subst i2
        have := hs.imm _ _ _ i1
        have e:l.getD j 0 = y := by rw [List.getD_eq_getElem?_getD,hy]; rfl
        rw [e] at this
        simpa using this
      · subst he hw
        refine fin _ (sat_freeze hF.drew p1 (fun p hp e => q3 p (by simp [St.add,hp]) e.symm) fun s hs2 y hy hcl => ?_)
        cases y with
        | no => exact hcl
        | «at» b' n' c' wd' =>
          have hcl:b' = g := hcl
          have hnd := hs.tnodup
          simp only [St.add,sBs,List.cons_append,List.nil_append,List.map_cons,List.nodup_cons] at hnd
          have hne:t ≠ s.2 := fun e => hnd.1 (e ▸ List.mem_map_of_mem hs2)
          exact hs.tdist (kt,t) s _ _ _ _ _ _ _ _ hmem (by simp [St.add,hs2]) hne q1 hy hcl.symm
end Go.Proofs.YtfldjfpcefcjdaaGreatDoor
namespace Go.Proofs.YtfldjfpcefcjdaaGreatDoor
open Go Go.Ab
set_option maxRecDepth 100000
def dig (b:UInt8):Bool := decide (48 ≤ b.toNat) && decide (b.toNat ≤ 57)
def low (b:UInt8):Bool := decide (97 ≤ b.toNat) && decide (b.toNat ≤ 122)
def upp (b:UInt8):Bool := decide (65 ≤ b.toNat) && decide (b.toNat ≤ 90)
def alp (b:UInt8):Bool := low b || upp b
def aln (b:UInt8):Bool := alp b || dig b
def asc (s:String):List UInt8 := s.toUTF8.data.toList
def resL : List (List UInt8) := ["X", "Y", "F", "G", "self", "arg", "min", "max", "and", "or", "not", "shape", "reshape", "tally", "depth", "stack", "iota", "take", "drop", "first", "reverse", "rotate", "transpose", "from", "pick", "select", "amend", "up", "down", "sort", "find", "in", "unique", "where", "copy", "expand", "cut", "encode", "decode", "box", "open", "same", "kind", "ord", "chr", "format", "left", "right", "each", "swap", "outer", "inner", "rank", "power", "stencil", "atop", "over"].map asc
def sgnL : List (List UInt8) := ["+", "-", "*", "%", "|", "^", "<", "<=", "=", "~=", ">=", ">", ",", "/", "\\"].map asc
def symL : List (List UInt8) := sgnL ++ ["(", ")", "{", "}", ":", "<-"].map asc
def resB (s:List UInt8):Bool := resL.contains s || sgnL.contains s
structure Tok where
  kind:Int
  at_:Int
  len:Int
  num:Int
  text:List UInt8
deriving Inhabited,DecidableEq
def Tok.row (t:Tok):List D := [.int .i64 t.kind,.int .i64 t.at_,.int .i64 t.len,.int .i64 t.num,.str t.text]
abbrev Lex := Except (Int × Nat) (Int × Nat × Int × List UInt8)
def maxNum:Nat := 4611686018427387903
def valS:List UInt8→Nat→Option Nat
  | [],n => some n
  | b :: r,n => if n ≤ (maxNum - (b.toNat - 48)) / 10 then valS r (10 * n + (b.toNat - 48)) else none
def numT (r:List UInt8):Lex :=
  let u := if r.getD 0 0 = 95 then 1 else 0
  let ds := (r.drop u).takeWhile dig
  let nx := (r.drop (u + ds.length)).getD 0 0
  if ds = []∨(alp nx || nx == 95) = true then .error (4,0)
  else match valS ds 0 with
    | none => .error (4,0)
    | some n => .ok (1,u + ds.length,if u = 1 then -(n:Int) else n,[])
def wordT (r:List UInt8):Lex :=
  let w := r.takeWhile aln
  if resB w = true then .ok (5,w.length,0,w)
  else if w.any upp = true then .error (6,0)
  else if 32 < w.length then .error (9,0)
  else .ok (4,w.length,0,w)
def symT (r:List UInt8):Lex :=
  if symL.contains (r.take 2) = true∧2 ≤ r.length then .ok (5,2,0,r.take 2)
  else if symL.contains (r.take 1) = true then .ok (5,1,0,r.take 1)
  else .error (6,0)
def hexV (b:UInt8):Option Nat := if dig b then some (b.toNat - 48) else if decide (97 ≤ b.toNat) && decide (b.toNat ≤ 102) then some (b.toNat - 87) else none
def hexB (b:UInt8):Bool := (hexV b).isSome
def hxV:List UInt8→Nat→Nat
  | [],n => n
  | b :: r,n => hxV r (16 * n + (hexV b).getD 0)
def codeT (r:List UInt8):Option (Nat × Nat) :=
  if r.getD 0 0 = 123 then
    let ds := (r.drop 1).takeWhile hexB
    if 1 ≤ ds.length∧ds.length ≤ 6∧(r.drop (1 + ds.length)).getD 0 0 = 125∧Utf8.valid (hxV ds 0) = true then some (hxV ds 0,ds.length + 2) else none
  else none
def escT (r:List UInt8):Option (Nat × Nat) :=
  let c := r.getD 1 0
  if c = 110 then some (10,2) else if c = 116 then some (9,2) else if c = 114 then some (13,2)
  else if c = 92∨c = 39∨c = 34 then some (c.toNat,2)
  else if c = 117 then (codeT (r.drop 2)).map fun x => (x.1,x.2 + 2)
  else none
def decT (r:List UInt8):Nat × Nat := Lib.decodeN r.length (r.getD 0 0).toNat (r.getD 1 0).toNat (r.getD 2 0).toNat (r.getD 3 0).toNat
def letT (r:List UInt8):Option (Nat × Nat) :=
  if r.getD 0 0 = 92 then escT r
  else if (r.getD 0 0).toNat < 32 then none
  else if decT r = (65533,1) then none else some (decT r)
def endT (r:List UInt8):Bool := r.isEmpty || r.getD 0 0 == 10
def strGo:Nat→List UInt8→Nat→List UInt8→Lex
  | 0,_,_,_ => .error (5,0)
  | n + 1,r,p,acc =>
    if endT r = true then .error (5,0)
    else if r.getD 0 0 = 34 then .ok (3,p + 1,0,acc)
    else match letT r with
      | none => .error (3,p)
      | some (c,w) => strGo n (r.drop w) (p + w) (acc ++ (Utf8.encode c).data.toList)
def strT (r:List UInt8):Lex := strGo r.length (r.drop 1) 1 []
def charT (r:List UInt8):Lex :=
  let q := r.drop 1
  if endT q = true then .error (5,0)
  else if q.getD 0 0 = 39 then .error (3,0)
  else match letT q with
    | none => .error (3,1)
    | some (c,w) => if endT (q.drop w) = true then .error (5,0) else if (q.drop w).getD 0 0 = 39 then .ok (2,w + 2,c,[]) else .error (3,0)
def lexT (r:List UInt8):Lex :=
  let c := r.getD 0 0
  if c = 10∨c = 59 then .ok (6,1,0,[])
  else if (dig c || c == 95) = true then numT r
  else if alp c = true then wordT r
  else if c = 34 then strT r
  else if c = 39 then charT r
  else symT r
def blank (b:UInt8):Bool := b == 32 || b == 9 || b == 13
def skipM:Bool→List UInt8→Nat
  | _,[] => 0
  | true,b :: r => if b = 10 then 0 else skipM true r + 1
  | false,b :: r => if blank b = true then skipM false r + 1 else if b = 35 then skipM true r + 1 else 0
def scanGo:Nat→List UInt8→Nat→List Tok→Except (Int × Nat) (List Tok)
  | 0,_,_,l => .ok l
  | n + 1,r,p,l =>
    let k := skipM false r
    let q := r.drop k
    if q = [] then .ok l
    else match lexT q with
      | .error (e,o) => .error (e,p + k + o)
      | .ok (kd,len,num,text) =>
        if l.length = 16384 then .error (21,p + k)
        else scanGo n (q.drop len) (p + k + len) (l ++ [⟨kd,p + k,len,num,text⟩])
def scanT (s:List UInt8):Except (Int × Nat) (List Tok) := if 65536 < s.length then .error (2,0) else scanGo (s.length + 1) s 0 []
end Go.Proofs.YtfldjfpcefcjdaaGreatDoor
namespace Go.Proofs.YtfldjfpcefcjdaaGreatDoor
open Go Go.Ab
set_option maxRecDepth 100000
def amongR:List UInt8→List UInt8→Bool
  | [],_ => false
  | b :: r,s => (b == 32 && decide (s.length < r.length) && r.take s.length == s && r.getD s.length 0 == 32) || amongR r s
def amongT (t s:List UInt8):Bool := !s.isEmpty && s.all (fun b => b != 32) && amongR t s
def joinW (ws:List (List UInt8)):List UInt8 := ws.flatMap (fun w => 32 :: w) ++ [32]
theorem joinW_cons (w:List UInt8) (ws:List (List UInt8)):joinW (w :: ws) = 32 :: (w ++ joinW ws) := by simp [joinW]
theorem joinW_head (ws:List (List UInt8)):∃ r,joinW ws = 32 :: r := by
  cases ws with
  | nil => exact ⟨[],rfl⟩
  | cons w ws => exact ⟨_,joinW_cons w ws⟩
theorem amongR_skip (s r:List UInt8):∀ (w:List UInt8),(∀ b ∈ w,b ≠ 32)→amongR (w ++ r) s = amongR r s
  | [],_ => rfl
  | b :: w,h => by
    have hb:(b == 32) = false := by simpa using h b (by simp)
    simp only [List.cons_append,amongR,hb,Bool.false_and,Bool.false_or]
    exact amongR_skip s r w fun c hc => h c (by simp [hc])
theorem among_head {s w r : List UInt8} (hs : ∀ b ∈ s, b ≠ 32) (hw : ∀ b ∈ w, b ≠ 32) :
    (decide (s.length < (w ++ 32 :: r).length) && (w ++ 32 :: r).take s.length == s && (w ++ 32 :: r).getD s.length 0 == 32) = (s == w) := by
  by_cases h:s = w
  · subst h
    simp
  · have h2:(s == w) = false := by simpa using h
    rw [h2]
    by_cases h3:(w ++ 32 :: r).take s.length = s
    · by_cases h4:(w ++ 32 :: r).getD s.length 0 = 32
      · exfalso
        rcases Nat.lt_trichotomy s.length w.length with hl | hl | hl
        · rw [List.getD_eq_getElem?_getD,List.getElem?_append_left hl,List.getElem?_eq_getElem hl] at h4
          exact hw _ (List.getElem_mem hl) h4
        · rw [hl,List.take_left] at h3
          exact h h3.symm
        · have:(32:UInt8) ∈ s := by
            rw [← h3]
            have:s.length = w.length + (s.length - w.length - 1 + 1) := by omega
            rw [this,List.take_append]
            simp
          exact hs _ this rfl
      · have h4:((w ++ 32 :: r).getD s.length 0 == 32) = false := by simpa using h4
        rw [h4,Bool.and_false]
    · have h3:((w ++ 32 :: r).take s.length == s) = false := by simpa using h3
      rw [h3,Bool.and_false,Bool.false_and]
theorem amongR_words {s:List UInt8} (hs:∀ b ∈ s,b ≠ 32):∀ (ws:List (List UInt8)),(∀ w ∈ ws,∀ b ∈ w,b ≠ 32)→amongR (joinW ws) s = ws.contains s
  | [],_ => by simp [joinW,amongR]
  | w :: ws,h => by
    obtain ⟨r,hr⟩ := joinW_head ws
    have ih := amongR_words hs ws fun v hv => h v (by simp [hv])
    rw [joinW_cons]
    simp only [amongR,beq_self_eq_true,Bool.true_and,List.contains_cons]
    rw [amongR_skip s _ w (h w (by simp)),ih]
    congr 1
    rw [hr]
    exact among_head hs (h w (by simp))
theorem amongT_words {s:List UInt8} (ws:List (List UInt8)) (h:(ws.all fun w => !w.isEmpty && w.all fun b => b != 32) = true):amongT (joinW ws) s = ws.contains s := by
  have h1:∀ w ∈ ws,w ≠ []∧∀ b ∈ w,b ≠ 32 := fun w hw => by
    have := List.all_eq_true.1 h w hw
    simp only [Bool.and_eq_true,Bool.not_eq_true',List.isEmpty_eq_false_iff,List.all_eq_true,bne_iff_ne] at this
    exact this
  unfold amongT
  cases he:s.isEmpty with
  | true =>
    have:s = [] := List.isEmpty_iff.1 he
    subst this
    cases hc:ws.contains [] with
    | false => rfl
    | true => exact ((h1 [] (by simpa using hc)).1 rfl).elim
  | false =>
    cases ha:s.all fun b => b != 32 with
    | false =>
      cases hc:ws.contains s with
      | false => rfl
      | true =>
        have := (h1 s (by simpa using hc)).2
        rw [List.all_eq_false] at ha
        obtain ⟨b,hb,hb2⟩ := ha
        exact (this b hb (by simpa using hb2)).elim
    | true =>
      simp only [Bool.not_false,Bool.true_and]
      exact amongR_words (fun b hb => by simpa using List.all_eq_true.1 ha b hb) ws fun w hw => (h1 w hw).2
def refWords : List UInt8 := asc " X Y F G self arg min max and or not shape reshape tally depth stack iota take drop first reverse rotate transpose from pick select amend up down sort find in unique where copy expand cut encode decode box open same kind ord chr format left right each swap outer inner rank power stencil atop over "
def refNames : List UInt8 := asc " + - * % | ^ < <= = ~= >= > , / \\ "
def refSigns : List UInt8 := asc " ( ) { } : <- "
theorem refWords_eq:refWords = joinW resL := by decide +kernel
theorem refNames_eq:refNames = joinW sgnL := by decide +kernel
theorem refSigns_eq : refSigns = joinW (["(", ")", "{", "}", ":", "<-"].map asc) := by decide +kernel
theorem among_words (s:List UInt8):amongT refWords s = resL.contains s := by rw [refWords_eq]; exact amongT_words _ (by decide +kernel)
theorem among_names (s:List UInt8):amongT refNames s = sgnL.contains s := by rw [refNames_eq]; exact amongT_words _ (by decide +kernel)
theorem among_signs (s : List UInt8) : amongT refSigns s = ((["(", ")", "{", "}", ":", "<-"].map asc).contains s) := by rw [refSigns_eq]; exact amongT_words _ (by decide +kernel)
end Go.Proofs.YtfldjfpcefcjdaaGreatDoor
namespace Go.Proofs.YtfldjfpcefcjdaaGreatDoor
open Go Go.Ab
set_option maxRecDepth 100000
def sep (b:UInt8):Prop := b = 10∨b = 32
theorem gd_ge {r:List UInt8} {k:Nat} (h:r.length ≤ k):r.getD k 0 = 0 := by
  simp [List.getD_eq_getElem?_getD,List.getElem?_eq_none h]
theorem tw_len (p:UInt8→Bool) (r:List UInt8):(r.takeWhile p).length ≤ r.length := (List.takeWhile_sublist p).length_le
theorem dec_len {r:List UInt8} (h:r ≠ []):1 ≤ (decT r).2∧(decT r).2 ≤ r.length := by
  have h1:1 ≤ r.length := List.length_pos_iff.2 h
  unfold decT Lib.decodeN
  repeat' split
  all_goals simp only <;> omega
theorem code_len {r:List UInt8} {c w:Nat} (h:codeT r = some (c,w)):1 ≤ w∧w ≤ r.length := by
  unfold codeT at h
  split at h
  · simp only at h
    split at h
    · rename_i hc
      obtain ⟨h1,h2,h3,_⟩ := hc
      injection h with h; injection h with ha hb
      have:1 + ((r.drop 1).takeWhile hexB).length < r.length := by
        refine Nat.lt_of_not_le fun hle => ?_
        rw [List.drop_eq_nil_of_le hle] at h3
        exact absurd h3 (by decide)
      omega
    · cases h
  · cases h
theorem esc_len {r:List UInt8} {c w:Nat} (h:escT r = some (c,w)):1 ≤ w∧w ≤ r.length := by
  have h2:2 ≤ r.length := by
    refine Nat.le_of_not_lt fun hlt => ?_
    have:r.getD 1 0 = 0 := gd_ge (by omega)
    have h0:escT r = none := by
      unfold escT
      simp only [this]
      rfl
    rw [h0] at h
    cases h
  unfold escT at h
  simp only at h
  repeat' split at h
  all_goals first
    | (injection h with h; injection h with ha hb; omega)
    | cases h
    | skip
  cases hc:codeT (r.drop 2) with
  | none => rw [hc] at h; cases h
  | some x =>
    rw [hc] at h
    injection h with h; injection h with ha hb
    have := code_len (c := x.1) (w := x.2) hc
    rw [List.length_drop] at this
    omega
theorem let_len {r:List UInt8} {c w:Nat} (hr:r ≠ []) (h:letT r = some (c,w)):1 ≤ w∧w ≤ r.length := by
  unfold letT at h
  split at h
  · exact esc_len h
  · split at h
    · cases h
    · split at h
      · cases h
      · injection h with h
        have := dec_len hr
        rw [h] at this
        exact this
end Go.Proofs.YtfldjfpcefcjdaaGreatDoor
namespace Go.Proofs.YtfldjfpcefcjdaaGreatDoor
open Go Go.Ab
set_option maxRecDepth 100000
def LenB (r:List UInt8):Lex→Prop
  | .ok (_,len,_,_) => 1 ≤ len∧len ≤ r.length
  | .error (_,o) => o ≤ r.length
theorem num_len {r:List UInt8} (h:r ≠ []):LenB r (numT r) := by
  have h1:1 ≤ r.length := List.length_pos_iff.2 h
  unfold numT
  generalize hu:(if r.getD 0 0 = 95 then 1 else 0) = u
  have hu1:u ≤ r.length := by split at hu <;> omega
  simp only
  have hl := tw_len dig (r.drop u)
  rw [List.length_drop] at hl
  split
  · exact Nat.zero_le _
  · rename_i hc
    have hd:((r.drop u).takeWhile dig) ≠ [] := fun e => hc (.inl e)
    have hd1 := List.length_pos_iff.2 hd
    split
    · exact Nat.zero_le _
    · exact ⟨by omega,by omega⟩
theorem word_len {r:List UInt8} (h:r ≠ []) (ha:aln (r.getD 0 0) = true):LenB r (wordT r) := by
  have hl := tw_len aln r
  have h1:1 ≤ (r.takeWhile aln).length := by
    match r,h with
    | c :: r,_ =>
      have ha:aln c = true := ha
      simp [ha]
  unfold wordT
  simp only
  repeat' split
  all_goals first | exact ⟨h1,hl⟩ | exact Nat.zero_le _
theorem sym_len {r:List UInt8} (h:r ≠ []):LenB r (symT r) := by
  have h1:1 ≤ r.length := List.length_pos_iff.2 h
  unfold symT
  split
  · rename_i hc
    exact ⟨by omega,hc.2⟩
  · split
    · exact ⟨Nat.le_refl _,h1⟩
    · exact Nat.zero_le _
def LenS (q:List UInt8) (p:Nat):Lex→Prop
  | .ok (_,len,_,_) => p + 1 ≤ len∧len ≤ p + q.length
  | .error (_,o) => o ≤ p + q.length
theorem str_len:∀ (n:Nat) (q:List UInt8) (p:Nat) (acc:List UInt8),LenS q p (strGo n q p acc)
  | 0,_,_,_ => Nat.zero_le _
  | n + 1,q,p,acc => by
    simp only [strGo]
    cases hend:endT q with
    | true => exact Nat.zero_le _
    | false =>
      have hq:q ≠ [] := fun e => by subst e; cases hend
      have hql:0 < q.length := List.length_pos_iff.2 hq
      simp only [Bool.false_eq_true,if_false]
      by_cases h34:q.getD 0 0 = 34
      · rw [if_pos h34]; exact ⟨Nat.le_refl _,by omega⟩
      · rw [if_neg h34]
        cases hlt:letT q with
        | none => exact Nat.le_add_right _ _
        | some x =>
          obtain ⟨c,w⟩ := x
          obtain ⟨l1,l2⟩ := let_len hq hlt
          have ih := str_len n (q.drop w) (p + w) (acc ++ (Utf8.encode c).data.toList)
          simp only
          revert ih
          generalize strGo n (q.drop w) (p + w) (acc ++ (Utf8.encode c).data.toList) = z
          intro ih
          unfold LenS at ih ⊢
          split <;> (simp only [List.length_drop] at ih; omega)
theorem char_len {r:List UInt8} (h:r ≠ []):LenB r (charT r) := by
  have h1:1 ≤ r.length := List.length_pos_iff.2 h
  unfold charT
  have hq:(r.drop 1).length = r.length - 1 := by rw [List.length_drop]
  generalize r.drop 1 = q at hq ⊢
  simp only
  cases hend:endT q with
  | true => exact Nat.zero_le _
  | false =>
    have hqn:q ≠ [] := fun e => by subst e; cases hend
    simp only [Bool.false_eq_true,if_false]
    split
    · exact Nat.zero_le _
    · split
      · exact h1
      · rename_i c w hlt
        obtain ⟨l1,l2⟩ := let_len hqn hlt
        split
        · exact Nat.zero_le _
        · rename_i hnd
          split
          · have:w < q.length := Nat.lt_of_not_le fun hle => hnd (by rw [List.drop_eq_nil_of_le hle]; rfl)
            exact ⟨by omega,by omega⟩
          · exact Nat.zero_le _
theorem lex_len {r:List UInt8} (h:r ≠ []):LenB r (lexT r) := by
  have h1:1 ≤ r.length := List.length_pos_iff.2 h
  unfold lexT
  simp only
  split
  · exact ⟨Nat.le_refl _,h1⟩
  split
  · exact num_len h
  split
  · rename_i ha
    exact word_len h (by unfold aln; rw [ha]; rfl)
  split
  · have := str_len r.length (r.drop 1) 1 []
    unfold strT
    revert this
    generalize strGo r.length (r.drop 1) 1 [] = z
    intro ih
    unfold LenS at ih
    unfold LenB
    split <;> (simp only [List.length_drop] at ih; omega)
  split
  · exact char_len h
  · exact sym_len h
end Go.Proofs.YtfldjfpcefcjdaaGreatDoor
namespace Go.Proofs.YtfldjfpcefcjdaaGreatDoor
open Go Go.Ab
set_option maxRecDepth 100000
theorem skip_le:∀ (b:Bool) (r:List UInt8),skipM b r ≤ r.length
  | true,[] => Nat.le_refl _
  | false,[] => Nat.le_refl _
  | true,c :: r => by
    simp only [skipM,List.length_cons]
    have := skip_le true r
    split <;> omega
  | false,c :: r => by
    simp only [skipM,List.length_cons]
    have := skip_le true r
    have := skip_le false r
    repeat' split
    all_goals omega
end Go.Proofs.YtfldjfpcefcjdaaGreatDoor
namespace Go.Proofs.YtfldjfpcefcjdaaGreatDoor
open Go Go.Ab
set_option maxRecDepth 100000
def plainB (w:List UInt8):Bool := !w.isEmpty && low (w.getD 0 0) && w.all fun b => low b || dig b
theorem take_tw (p:UInt8→Bool):∀ r:List UInt8,r.take (r.takeWhile p).length = r.takeWhile p
  | [] => rfl
  | c :: r => by
    simp only [List.takeWhile_cons]
    cases p c with
    | false => rfl
    | true => simp [take_tw p r]
theorem tw_all (p:UInt8→Bool):∀ (r:List UInt8) (b:UInt8),b ∈ r.takeWhile p→p b = true
  | [],_,h => by simp at h
  | c :: r,b,h => by
    simp only [List.takeWhile_cons] at h
    cases hc:p c with
    | false => rw [hc] at h; simp at h
    | true =>
      rw [hc] at h
      simp only [if_true,List.mem_cons] at h
      rcases h with rfl | h
      · exact hc
      · exact tw_all p r b h
end Go.Proofs.YtfldjfpcefcjdaaGreatDoor
namespace Go.Proofs.YtfldjfpcefcjdaaGreatDoor
open Go Go.Ab
set_option maxRecDepth 100000
theorem itoa_ok (n:Int) (h:inI64 n):ACalls Tryz.prog 58 [.int .i64 n] ⟨[],[]⟩ (SpecR (sC [.int .i64 n] (.str (Lib.itoa n))) ()) := by
  refine ACalls.of_shelf_g ⟨_,Tryz.func58,by kernel_rfl,by kernel_rfl⟩ fun C args w ha hG hb => ?_
  obtain ⟨u,e,hu⟩ := repL_one' ha
  have e2:args = [u].toArray := by rw [← e]
  subst e2
  simp only [Rep] at hu; subst hu
  have := Tryz.strconv_Itoa n h.1 h.2 w (var_below hG.1 hb)
  exact this.mono fun e w' ⟨h1,k,os,h2⟩ => ⟨⟨_,h1,by simp [Rep]⟩,by subst h2; exact Lib.below_grow _ _ (Nat.le_refl _) _ _⟩
def conIt:Con := fun k ds _ => match k with
  | 58 => match ds with
    | [.int .i64 n] => some (pC [.int .i64 n] (.str (Lib.itoa n)) (inI64 n))
    | _ => none
  | _ => none
theorem conIt_ok:ConOk Tryz.prog conIt := by
  intro k ds S A h
  unfold conIt at h
  split at h
  · split at h
    · injection h with h; subst h
      exact pC_ok fun h1 => ⟨weakL_refl _,itoa_ok _ h1⟩
    · cases h
  · cases h
theorem itoa_len {n:Int} (h:inI64 n):1 ≤ (Lib.itoa n).length∧(Lib.itoa n).length ≤ 21 := by
  have k:∀ u,u < 18446744073709551616→1 ≤ (Lib.decDigits u).length∧(Lib.decDigits u).length ≤ 20 := fun u hu => by
    rw [Lib.decDigits_length]; exact ⟨Lib.nDigits_pos u,Lib.nDigits_le20 u hu⟩
  unfold inI64 at h
  unfold Lib.itoa
  split
  · have := k n.natAbs (by omega); simp only [List.length_cons]; omega
  · have := k n.toNat (by omega); omega
theorem dec_first:∀ u,48 ≤ ((Lib.decDigits u).getD 0 0).toNat∧((Lib.decDigits u).getD 0 0).toNat ≤ 57
  | u => by
    rw [Lib.decDigits]
    by_cases hu:u < 10
    · rw [dif_pos hu,List.getD_cons_zero,UInt8.toNat_ofNat']; omega
    · rw [dif_neg hu]
      have := dec_first (u / 10)
      have hl:1 ≤ (Lib.decDigits (u / 10)).length := by rw [Lib.decDigits_length]; exact Lib.nDigits_pos _
      rw [List.getD_eq_getElem?_getD,List.getElem?_append_left (l₁ := Lib.decDigits (u / 10)) (i := 0) (by omega),← List.getD_eq_getElem?_getD]
      exact this
termination_by u => u
decreasing_by omega
theorem itoa_sign {n:Int} (_:inI64 n) (e:(((Lib.itoa n).getD 0 0).toNat:Int) = 45):n < 0 := by
  unfold Lib.itoa at e
  split at e
  · assumption
  · have := dec_first n.toNat
    omega
def showI (n:Int):List UInt8 := if n < 0 then 95 :: Lib.decDigits n.natAbs else Lib.decDigits n.toNat
noncomputable def Esh (_n:Int):Senv := EC conIt 13 1 [2,3,8] (fun _ => ([],[]))
noncomputable section
def fm1q0 (p0:Int):List UInt8 := List.drop N1 (List.take (TL (Lib.itoa p0)) (Lib.itoa p0))
end
theorem show_ok (n:Int) (h:inI64 n):ACalls Tryz.prog 37 [.int .i64 n] ⟨[],[]⟩ (SpecR (sC [.int .i64 n] (.str (showI n))) ()) := by
  refine con_of (A := sC _ _) (x := ()) (E := Esh n) (eOk conIt_ok rfl) Tryz.func37 rfl (by kernel_rfl) rfl (by simp [sC,Esh,EC,E0]) ?_
  refine vc_eq (T :=
    inI64 n∧∀ (y:Unit),True→side (Z0 ≤ Z0∧Z0 < (LI (Lib.itoa n))) (ifB ((BI (Lib.itoa n) N0) == (45:Int)) (side (Z0 ≤ Z1∧Z1 ≤ (LI (Lib.itoa n))∧(LI (Lib.itoa n)) ≤ (LI (Lib.itoa n))) (side (N1 + LN (fm1q0 n) ≤ (9223372036854775807:Nat)) (True∧∃ (y:Unit),True∧(95:UInt8) :: List.append [] (fm1q0 n) = showI n∧True∧True))) (True∧∃ (y:Unit),True∧Lib.itoa n = showI n∧True∧True))) (by kernel_rfl) ?_
  delta BI LI LN N0 N1 TL U0 Z0 Z1 fm1q0
  refine ⟨h,fun _ _ => ?_⟩
  have hl := itoa_len h
  rw [side_iff]
  refine ⟨by omega,?_⟩
  simp only [side_iff,ifB_iff,beq_iff_eq,beq_eq_false_iff_ne,Int.toNat_natCast,List.take_length,true_and,and_true,exists_const]
  refine ⟨fun e => ⟨by omega,?_,?_⟩,fun e => ?_⟩
  · rw [List.length_drop]; omega
  · have hn:n < 0 := itoa_sign h (by omega)
    simp only [showI,Lib.itoa,if_pos hn]; rfl
  · have hn:¬ n < 0 := fun hn => by
      have:((Lib.itoa n).getD 0 0).toNat = 45 := by simp [Lib.itoa,if_pos hn]
      have e:¬ (((Lib.itoa n).getD 0 0).toNat:Int) = 45 := by simpa using e
      omega
    simp only [showI,Lib.itoa,if_neg hn]
theorem tdiv10 (n:Int):n.tdiv 10 = if n < 0 then -((n.natAbs / 10:Nat):Int) else ((n.natAbs / 10:Nat):Int) := by
  cases n with
  | ofNat k => rw [if_neg (by simp)]; rfl
  | negSucc k => rw [if_pos (Int.negSucc_lt_zero k)]; rfl
def conNu:Con := fun k ds S => match k with
  | 37 => match ds with
    | [.int .i64 n] => some (pC [.int .i64 n] (.str (showI n)) (inI64 n))
    | _ => none
  | k => conIt k ds S
theorem conNu_ok:ConOk Tryz.prog conNu := by
  intro k ds S A h
  unfold conNu at h
  split at h
  · split at h
    · injection h with h; subst h
      exact pC_ok fun h1 => ⟨weakL_refl _,show_ok _ h1⟩
    · cases h
  · exact conIt_ok _ _ _ _ h
end Go.Proofs.YtfldjfpcefcjdaaGreatDoor
namespace Go.Proofs.YtfldjfpcefcjdaaGreatDoor
open Go Go.Ab
set_option maxRecDepth 100000
def digU (k:Nat):UInt8 := [48,49,50,51,52,53,54,55,56,57,97,98,99,100,101,102].getD k 0
def hexN (n:Nat):List UInt8 := if n < 16 then [digU n] else [digU (n / 16),digU (n % 16)]
def utf8 (c:Int):List UInt8 := (Utf8.encode c).data.toList
def escB (c q:Int):List UInt8 :=
  if c = 10 then [92,110] else if c = 9 then [92,116] else if c = 13 then [92,114] else if c = 92∨c = q then 92 :: utf8 c
  else if c < 32∨c = 127 then [92,117,123] ++ hexN c.toNat ++ [125] else utf8 c
def escL (q:Int) (l:List Int):List UInt8 := l.flatMap fun c => escB c q
def quoB (q:Int) (l:List Int):List UInt8 := utf8 q ++ escL q l ++ utf8 q
theorem utf8_len (c:Int):(utf8 c).length ≤ 4 := by
  have : ∀ c : Nat, ((if c < 0x80 then ⟨#[UInt8.ofNat c]⟩
      else if c < 0x800 then ⟨#[UInt8.ofNat (0xC0 + c / 64),UInt8.ofNat (0x80 + c % 64)]⟩
      else if c < 0x10000 then ⟨#[UInt8.ofNat (0xE0 + c / 4096),UInt8.ofNat (0x80 + c / 64 % 64),UInt8.ofNat (0x80 + c % 64)]⟩
      else ⟨#[UInt8.ofNat (0xF0 + c / 262144),UInt8.ofNat (0x80 + c / 4096 % 64),UInt8.ofNat (0x80 + c / 64 % 64),UInt8.ofNat (0x80 + c % 64)]⟩:ByteArray).data.toList).length ≤ 4 := fun c => by
    (repeat' split) <;> simp
  exact this _
theorem hexN_len (n:Nat):(hexN n).length ≤ 2 := by unfold hexN; split <;> simp
theorem escB_len (c q:Int):(escB c q).length ≤ 6 := by
  have h1 := utf8_len c
  have h2 := hexN_len c.toNat
  unfold escB
  (repeat' split) <;> (try simp only [List.length_cons,List.length_nil,List.length_append]) <;> omega
end Go.Proofs.YtfldjfpcefcjdaaGreatDoor
namespace Go.Proofs.YtfldjfpcefcjdaaGreatDoor
open Go Go.Ab
set_option maxRecDepth 100000
def runeP (c:Nat):Prop := c < 55296∨(57344 ≤ c∧c ≤ 1114111)
theorem runeP_valid {c:Nat}:Utf8.valid (c:Int) = true↔runeP c := by
  unfold Utf8.valid runeP
  simp only [Bool.or_eq_true,Bool.and_eq_true,decide_eq_true_eq]
  omega
def enc4 (c:Nat):List UInt8 :=
  if c < 128 then [UInt8.ofNat c]
  else if c < 2048 then [UInt8.ofNat (192 + c / 64),UInt8.ofNat (128 + c % 64)]
  else if c < 65536 then [UInt8.ofNat (224 + c / 4096),UInt8.ofNat (128 + c / 64 % 64),UInt8.ofNat (128 + c % 64)]
  else [UInt8.ofNat (240 + c / 262144),UInt8.ofNat (128 + c / 4096 % 64),UInt8.ofNat (128 + c / 64 % 64),UInt8.ofNat (128 + c % 64)]
theorem utf8_enc {c:Nat} (h:runeP c):utf8 (c:Int) = enc4 c := by
  unfold utf8 Utf8.encode enc4
  rw [if_pos (runeP_valid.2 h)]
  simp only [Int.toNat_natCast]
  repeat' split
  all_goals rfl
theorem byteN (n:Nat) (h:n < 256):(UInt8.ofNat n).toNat = n := by rw [UInt8.toNat_ofNat']; omega
end Go.Proofs.YtfldjfpcefcjdaaGreatDoor
namespace Go.Proofs.YtfldjfpcefcjdaaGreatDoor
open Go Go.Ab
set_option maxRecDepth 100000
def runesF:Nat→List UInt8→List Nat
  | 0,_ => []
  | n + 1,r => if r = [] then [] else (decT r).1 :: runesF n (r.drop (decT r).2)
def validF:Nat→List UInt8→Bool
  | 0,_ => true
  | n + 1,r => if r = [] then true else if decT r = (65533,1) then false else validF n (r.drop (decT r).2)
def runesL (r:List UInt8):List Nat := runesF r.length r
def validL (r:List UInt8):Bool := validF r.length r
def showTok (t:Tok):List UInt8 :=
  if t.kind = 1 then (if t.num.natAbs ≤ maxNum then showI t.num else [])
  else if t.kind = 2 then (if 0 ≤ t.num∧Utf8.valid t.num = true then quoB 39 [t.num] else [])
  else if t.kind = 3 then (if validL t.text = true then quoB 34 ((runesL t.text).map Int.ofNat) else [])
  else if t.kind = 4∨t.kind = 5 then t.text
  else if t.kind = 6 then [59]
  else []
theorem runesF_nil (n:Nat):runesF n [] = [] := by cases n <;> simp only [runesF,if_true]
theorem runesF_step {n:Nat} {r:List UInt8} (h:r ≠ []):runesF (n + 1) r = (decT r).1 :: runesF n (r.drop (decT r).2) := by simp only [runesF]; rw [if_neg h]
theorem validF_step {n:Nat} {r:List UInt8} (h:r ≠ []):validF (n + 1) r = if decT r = (65533,1) then false else validF n (r.drop (decT r).2) := by simp only [validF]; rw [if_neg h]
theorem dec_rune {r:List UInt8} (h:decT r ≠ (65533,1)):runeP (decT r).1 := by
  revert h
  unfold decT runeP Lib.decodeN
  repeat' split
  all_goals (intro h; simp only at h ⊢; first | omega | exact (h rfl).elim)
theorem code_rune {r:List UInt8} {c w:Nat} (h:codeT r = some (c,w)):runeP c := by
  unfold codeT at h
  split at h
  · simp only at h
    split at h
    · rename_i hc
      injection h with h; injection h with ha hb
      rw [← ha]
      exact runeP_valid.1 hc.2.2.2
    · cases h
  · cases h
theorem esc_rune {r:List UInt8} {c w:Nat} (h:escT r = some (c,w)):runeP c := by
  unfold escT at h
  simp only at h
  split at h
  · injection h with h; injection h with ha hb; rw [← ha]; exact .inl (by decide)
  split at h
  · injection h with h; injection h with ha hb; rw [← ha]; exact .inl (by decide)
  split at h
  · injection h with h; injection h with ha hb; rw [← ha]; exact .inl (by decide)
  split at h
  · injection h with h; injection h with ha hb
    have := (r.getD 1 0).toNat_lt
    exact .inl (by omega)
  split at h
  · cases hc:codeT (r.drop 2) with
    | none => rw [hc] at h; cases h
    | some x =>
      rw [hc] at h
      injection h with h; injection h with ha hb
      rw [← ha]
      exact code_rune (c := x.1) (w := x.2) hc
  · cases h
theorem let_rune {r:List UInt8} {c w:Nat} (h:letT r = some (c,w)):runeP c := by
  unfold letT at h
  split at h
  · exact esc_rune h
  split at h
  · cases h
  split at h
  · cases h
  · rename_i hd
    injection h with h
    have := dec_rune hd
    rw [h] at this
    exact this
end Go.Proofs.YtfldjfpcefcjdaaGreatDoor
namespace Go.Proofs.YtfldjfpcefcjdaaGreatDoor
open Go Go.Ab
set_option maxRecDepth 100000
theorem valS_app:∀ (a b:List UInt8) (n:Nat),valS (a ++ b) n = (valS a n).bind (valS b)
  | [],_,_ => rfl
  | x :: a,b,n => by
    simp only [List.cons_append,valS]
    split
    · exact valS_app a b _
    · rfl
end Go.Proofs.YtfldjfpcefcjdaaGreatDoor
namespace Go.Proofs.YtfldjfpcefcjdaaGreatDoor
open Go Go.Ab
set_option maxRecDepth 100000
theorem enc_dec {r:List UInt8} (h:r ≠ []) (hv:decT r ≠ (65533,1)):utf8 ((decT r).1:Int) = r.take (decT r).2 := by
  have hr := dec_rune hv
  have hl:0 < r.length := List.length_pos_iff.2 h
  rw [utf8_enc hr]
  have k0 := (r.getD 0 0).toNat_lt
  have k1 := (r.getD 1 0).toNat_lt
  have k2 := (r.getD 2 0).toNat_lt
  have k3 := (r.getD 3 0).toNat_lt
  have tb:∀ (z:Nat) (x:UInt8),z = x.toNat→UInt8.ofNat z = x := fun z x e => by subst e; simp
  revert hv
  unfold decT enc4
  rcases Lib.decodeN_shape r.length (r.getD 0 0).toNat (r.getD 1 0).toNat (r.getD 2 0).toNat (r.getD 3 0).toNat with ⟨c,e⟩ | ⟨c1,c2,c3,cv,e⟩ | ⟨c1,c2,c3,c4,cv,cs,e⟩ | ⟨c1,c2,c3,c4,c5,cv,cw,e⟩ | e
  · rw [e]
    intro _
    dsimp only
    rw [if_pos c,Lib.takeA r hl,tb _ _ rfl]
  · rw [e]
    intro _
    dsimp only
    rw [if_neg (by omega),if_pos (by omega),Lib.takeB r c2,tb _ (r.getD 0 0) (by omega),tb _ (r.getD 1 0) (by omega)]
  · rw [e]
    intro _
    dsimp only
    rw [if_neg (by omega),if_neg (by omega),if_pos (by omega),Lib.takeC r c2,tb _ (r.getD 0 0) (by omega),tb _ (r.getD 1 0) (by omega),tb _ (r.getD 2 0) (by omega)]
  · rw [e]
    intro _
    dsimp only
    rw [if_neg (by omega),if_neg (by omega),if_neg (by omega),Lib.takeD r c2,tb _ (r.getD 0 0) (by omega),tb _ (r.getD 1 0) (by omega),tb _ (r.getD 2 0) (by omega),tb _ (r.getD 3 0) (by omega)]
  · rw [e]
    intro hv
    exact (hv rfl).elim
end Go.Proofs.YtfldjfpcefcjdaaGreatDoor
namespace Go.Proofs.YtfldjfpcefcjdaaGreatDoor
open Go Go.Ab
set_option maxRecDepth 100000
theorem dec_take (r:List UInt8):decT (r.take 4) = decT r := by
  unfold decT
  match r with
  | [] => rfl
  | [a] => rfl
  | [a,b] => rfl
  | [a,b,c] => rfl
  | a :: b :: c :: d :: x =>
    simp only [List.take_succ_cons,List.take_zero,List.length_cons,List.length_nil,List.getD_cons_zero,List.getD_cons_succ]
    unfold Lib.decodeN
    have e1:∀ k,(1 < k + 1 + 1 + 1 + 1) = True := fun k => by simp
    have e2:∀ k,(2 < k + 1 + 1 + 1 + 1) = True := fun k => by simp
    have e3:∀ k,(3 < k + 1 + 1 + 1 + 1) = True := fun k => by simp
    simp only [e1,e2,e3]
theorem utf8_err:utf8 (65533:Int) = [239,191,189] := rfl
theorem let_ref {r : List UInt8} (h : r ≠ []) :
    ((utf8 ((decT r).1:Int)).length ≤ r.length∧r.take (utf8 ((decT r).1:Int)).length = utf8 ((decT r).1:Int))↔decT r ≠ (65533,1) := by
  constructor
  · rintro ⟨h1,h2⟩ e
    rw [e] at h1 h2
    simp only at h1 h2
    rw [show ((65533:Nat):Int) = 65533 from rfl,utf8_err] at h1 h2
    match r,h1 with
    | a :: b :: c :: x,_ =>
      simp only [List.length_cons,List.length_nil,List.take_succ_cons,List.take_zero,List.cons.injEq,and_true] at h2
      obtain ⟨rfl,rfl,rfl⟩ := h2
      unfold decT at e
      simp only [List.length_cons,List.getD_cons_zero,List.getD_cons_succ] at e
      revert e
      unfold Lib.decodeN
      have e1:∀ k,(1 < k + 1 + 1 + 1) = True := fun k => by simp
      have e2:∀ k,(2 < k + 1 + 1 + 1) = True := fun k => by simp
      simp [e1,e2]
    | [a,b],h1 => exact absurd h1 (by simp)
    | [a],h1 => exact absurd h1 (by simp)
  · intro e
    have he := enc_dec h e
    obtain ⟨l1,l2⟩ := dec_len h
    rw [he,List.length_take]
    have:min (decT r).2 r.length = (decT r).2 := by omega
    rw [this]
    exact ⟨l2,rfl⟩
theorem let_ref_eq {r:List UInt8} (h:r ≠ []) (e:decT r ≠ (65533,1)):(utf8 ((decT r).1:Int)).length = (decT r).2 := by
  obtain ⟨l1,l2⟩ := dec_len h
  rw [enc_dec h e,List.length_take]
  omega
theorem runes_head {r:List UInt8} (h:r ≠ []):(runesL r).getD 0 0 = (decT r).1 := by
  unfold runesL
  match hl:r.length,List.length_pos_iff.2 h with
  | n + 1,_ => rw [runesF_step h]; rfl
end Go.Proofs.YtfldjfpcefcjdaaGreatDoor
namespace Go.Proofs.YtfldjfpcefcjdaaGreatDoor
open Go Go.Ab
set_option maxRecDepth 100000
def ssl (l:List (List UInt8)) (m:Ab.Mode):D := .sl 1 l.length (fun i => [.str (l.getD i [])]) m
theorem join_ok (l : List (List UInt8)) (sep : List UInt8) (hl : l.length ≤ 140737488355328) (hj : (Lib.join l sep).length ≤ 140737488355328) :
    ACalls Tryz.prog 17 [ssl l .any,.str sep] ⟨[],[]⟩ (SpecR (sC [ssl l .any,.str sep] (.str (Lib.join l sep))) ()) := by
  refine ⟨⟨_,Tryz.func17,by kernel_rfl,by kernel_rfl⟩,fun C F args w ha hs => ?_⟩
  obtain ⟨u,v,e,hu,hv⟩ := repL_two' ha
  have e2:args = [u,v].toArray := by rw [← e]
  subst e2
  simp only [Rep] at hv; subst hv
  simp only [ssl,Rep] at hu
  obtain ⟨a,len,cap,rfl,hh,hr⟩ := hu
  have hlen:len = l.length := hh.1
  subst hlen
  have hF:Sat C F w := by simpa [St.add] using hs
  have fin:∀ w' e,e = Ending.returned (.string ⟨(Lib.join l sep).toArray⟩)→Go.RowKit.Below w.heap.size w w'→∃ C' r S',C.le C'∧Sat C' (S'.add F) w'∧RepEnd C' r e∧SpecR (sC [ssl l .any,.str sep] (.str (Lib.join l sep))) () r S' := fun w' e he h =>
    ⟨C,.ret (.str (Lib.join l sep)),⟨[],[]⟩,.refl C,by simpa [St.add] using hF.kept h,by subst he; simp [RepEnd,Rep],(),trivial,rfl,rfl⟩
  by_cases h0:l = []
  · subst h0
    refine (Tryz.strings_Join_none a cap _ w).mono fun e w' ⟨he,hw⟩ => fin w' e he ?_
    subst hw; exact Go.RowKit.Below.refl _ _
  · have hpos:0 < l.length := List.length_pos_iff.2 h0
    have ha:∃ x,a = some x := by
      cases a with
      | none => have := hh.2.2.2.1 rfl; omega
      | some x => exact ⟨x,rfl⟩
    obtain ⟨⟨bk,o,sp⟩,rfl⟩ := ha
    have hsp:sp = none := hh.2.2.2.2.1 _ rfl (by have := hh.2.1; omega)
    subst hsp
    have hcell:∀ i x,l[i]? = some x→w.cell? ⟨bk,o + i,none⟩ = some (.string ⟨x.toArray⟩) := by
      intro i x hx
      have hi:i < l.length := (List.getElem?_eq_some_iff.1 hx).1
      have hrow := (hr _ rfl i hi).2
      simp only [RepCells] at hrow
      obtain ⟨⟨v,i1,i2⟩,_⟩ := hrow
      simp only [Rep] at i2
      subst i2
      have := hs.imm _ _ _ i1
      have e:l.getD i [] = x := by rw [List.getD_eq_getElem?_getD,hx]; rfl
      rw [e] at this
      simpa using this
    have hsz:bk < w.heap.size := by
      have := hcell 0 (l.getD 0 []) (by rw [List.getD_eq_getElem?_getD,List.getElem?_eq_getElem hpos]; rfl)
      unfold World.cell? at this
      by_cases hb:bk < w.heap.size
      · exact hb
      · rw [Array.getElem?_eq_none (Nat.le_of_not_lt hb)] at this
        cases this
    have hm:(l.map fun s => (⟨s.toArray⟩:ByteArray)).map (·.data.toList) = l := by simp [Function.comp_def]
    have key := Tryz.strings_Join bk o cap (l.map fun s => (⟨s.toArray⟩:ByteArray)) ⟨sep.toArray⟩ w (fun i x hx => by
      rw [List.getElem?_map,Option.map_eq_some_iff] at hx
      obtain ⟨y,h1,h2⟩ := hx
      subst h2
      exact hcell i y h1) hsz (by simpa using hl) (by simpa using hh.2.1) (by rw [hm]; exact hj)
    rw [hm,List.length_map] at key
    exact key.mono fun e w' ⟨he,hb⟩ => fin w' e he hb
def rowStr:List D→List UInt8
  | [.str s] => s
  | _ => []
def rowSB:List D→Bool
  | [.str _] => true
  | _ => false
def strsOf (n:Nat) (f:Nat→List D):List (List UInt8) := (List.range n).map fun i => rowStr (f i)
def strsB (n:Nat) (f:Nat→List D):Bool := (List.range n).all fun i => rowSB (f i)
theorem ssl_weak {n:Nat} {f:Nat→List D} {m:Ab.Mode} (h:strsB n f = true):weakD (.sl 1 n f m) (ssl (strsOf n f) .any) := by
  simp only [ssl,weakD,chk_iff]
  refine ⟨by simp,by simp [strsOf],fun i hi => ?_,by cases m <;> simp [weakM]⟩
  have hb:rowSB (f i) = true := List.all_eq_true.1 h i (List.mem_range.2 hi)
  have hg:(strsOf n f).getD i [] = rowStr (f i) := by simp [strsOf,List.getD_eq_getElem?_getD,hi]
  rw [hg]
  unfold rowSB at hb
  split at hb
  · rename_i s hd; rw [hd]; rfl
  · cases hb
theorem strsOf_eq {n:Nat} {l:List (List UInt8)} {F:Nat→List D} (hn:n = l.length) (hF:∀ i,i < n→F i = [D.str (l.getD i [])]):strsOf n F = l := by
  subst hn
  apply List.ext_getElem
  · simp [strsOf]
  · intro i h1 h2
    simp only [strsOf,List.getElem_map,List.getElem_range,hF i h2,rowStr,List.getD_eq_getElem?_getD,List.getElem?_eq_getElem h2,Option.getD_some]
theorem strsB_eq {n:Nat} {l:List (List UInt8)} {F:Nat→List D} (hn:n = l.length) (hF:∀ i,i < n→F i = [D.str (l.getD i [])]):strsB n F = true := by
  subst hn
  simp only [strsB,List.all_eq_true,List.mem_range]
  intro i hi
  rw [hF i hi]; rfl
def joinOk (l:List (List UInt8)) (sep:List UInt8):Prop := l.length ≤ 140737488355328∧(Lib.join l sep).length ≤ 140737488355328
def conJn:Con := fun k ds S => match k with
  | 17 => match ds with
    | [.sl 1 n f m,.str sep] => some (pC [.sl 1 n f m,.str sep] (.str (Lib.join (strsOf n f) sep)) (strsB n f = true∧joinOk (strsOf n f) sep))
    | _ => none
  | k => conNu k ds S
theorem conJn_ok:ConOk Tryz.prog conJn := by
  intro k ds S A h
  unfold conJn at h
  split at h
  · split at h
    · injection h with h; subst h
      exact pC_ok fun ⟨h1,h2⟩ => ⟨weakL_refl _,sC_weak (us := [ssl (strsOf _ _) .any,_]) ⟨ssl_weak h1,weakD_refl _,trivial⟩ (join_ok _ _ h2.1 h2.2)⟩
    · cases h
  · exact conNu_ok _ _ _ _ h
end Go.Proofs.YtfldjfpcefcjdaaGreatDoor
namespace Go.Proofs.YtfldjfpcefcjdaaGreatDoor
open Go Go.Ab
set_option maxRecDepth 100000
noncomputable def Eix (L:List (List UInt8)) (s:List UInt8):Senv := { EC con0 19 2 [4,5,7,8,9,16] (fun _ => ([],[])) with
  ann := fun b _ S => match b with
    | 0 => some { slots := [8],keep := [0,1,7],α := Nat,st := fun y => ([.int .i64 y],S),inv := fun y => y ≤ L.length∧s ∉ L.take y,mu := fun y => L.length - y }
    | _ => none }
noncomputable section
def tw1q0 (p0:List (List UInt8)):D := D.sl N1 (LN p0) (fun (i:Nat) => [D.str (List.getD p0 i [])]) Mode.any
end
theorem ixs_ok (L:List (List UInt8)) (s:List UInt8) (hl:L.length ≤ maxB):ACalls Tryz.prog 44 [ssl L .any,.str s] ⟨[],[]⟩ (SpecR (pQ [ssl L .any,.str s] (fun z:Int => .int .i64 z) (fun z => (0 ≤ z)↔s ∈ L) True) ()) := by
  refine con_of (A := pQ _ _ _ _) (x := ()) (E := Eix L s) (eOk con0_ok rfl) Tryz.func44 rfl (by kernel_rfl) rfl (by simp [pQ,Eix,EC,E0]) ?_
  refine vc_eq (T :=
    (∃ (x:Nat),(x ≤ LN L∧¬s ∈ List.take x L)∧(Z0 = (↑x:Int)∧True)∧True∧True)∧∀ (x:Nat),x ≤ LN L∧¬s ∈ List.take x L→ifB (decide ((↑x:Int) < (LI L))) (side (Z0 ≤ (↑x:Int)∧(↑x:Int) < (LI L)) (ifB (s == List.getD L (Int.toNat (↑x:Int)) []) (True∧∃ (y:Int),(Z0 ≤ y↔s ∈ L)∧(↑x:Int) = y∧True∧True) ((SM (tw1q0 L)∧SM (D.str s)∧SM (ZI (LI L))∧True)∧∃ (y:Nat),(y ≤ LN L∧¬s ∈ List.take y L)∧LN L - y < LN L - x∧(IntKind.wrap IntKind.i64 ((↑x:Int) + Z1) = (↑y:Int)∧True)∧True∧True))) (True∧∃ (y:Int),(Z0 ≤ y↔s ∈ L)∧(-1:Int) = y∧True∧True)) (by kernel_rfl) ?_
  delta LI LN N1 SM Z0 Z1 ZI tw1q0
  simp only [eq_self,ne_eq,Int.toNat_natCast,ifB_iff,side_iff,decide_eq_true_eq,decide_eq_false_iff_not,true_and,and_true,beq_iff_eq,beq_eq_false_iff_ne]
  have tk:∀ x:Nat,x < L.length→L.take (x + 1) = L.take x ++ [L.getD x []] := fun x hx => by
    rw [List.take_add_one,List.getElem?_eq_getElem hx,List.getD_eq_getElem?_getD,List.getElem?_eq_getElem hx]; rfl
  unfold maxB at hl
  refine ⟨⟨0,⟨Nat.zero_le _,by simp⟩,rfl⟩,fun x ⟨h1,h2⟩ => ⟨fun h => ⟨⟨by omega,h⟩,fun e => ⟨x,⟨fun _ => ?_,fun _ => by omega⟩,rfl⟩,fun e => ⟨x + 1,⟨by omega,?_⟩,by omega,by rw [wrap_i64' (by omega) (by omega)]; rfl⟩⟩,fun h => ⟨-1,⟨fun h => by omega,fun hm => ?_⟩,rfl⟩⟩⟩
  · have hx:x < L.length := by omega
    rw [e,List.getD_eq_getElem?_getD,List.getElem?_eq_getElem hx]
    exact List.getElem_mem hx
  · rw [tk x (by omega)]
    simpa using ⟨h2,e⟩
  · have:x = L.length := by omega
    rw [this,List.take_length] at h2
    exact (h2 hm).elim
def conIx:Con := fun k ds _ => match k with
  | 44 => match ds with
    | [.sl 1 n f m,.str s] => some (pQ [.sl 1 n f m,.str s] (fun z:Int => .int .i64 z) (fun z => (0 ≤ z)↔s ∈ strsOf n f) (strsB n f = true∧n ≤ maxB))
    | _ => none
  | _ => none
theorem conIx_ok:ConOk Tryz.prog conIx := by
  intro k ds S A h
  unfold conIx at h
  split at h
  · split at h
    · injection h with h; subst h
      exact pQ_ok fun ⟨h1,h2⟩ => ⟨weakL_refl _,(ACalls.weakArgs (ixs_ok (strsOf _ _) _ (by simpa [strsOf] using h2)) (show weakL [_,_] [_,_] from ⟨ssl_weak h1,weakD_refl _,trivial⟩)).mono fun _ _ ⟨y,q1,q2,q3⟩ => ⟨y,q1,q2,q3⟩⟩
    · cases h
  · cases h
noncomputable def Ect:Senv := EC conIx 9 2 [4] (fun _ => ([],[]))
theorem cts_ok (L:List (List UInt8)) (s:List UInt8) (hl:L.length ≤ maxB):ACalls Tryz.prog 18 [ssl L .any,.str s] ⟨[],[]⟩ (SpecR (sC [ssl L .any,.str s] (.bool (L.contains s))) ()) := by
  refine con_of (A := sC _ _) (x := ()) (E := Ect) (eOk conIx_ok rfl) Tryz.func18 rfl (by kernel_rfl) rfl (by simp [sC,Ect,EC,E0]) ?_
  refine vc_eq (T :=
    ((strsB (LN L) fun (i:Nat) => [D.str (List.getD L i [])]) = true∧LN L ≤ (140737488351232:Nat))∧∀ (y:Int),(Z0 ≤ y↔s ∈ strsOf (LN L) fun (i:Nat) => [D.str (List.getD L i [])])→True∧∃ (y_1:Unit),True∧decide (Z0 ≤ y) = List.contains L s∧True∧True) (by kernel_rfl) ?_
  delta LN Z0
  simp only [true_and,and_true,exists_const]
  have e := strsOf_eq (l := L) rfl (fun i _ => rfl:∀ i,i < L.length→(fun i => [D.str (L.getD i [])]) i = [D.str (L.getD i [])])
  rw [e]
  refine ⟨⟨strsB_eq rfl fun i _ => rfl,hl⟩,fun y h => ?_⟩
  by_cases hm:s ∈ L
  · rw [decide_eq_true (h.2 hm)]; simpa using hm
  · rw [decide_eq_false fun hy => hm (h.1 hy)]; simpa using hm
def conCt:Con := fun k ds _ => match k with
  | 18 => match ds with
    | [.sl 1 n f m,.str s] => some (pC [.sl 1 n f m,.str s] (.bool ((strsOf n f).contains s)) (strsB n f = true∧n ≤ maxB))
    | _ => none
  | _ => none
theorem conCt_ok:ConOk Tryz.prog conCt := by
  intro k ds S A h
  unfold conCt at h
  split at h
  · split at h
    · injection h with h; subst h
      exact pC_ok fun ⟨h1,h2⟩ => ⟨weakL_refl _,sC_weak (us := [ssl (strsOf _ _) .any,_]) ⟨ssl_weak h1,weakD_refl _,trivial⟩ (cts_ok _ _ (by simpa [strsOf] using h2))⟩
    · cases h
  · cases h
noncomputable def Erv:Senv := { EC conCt 11 1 [2] (fun _ => ([],[])) with mg := fun _ => 2 }
noncomputable section
def tw1q1 (p0:Nat):List D := [D.str (List.getD [[(88:UInt8)],[(89:UInt8)],[(70:UInt8)],[(71:UInt8)],[(115:UInt8),(101:UInt8),(108:UInt8),(102:UInt8)],[(97:UInt8),(114:UInt8),(103:UInt8)],[(109:UInt8),(105:UInt8),(110:UInt8)],[(109:UInt8),(97:UInt8),(120:UInt8)],[(97:UInt8),(110:UInt8),(100:UInt8)],[(111:UInt8),(114:UInt8)],[(110:UInt8),(111:UInt8),(116:UInt8)],[(115:UInt8),(104:UInt8),(97:UInt8),(112:UInt8),(101:UInt8)],[(114:UInt8),(101:UInt8),(115:UInt8),(104:UInt8),(97:UInt8),(112:UInt8),(101:UInt8)],[(116:UInt8),(97:UInt8),(108:UInt8),(108:UInt8),(121:UInt8)],[(100:UInt8),(101:UInt8),(112:UInt8),(116:UInt8),(104:UInt8)],[(115:UInt8),(116:UInt8),(97:UInt8),(99:UInt8),(107:UInt8)],[(105:UInt8),(111:UInt8),(116:UInt8),(97:UInt8)],[(116:UInt8),(97:UInt8),(107:UInt8),(101:UInt8)],[(100:UInt8),(114:UInt8),(111:UInt8),(112:UInt8)],[(102:UInt8),(105:UInt8),(114:UInt8),(115:UInt8),(116:UInt8)],[(114:UInt8),(101:UInt8),(118:UInt8),(101:UInt8),(114:UInt8),(115:UInt8),(101:UInt8)],[(114:UInt8),(111:UInt8),(116:UInt8),(97:UInt8),(116:UInt8),(101:UInt8)],[(116:UInt8),(114:UInt8),(97:UInt8),(110:UInt8),(115:UInt8),(112:UInt8),(111:UInt8),(115:UInt8),(101:UInt8)],[(102:UInt8),(114:UInt8),(111:UInt8),(109:UInt8)],[(112:UInt8),(105:UInt8),(99:UInt8),(107:UInt8)],[(115:UInt8),(101:UInt8),(108:UInt8),(101:UInt8),(99:UInt8),(116:UInt8)],[(97:UInt8),(109:UInt8),(101:UInt8),(110:UInt8),(100:UInt8)],[(117:UInt8),(112:UInt8)],[(100:UInt8),(111:UInt8),(119:UInt8),(110:UInt8)],[(115:UInt8),(111:UInt8),(114:UInt8),(116:UInt8)],[(102:UInt8),(105:UInt8),(110:UInt8),(100:UInt8)],[(105:UInt8),(110:UInt8)],[(117:UInt8),(110:UInt8),(105:UInt8),(113:UInt8),(117:UInt8),(101:UInt8)],[(119:UInt8),(104:UInt8),(101:UInt8),(114:UInt8),(101:UInt8)],[(99:UInt8),(111:UInt8),(112:UInt8),(121:UInt8)],[(101:UInt8),(120:UInt8),(112:UInt8),(97:UInt8),(110:UInt8),(100:UInt8)],[(99:UInt8),(117:UInt8),(116:UInt8)],[(101:UInt8),(110:UInt8),(99:UInt8),(111:UInt8),(100:UInt8),(101:UInt8)],[(100:UInt8),(101:UInt8),(99:UInt8),(111:UInt8),(100:UInt8),(101:UInt8)],[(98:UInt8),(111:UInt8),(120:UInt8)],[(111:UInt8),(112:UInt8),(101:UInt8),(110:UInt8)],[(115:UInt8),(97:UInt8),(109:UInt8),(101:UInt8)],[(107:UInt8),(105:UInt8),(110:UInt8),(100:UInt8)],[(111:UInt8),(114:UInt8),(100:UInt8)],[(99:UInt8),(104:UInt8),(114:UInt8)],[(102:UInt8),(111:UInt8),(114:UInt8),(109:UInt8),(97:UInt8),(116:UInt8)],[(108:UInt8),(101:UInt8),(102:UInt8),(116:UInt8)],[(114:UInt8),(105:UInt8),(103:UInt8),(104:UInt8),(116:UInt8)],[(101:UInt8),(97:UInt8),(99:UInt8),(104:UInt8)],[(115:UInt8),(119:UInt8),(97:UInt8),(112:UInt8)],[(111:UInt8),(117:UInt8),(116:UInt8),(101:UInt8),(114:UInt8)],[(105:UInt8),(110:UInt8),(110:UInt8),(101:UInt8),(114:UInt8)],[(114:UInt8),(97:UInt8),(110:UInt8),(107:UInt8)],[(112:UInt8),(111:UInt8),(119:UInt8),(101:UInt8),(114:UInt8)],[(115:UInt8),(116:UInt8),(101:UInt8),(110:UInt8),(99:UInt8),(105:UInt8),(108:UInt8)],[(97:UInt8),(116:UInt8),(111:UInt8),(112:UInt8)],[(111:UInt8),(118:UInt8),(101:UInt8),(114:UInt8)]] p0 [])]
def tw1q2 (p0:Nat):List D := [D.str (List.getD [[(43:UInt8)],[(45:UInt8)],[(42:UInt8)],[(37:UInt8)],[(124:UInt8)],[(94:UInt8)],[(60:UInt8)],[(60:UInt8),(61:UInt8)],[(61:UInt8)],[(126:UInt8),(61:UInt8)],[(62:UInt8),(61:UInt8)],[(62:UInt8)],[(44:UInt8)],[(47:UInt8)],[(92:UInt8)]] p0 [])]
end
theorem res_ok (s:List UInt8):ACalls Tryz.prog 10 [.str s] ⟨[],[]⟩ (SpecR (sC [.str s] (.bool (resB s))) ()) := by
  refine con_of (A := sC _ _) (x := ()) (E := Erv) (eOk conCt_ok rfl) Tryz.func10 rfl (by kernel_rfl) rfl (by simp [sC,Erv,EC,E0]) ?_
  refine vc_eq (T :=
    True∧((strsB (57:Nat) fun (i:Nat) => tw1q1 i) = true∧(57:Nat) ≤ (140737488351232:Nat))∧∀ (y:Unit),True→ifB (List.contains (strsOf (57:Nat) fun (i:Nat) => tw1q1 i) s) (True∧∃ (y:Unit),True∧true = resB s∧True∧True) (True∧((strsB (15:Nat) fun (i:Nat) => tw1q2 i) = true∧(15:Nat) ≤ (140737488351232:Nat))∧∀ (y:Unit),True→True∧∃ (y:Unit),True∧List.contains (strsOf (15:Nat) fun (i:Nat) => tw1q2 i) s = resB s∧True∧True)) (by kernel_rfl) ?_
  delta tw1q1 tw1q2
  simp only [ifB_iff,true_and,and_true,exists_const,forall_const]
  generalize h57:strsOf 57 _ = A
  generalize h15:strsOf 15 _ = B
  have eA:A = resL := by rw [← h57]; decide +kernel
  have eB:B = sgnL := by rw [← h15]; decide +kernel
  subst eA eB
  refine ⟨⟨by decide +kernel,by decide⟩,fun h => ?_,fun h => ⟨⟨by decide +kernel,by decide⟩,?_⟩⟩
  · unfold resB; rw [h]; rfl
  · unfold resB; rw [h]; rfl
theorem amongR_step {t s:List UInt8} {x:Nat} (h:x < t.length):amongR (t.drop x) s = ((t.getD x 0 == 32 && decide (s.length < (t.drop (x + 1)).length) && (t.drop (x + 1)).take s.length == s && (t.drop (x + 1)).getD s.length 0 == 32) || amongR (t.drop (x + 1)) s) := by
  rw [List.drop_eq_getElem_cons h,amongR]
  simp only [List.getD_eq_getElem?_getD,List.getElem?_eq_getElem h,Option.getD_some]
theorem amongR_short {s:List UInt8}:∀ {r:List UInt8},r.length < s.length + 2→amongR r s = false
  | [],_ => rfl
  | b :: r,h => by
    have h1:¬ s.length < r.length := by simp only [List.length_cons] at h; omega
    rw [amongR,decide_eq_false h1,amongR_short (r := r) (by simp only [List.length_cons] at h; omega)]
    simp
noncomputable def Eam (t s:List UInt8):Senv := { EC con0 57 2 [4,5,6,9,13,19,27,56] (fun _ => ([],[])) with
  ann := fun b _ S => match b with
    | 0 => some { slots := [5],keep := [0,1],α := Nat,st := fun y => ([.int .i64 y],S),inv := fun y => y ≤ s.length∧(s.take y).all (fun b => b != 32) = true,mu := fun y => s.length - y }
    | 2 => some { slots := [6],keep := [0,1],α := Nat,st := fun y => ([.int .i64 y],S),inv := fun y => y ≤ t.length∧amongR (t.drop y) s = amongR t s,mu := fun y => t.length - y }
    | _ => none }
noncomputable section
def tw1q3 (p0 p1:List UInt8):Prop := True∧∃ (_y:Unit),True∧false = amongT p0 p1∧True∧True
def tw1q4 (p0:Nat) (p1:List UInt8):Prop := p0 ≤ LN p1∧(List.all (List.take p0 p1) fun (b:UInt8) => b != (32:UInt8)) = true
def tw1q5 (p0:List UInt8) (p1:Nat):Bool := (BI p0 (Int.toNat (↑p1:Int))) == (32:Int)
def tw1q6 (p0:Nat):Int := IntKind.wrap IntKind.i64 ((↑p0:Int) + Z1)
def tw1q7 (p0:List UInt8) (p1 p2:Nat):Prop := LN p0 - p1 < LN p0 - p2∧(tw1q6 p2 = (↑p1:Int)∧True)∧True∧True
def tw1q8 (p0:Nat) (p1 p2:List UInt8):Prop := p0 ≤ LN p1∧amongR (List.drop p0 p1) p2 = amongR p1 p2
def tw1q9 (p0:Nat) (p1:List UInt8):Int := IntKind.wrap IntKind.i64 (tw1q6 p0 + (LI p1))
def tw1q10 (p0:Nat) (p1:List UInt8):Nat := Int.toNat (tw1q9 p0 p1)
def tw1q11 (p0:Nat) (p1 p2:List UInt8):Bool := List.drop (Int.toNat (tw1q6 p0)) (List.take (tw1q10 p0 p1) p2) == p1
def tw1q12 (p0:List UInt8) (p1:Nat) (p2:List UInt8):Bool := (BI p0 (tw1q10 p1 p2)) == (32:Int)
def tw1q13 (p0:List UInt8) (p1:Nat) (p2:List UInt8):Bool := bif bif tw1q5 p0 p1 then tw1q11 p1 p2 p0 else false then tw1q12 p0 p1 p2 else false
def tw1q14 (p0:List UInt8) (p1:Nat) (p2:List UInt8):Prop := false = tw1q13 p0 p1 p2∧True
end
theorem am_ok (t s:List UInt8) (ht:t.length ≤ maxB) (hs:s.length ≤ maxB):ACalls Tryz.prog 54 [.str t,.str s] ⟨[],[]⟩ (SpecR (sC [.str t,.str s] (.bool (amongT t s))) ()) := by
  refine con_of (A := sC _ _) (x := ()) (E := Eam t s) (eOk con0_ok rfl) Tryz.func54 rfl (by kernel_rfl) rfl (by simp [sC,Eam,EC,E0]) ?_
  refine vc_eq (T :=
    ifB ((LI s) == Z0) (tw1q3 t s) ((∃ (x:Nat),tw1q4 x s∧(Z0 = (↑x:Int)∧True)∧True∧True)∧∀ (x:Nat),tw1q4 x s→ifB (decide ((↑x:Int) < (LI s))) (side (Z0 ≤ (↑x:Int)∧(↑x:Int) < (LI s)) (ifB (tw1q5 s x) (tw1q3 t s) ((SM (D.str t)∧SM (D.str s)∧True)∧∃ (y:Nat),tw1q4 y s∧tw1q7 s y x))) ((∃ (x:Nat),tw1q8 x t s∧(Z0 = (↑x:Int)∧True)∧True∧True)∧∀ (x:Nat),tw1q8 x t s→ifB (decide (IntKind.wrap IntKind.i64 (IntKind.wrap IntKind.i64 ((↑x:Int) + (LI s)) + (2:Int)) ≤ (LI t))) (side (Z0 ≤ (↑x:Int)∧(↑x:Int) < (LI t)) (ifB (tw1q5 t x) (side (Z0 ≤ tw1q6 x∧tw1q6 x ≤ tw1q9 x s∧tw1q9 x s ≤ (LI t)) (ifB (tw1q11 x s t) (side (Z0 ≤ tw1q9 x s∧tw1q9 x s < (LI t)) (tw1q12 t x s = tw1q13 t x s∧True)) (tw1q14 t x s))) (tw1q14 t x s))∧ifB (tw1q13 t x s) (True∧∃ (y:Unit),True∧true = amongT t s∧True∧True) ((SM (D.str t)∧SM (D.str s)∧True)∧∃ (y:Nat),tw1q8 y t s∧tw1q7 t y x)) (tw1q3 t s)))) (by kernel_rfl) ?_
  delta BI LI LN SM U0 Z0 Z1 tw1q10 tw1q11 tw1q12 tw1q13 tw1q14 tw1q3 tw1q4 tw1q5 tw1q6 tw1q7 tw1q8 tw1q9
  simp only [eq_self,ne_eq,Int.toNat_natCast,ifB_iff,side_iff,decide_eq_true_eq,decide_eq_false_iff_not,true_and,and_true,beq_iff_eq,Bool.cond_false_right,Bool.and_eq_true,Bool.and_eq_false_iff,beq_eq_false_iff_ne,exists_const]
  unfold maxB at ht hs
  have b32:∀ b:UInt8,((b.toNat:Int) = 32)↔b = 32 := fun b => ⟨fun h => by
    apply UInt8.toNat_inj.1
    show b.toNat = 32
    omega,fun h => by subst h; rfl⟩
  have tk:∀ x:Nat,x < s.length→s.take (x + 1) = s.take x ++ [s.getD x 0] := fun x hx => by
    rw [List.take_add_one,List.getElem?_eq_getElem hx,List.getD_eq_getElem?_getD,List.getElem?_eq_getElem hx]; rfl
  refine ⟨fun h => ?_,fun h0 => ⟨⟨0,⟨Nat.zero_le _,rfl⟩,rfl⟩,fun x ⟨h1,h2⟩ => ⟨fun h => ⟨⟨by omega,h⟩,fun e => ?_,fun e => ⟨x + 1,⟨by omega,?_⟩,by omega,by rw [wrap_i64' (by omega) (by omega)]; rfl⟩⟩,fun h => ?_⟩⟩⟩
  · have:s = [] := List.length_eq_zero_iff.1 (by omega)
    subst this; rfl
  · have hx:x < s.length := by omega
    have hm:s.getD x 0 ∈ s := by rw [List.getD_eq_getElem?_getD,List.getElem?_eq_getElem hx]; exact List.getElem_mem hx
    have:(s.all fun b => b != 32) = false := by
      rw [List.all_eq_false]
      exact ⟨_,hm,by rw [(b32 _).1 e]; simp⟩
    unfold amongT
    rw [this]; simp
  · rw [tk x (by omega),List.all_append,h2]
    have:s.getD x 0 ≠ 32 := fun he => e ((b32 _).2 he)
    simpa using this
  · have hall:(s.all fun b => b != 32) = true := by
      have:x = s.length := by omega
      rw [this,List.take_length] at h2
      exact h2
    have hne:s.isEmpty = false := by
      cases s with
      | nil => exact (h0 rfl).elim
      | cons => rfl
    have hA:amongT t s = amongR t s := by unfold amongT; rw [hall,hne]; rfl
    rw [hA]
    refine ⟨⟨0,⟨Nat.zero_le _,by rw [List.drop_zero]⟩,rfl⟩,fun y ⟨y1,y2⟩ => ?_⟩
    have w1:IntKind.i64.wrap ((y:Int) + 1) = ((y + 1:Nat):Int) := by rw [wrap_i64' (by omega) (by omega)]; rfl
    have w2:IntKind.i64.wrap (((y + 1:Nat):Int) + (s.length:Int)) = ((y + 1 + s.length:Nat):Int) := by rw [wrap_i64' (by omega) (by omega)]; omega
    have w3:IntKind.i64.wrap (IntKind.i64.wrap ((y:Int) + (s.length:Int)) + 2) = ((y + s.length + 2:Nat):Int) := by rw [wrap_i64' (n := (y:Int) + s.length) (by omega) (by omega),wrap_i64' (by omega) (by omega)]; omega
    rw [w1,w2,w3]
    simp only [Int.toNat_natCast,b32]
    have hdt:List.drop (y + 1) (List.take (y + 1 + s.length) t) = (t.drop (y + 1)).take s.length := by
      rw [List.drop_take]; congr 1; omega
    have hgd:t.getD (y + 1 + s.length) 0 = (t.drop (y + 1)).getD s.length 0 := by simp [List.getD_eq_getElem?_getD]
    rw [hdt,hgd]
    have bi:∀ b:UInt8,(((b.toNat:Int)) == 32) = (b == 32) := fun b => by
      by_cases hb:b = 32
      · rw [hb]; rfl
      · have h1:(b == 32) = false := by simpa using hb
        have h2:(((b.toNat:Int)) == 32) = false := by
          have := fun h => hb ((b32 b).1 h)
          simpa using this
        rw [h1,h2]
    simp only [bi]
    refine ⟨fun hle => ?_,fun hgt => ?_⟩
    · have hy:y < t.length := by omega
      have hstep := amongR_step (s := s) hy
      rw [y2] at hstep
      have hlt:decide (s.length < (t.drop (y + 1)).length) = true := by rw [List.length_drop]; simp; omega
      rw [hlt,Bool.and_true] at hstep
      refine ⟨⟨⟨by omega,by omega⟩,fun e1 => ⟨⟨by omega,by omega,by omega⟩,fun e2 => ⟨⟨by omega,by omega⟩,?_⟩,fun e2 => ?_⟩,fun e1 => ?_⟩,fun ⟨⟨e1,e2⟩,e3⟩ => ?_,fun hno => ⟨y + 1,⟨by omega,?_⟩,by omega,rfl⟩⟩
      · rw [e1,e2]; simp
      · have:((t.drop (y + 1)).take s.length == s) = false := by simpa using e2
        rw [this]; simp
      · have:(t.getD y 0 == 32) = false := by simpa using e1
        rw [this]; simp
      · rw [hstep,e1,e2,e3]; simp
      · have:(t.getD y 0 == 32 && (t.drop (y + 1)).take s.length == s && (t.drop (y + 1)).getD s.length 0 == 32) = false := by
          rw [Bool.and_eq_false_iff,Bool.and_eq_false_iff]
          rcases hno with (h | h) | h
          · exact .inl (.inl (by simpa using h))
          · exact .inl (.inr (by simpa using h))
          · exact .inr (by simpa using h)
        rw [this,Bool.false_or] at hstep
        exact hstep.symm
    · rw [← y2]
      exact (amongR_short (by rw [List.length_drop]; omega)).symm
def conAm:Con := fun k ds _ => match k with
  | 54 => match ds with
    | [.str t,.str s] => some (pC [.str t,.str s] (.bool (amongT t s)) (t.length ≤ maxB∧s.length ≤ maxB))
    | _ => none
  | _ => none
theorem conAm_ok:ConOk Tryz.prog conAm := by
  intro k ds S A h
  unfold conAm at h
  split at h
  · split at h
    · injection h with h; subst h
      exact pC_ok fun ⟨h1,h2⟩ => ⟨weakL_refl _,am_ok _ _ h1 h2⟩
    · cases h
  · cases h
noncomputable def Err:Senv := { EC conAm 9 1 [2] (fun _ => ([],[])) with mg := fun _ => 2 }
theorem rres_ok (s:List UInt8) (hs:s.length ≤ maxB):ACalls Tryz.prog 56 [.str s] ⟨[],[]⟩ (SpecR (sC [.str s] (.bool (resB s))) ()) := by
  refine con_of (A := sC _ _) (x := ()) (E := Err) (eOk conAm_ok rfl) Tryz.func56 rfl (by kernel_rfl) rfl (by simp [sC,Err,EC,E0]) ?_
  refine vc_eq (T :=
    ((298:Nat) ≤ (140737488351232:Nat)∧LN s ≤ (140737488351232:Nat))∧∀ (y:Unit),True→ifB (amongT [(32:UInt8),(88:UInt8),(32:UInt8),(89:UInt8),(32:UInt8),(70:UInt8),(32:UInt8),(71:UInt8),(32:UInt8),(115:UInt8),(101:UInt8),(108:UInt8),(102:UInt8),(32:UInt8),(97:UInt8),(114:UInt8),(103:UInt8),(32:UInt8),(109:UInt8),(105:UInt8),(110:UInt8),(32:UInt8),(109:UInt8),(97:UInt8),(120:UInt8),(32:UInt8),(97:UInt8),(110:UInt8),(100:UInt8),(32:UInt8),(111:UInt8),(114:UInt8),(32:UInt8),(110:UInt8),(111:UInt8),(116:UInt8),(32:UInt8),(115:UInt8),(104:UInt8),(97:UInt8),(112:UInt8),(101:UInt8),(32:UInt8),(114:UInt8),(101:UInt8),(115:UInt8),(104:UInt8),(97:UInt8),(112:UInt8),(101:UInt8),(32:UInt8),(116:UInt8),(97:UInt8),(108:UInt8),(108:UInt8),(121:UInt8),(32:UInt8),(100:UInt8),(101:UInt8),(112:UInt8),(116:UInt8),(104:UInt8),(32:UInt8),(115:UInt8),(116:UInt8),(97:UInt8),(99:UInt8),(107:UInt8),(32:UInt8),(105:UInt8),(111:UInt8),(116:UInt8),(97:UInt8),(32:UInt8),(116:UInt8),(97:UInt8),(107:UInt8),(101:UInt8),(32:UInt8),(100:UInt8),(114:UInt8),(111:UInt8),(112:UInt8),(32:UInt8),(102:UInt8),(105:UInt8),(114:UInt8),(115:UInt8),(116:UInt8),(32:UInt8),(114:UInt8),(101:UInt8),(118:UInt8),(101:UInt8),(114:UInt8),(115:UInt8),(101:UInt8),(32:UInt8),(114:UInt8),(111:UInt8),(116:UInt8),(97:UInt8),(116:UInt8),(101:UInt8),(32:UInt8),(116:UInt8),(114:UInt8),(97:UInt8),(110:UInt8),(115:UInt8),(112:UInt8),(111:UInt8),(115:UInt8),(101:UInt8),(32:UInt8),(102:UInt8),(114:UInt8),(111:UInt8),(109:UInt8),(32:UInt8),(112:UInt8),(105:UInt8),(99:UInt8),(107:UInt8),(32:UInt8),(115:UInt8),(101:UInt8),(108:UInt8),(101:UInt8),(99:UInt8),(116:UInt8),(32:UInt8),(97:UInt8),(109:UInt8),(101:UInt8),(110:UInt8),(100:UInt8),(32:UInt8),(117:UInt8),(112:UInt8),(32:UInt8),(100:UInt8),(111:UInt8),(119:UInt8),(110:UInt8),(32:UInt8),(115:UInt8),(111:UInt8),(114:UInt8),(116:UInt8),(32:UInt8),(102:UInt8),(105:UInt8),(110:UInt8),(100:UInt8),(32:UInt8),(105:UInt8),(110:UInt8),(32:UInt8),(117:UInt8),(110:UInt8),(105:UInt8),(113:UInt8),(117:UInt8),(101:UInt8),(32:UInt8),(119:UInt8),(104:UInt8),(101:UInt8),(114:UInt8),(101:UInt8),(32:UInt8),(99:UInt8),(111:UInt8),(112:UInt8),(121:UInt8),(32:UInt8),(101:UInt8),(120:UInt8),(112:UInt8),(97:UInt8),(110:UInt8),(100:UInt8),(32:UInt8),(99:UInt8),(117:UInt8),(116:UInt8),(32:UInt8),(101:UInt8),(110:UInt8),(99:UInt8),(111:UInt8),(100:UInt8),(101:UInt8),(32:UInt8),(100:UInt8),(101:UInt8),(99:UInt8),(111:UInt8),(100:UInt8),(101:UInt8),(32:UInt8),(98:UInt8),(111:UInt8),(120:UInt8),(32:UInt8),(111:UInt8),(112:UInt8),(101:UInt8),(110:UInt8),(32:UInt8),(115:UInt8),(97:UInt8),(109:UInt8),(101:UInt8),(32:UInt8),(107:UInt8),(105:UInt8),(110:UInt8),(100:UInt8),(32:UInt8),(111:UInt8),(114:UInt8),(100:UInt8),(32:UInt8),(99:UInt8),(104:UInt8),(114:UInt8),(32:UInt8),(102:UInt8),(111:UInt8),(114:UInt8),(109:UInt8),(97:UInt8),(116:UInt8),(32:UInt8),(108:UInt8),(101:UInt8),(102:UInt8),(116:UInt8),(32:UInt8),(114:UInt8),(105:UInt8),(103:UInt8),(104:UInt8),(116:UInt8),(32:UInt8),(101:UInt8),(97:UInt8),(99:UInt8),(104:UInt8),(32:UInt8),(115:UInt8),(119:UInt8),(97:UInt8),(112:UInt8),(32:UInt8),(111:UInt8),(117:UInt8),(116:UInt8),(101:UInt8),(114:UInt8),(32:UInt8),(105:UInt8),(110:UInt8),(110:UInt8),(101:UInt8),(114:UInt8),(32:UInt8),(114:UInt8),(97:UInt8),(110:UInt8),(107:UInt8),(32:UInt8),(112:UInt8),(111:UInt8),(119:UInt8),(101:UInt8),(114:UInt8),(32:UInt8),(115:UInt8),(116:UInt8),(101:UInt8),(110:UInt8),(99:UInt8),(105:UInt8),(108:UInt8),(32:UInt8),(97:UInt8),(116:UInt8),(111:UInt8),(112:UInt8),(32:UInt8),(111:UInt8),(118:UInt8),(101:UInt8),(114:UInt8),(32:UInt8)] s) (True∧∃ (y:Unit),True∧true = resB s∧True∧True) (((34:Nat) ≤ (140737488351232:Nat)∧LN s ≤ (140737488351232:Nat))∧∀ (y:Unit),True→True∧∃ (y:Unit),True∧amongT [(32:UInt8),(43:UInt8),(32:UInt8),(45:UInt8),(32:UInt8),(42:UInt8),(32:UInt8),(37:UInt8),(32:UInt8),(124:UInt8),(32:UInt8),(94:UInt8),(32:UInt8),(60:UInt8),(32:UInt8),(60:UInt8),(61:UInt8),(32:UInt8),(61:UInt8),(32:UInt8),(126:UInt8),(61:UInt8),(32:UInt8),(62:UInt8),(61:UInt8),(32:UInt8),(62:UInt8),(32:UInt8),(44:UInt8),(32:UInt8),(47:UInt8),(32:UInt8),(92:UInt8),(32:UInt8)] s = resB s∧True∧True)) (by kernel_rfl) ?_
  delta LN
  simp only [ifB_iff,true_and,and_true,exists_const,forall_const]
  generalize hA:amongT _ s = a
  generalize hB:amongT _ s = b
  have ea:a = resL.contains s := by
    rw [← hA,← among_words s]
    congr 1
  have eb:b = sgnL.contains s := by
    rw [← hB,← among_names s]
    congr 1
  subst ea eb
  unfold maxB at hs
  refine ⟨⟨by decide,hs⟩,fun h => ?_,fun h => ⟨⟨by decide,hs⟩,?_⟩⟩
  · unfold resB; rw [h]; rfl
  · unfold resB; rw [h]; rfl
end Go.Proofs.YtfldjfpcefcjdaaGreatDoor
namespace Go.Proofs.YtfldjfpcefcjdaaGreatDoor
open Go Go.Ab
set_option maxRecDepth 100000
def sSt (args:List D) (S:St) (d:D):FnSpec where
  β := Unit
  α := Unit
  args := fun _ => args
  st := fun _ => S
  pre := fun _ => True
  post := fun _ _ => True
  res := fun _ _ => .ret d
  out := fun _ _ => S
abbrev scS (x:Nat) (s:List UInt8) (p:Int) (l:D):St := ⟨[(0,x,.cells [.str s,.int .i64 p,l])],[]⟩
def runT (q:UInt8→Bool) (s:List UInt8) (a:Nat):Nat := a + ((s.drop a).takeWhile q).length
theorem runT_end {q:UInt8→Bool} {s:List UInt8} {a:Nat} (h:¬ a < s.length):runT q s a = a := by
  unfold runT
  rw [List.drop_eq_nil_of_le (by omega)]; rfl
theorem runT_yes {q:UInt8→Bool} {s:List UInt8} {a:Nat} (h:a < s.length) (hq:q (s.getD a 0) = true):runT q s (a + 1) = runT q s a := by
  unfold runT
  rw [List.getD_eq_getElem?_getD,List.getElem?_eq_getElem h] at hq
  have hq:q s[a] = true := hq
  rw [List.drop_eq_getElem_cons h,List.takeWhile_cons,if_pos hq,List.length_cons]
  omega
theorem runT_no {q:UInt8→Bool} {s:List UInt8} {a:Nat} (h:a < s.length) (hq:¬ q (s.getD a 0) = true):runT q s a = a := by
  unfold runT
  rw [List.getD_eq_getElem?_getD,List.getElem?_eq_getElem h] at hq
  have hq:¬ q s[a] = true := hq
  rw [List.drop_eq_getElem_cons h,List.takeWhile_cons,if_neg hq]; rfl
theorem runT_le {q:UInt8→Bool} {s:List UInt8} {a:Nat} (h:a ≤ s.length):a ≤ runT q s a∧runT q s a ≤ s.length := by
  have := tw_len q (s.drop a)
  rw [List.length_drop] at this
  unfold runT
  omega
noncomputable def Eru (s:List UInt8) (a:Nat) (q:UInt8→Bool):Senv := { EC con0 27 3 [6,23] (fun _ => ([],[])) with
  ann := fun b _ S => match b with
    | 0 => some { slots := [1],keep := [0,2],α := Nat,st := fun y => ([.int .i64 y],S),inv := fun y => y ≤ s.length∧runT q s y = runT q s a,mu := fun y => s.length - y }
    | _ => none }
def nln (b:UInt8):Bool := b != 10
theorem dec_and1 {P Q:Prop} [Decidable P] [Decidable Q] (h:P):decide Q = (decide P && decide Q) := by simp [h]
theorem dec_and0 {P Q:Prop} [Decidable P] [Decidable Q] (h:¬ P):false = (decide P && decide Q) := by simp [h]
theorem b_eq {b:UInt8} {n:Nat} (h:(b.toNat:Int) = n) (hn:n < 256):b = UInt8.ofNat n := by
  apply UInt8.toNat_inj.1
  rw [byteN n hn]; omega
theorem dig_iff (b:UInt8):dig b = true↔48 ≤ (b.toNat:Int)∧(b.toNat:Int) ≤ 57 := by
  unfold dig
  rw [Bool.and_eq_true,decide_eq_true_eq,decide_eq_true_eq]; omega
theorem alp_iff (b:UInt8):alp b = true↔(97 ≤ (b.toNat:Int)∧(b.toNat:Int) ≤ 122)∨(65 ≤ (b.toNat:Int)∧(b.toNat:Int) ≤ 90) := by
  unfold alp low upp
  rw [Bool.or_eq_true,Bool.and_eq_true,Bool.and_eq_true,decide_eq_true_eq,decide_eq_true_eq,decide_eq_true_eq,decide_eq_true_eq]; omega
theorem aln_iff (b:UInt8):aln b = true↔((97 ≤ (b.toNat:Int)∧(b.toNat:Int) ≤ 122)∨(65 ≤ (b.toNat:Int)∧(b.toNat:Int) ≤ 90))∨(48 ≤ (b.toNat:Int)∧(b.toNat:Int) ≤ 57) := by
  unfold aln
  rw [Bool.or_eq_true,alp_iff,dig_iff]
theorem hexB_iff (b:UInt8):hexB b = true↔(48 ≤ (b.toNat:Int)∧(b.toNat:Int) ≤ 57)∨(97 ≤ (b.toNat:Int)∧(b.toNat:Int) ≤ 102) := by
  unfold hexB hexV
  cases h:dig b with
  | true => simp only [if_true,Option.isSome_some,true_iff]; exact .inl ((dig_iff b).1 h)
  | false =>
    have h0:¬ (48 ≤ (b.toNat:Int)∧(b.toNat:Int) ≤ 57) := fun e => by rw [(dig_iff b).2 e] at h; cases h
    simp only [Bool.false_eq_true,if_false]
    by_cases h2:(decide (97 ≤ b.toNat) && decide (b.toNat ≤ 102)) = true
    · rw [if_pos h2]
      rw [Bool.and_eq_true,decide_eq_true_eq,decide_eq_true_eq] at h2
      exact ⟨fun _ => .inr (by omega),fun _ => rfl⟩
    · rw [if_neg h2]
      rw [Bool.and_eq_true,decide_eq_true_eq,decide_eq_true_eq] at h2
      exact ⟨fun h => (by cases h),fun h => (by omega)⟩
theorem nln_iff (b:UInt8):nln b = true↔¬ (b.toNat:Int) = 10 := by
  unfold nln
  rw [bne_iff_ne]
  exact ⟨fun h e => h (b_eq (n := 10) e (by decide)),fun h e => h (by rw [e]; rfl)⟩
noncomputable section
def tw2q0 (p0:Nat) (p1:List UInt8) (p2:Nat):Prop := p0 ≤ LN p1∧runT dig p1 p0 = runT dig p1 p2
def tw2q1 (p0:Nat) (p1:List UInt8) (p2:Int) (p3:D):Prop := (SM p0∧(SM p1∧SM p2∧weakD p3 p3∧True)∧True)∧True
def tw2q2 (p0:List UInt8) (p1:Nat):Bool := bif decide ((48:Int) ≤ (BI p0 (Int.toNat (↑p1:Int)))) then decide ((BI p0 (Int.toNat (↑p1:Int))) ≤ (57:Int)) else false
def tw2q3 (p0:Nat) (p1:List UInt8) (p2 p3:Nat) (p4:Int) (p5:D):Prop := True∧∃ (_y:Unit),True∧(↑p0:Int) = (NI (runT dig p1 p2))∧tw2q1 p3 p1 p4 p5
end
theorem run_dig (x : Nat) (s : List UInt8) (p : Int) (l : D) (a : Nat) (ha : a ≤ s.length) (hs : s.length ≤ maxB) :
    ACalls Tryz.prog 21 [.ref 0 x 0,.int .i64 a,.fn (.func 23) [] []] (scS x s p l) (SpecR (sSt [.ref 0 x 0,.int .i64 a,.fn (.func 23) [] []] (scS x s p l) (.int .i64 (runT dig s a:Nat))) ()) := by
  refine con_of (A := sSt _ _ _) (x := ()) (E := Eru s a dig) (eOk con0_ok rfl) Tryz.func21 rfl (by kernel_rfl) rfl (by simp [sSt,Eru,EC,E0]) ?_
  refine vc_eq (T :=
    (∃ (x_1:Nat),tw2q0 x_1 s a∧((↑a:Int) = (↑x_1:Int)∧True)∧tw2q1 x s p l)∧∀ (x_1:Nat),tw2q0 x_1 s a→SM x∧ifB (decide ((↑x_1:Int) < (LI s))) (SM x∧side (Z0 ≤ (↑x_1:Int)∧(↑x_1:Int) < (LI s)) (ifB (decide ((48:Int) ≤ (BI s (Int.toNat (↑x_1:Int))))) (decide ((BI s (Int.toNat (↑x_1:Int))) ≤ (57:Int)) = tw2q2 s x_1∧True) (false = tw2q2 s x_1∧True)∧True∧ifB (tw2q2 s x_1) ((SM (D.ref N0 x N0)∧SM (D.fn (Fn.func (23:Nat)) [] [])∧True)∧∃ (y:Nat),tw2q0 y s a∧LN s - y < LN s - x_1∧(IntKind.wrap IntKind.i64 ((↑x_1:Int) + Z1) = (↑y:Int)∧True)∧tw2q1 x s p l) (tw2q3 x_1 s a x p l))) (tw2q3 x_1 s a x p l)) (by kernel_rfl) ?_
  delta BI LI LN N0 NI SM U0 Z0 Z1 tw2q0 tw2q1 tw2q2 tw2q3
  simp only [eq_self,weakD_refl,Int.toNat_natCast,ifB_iff,side_iff,decide_eq_true_eq,decide_eq_false_iff_not,true_and,and_true,Bool.cond_false_right,Bool.and_eq_true,Bool.and_eq_false_iff,exists_const]
  unfold maxB at hs
  refine ⟨⟨a,⟨ha,rfl⟩,rfl⟩,fun y ⟨i1,i2⟩ => ⟨fun hy => ?_,fun hy => ?_⟩⟩
  · have hy':y < s.length := by omega
    have hyes:dig (s.getD y 0) = true→∃ z,(z ≤ s.length∧runT dig s z = runT dig s a)∧s.length - z < s.length - y∧IntKind.i64.wrap ((y:Int) + 1) = (z:Int) := fun h => ⟨y + 1,⟨by omega,by rw [runT_yes hy' h,i2]⟩,by omega,by rw [wrap_i64' (by omega) (by omega)]; rfl⟩
    have hno:¬ dig (s.getD y 0) = true→(y:Int) = ((runT dig s a:Nat):Int) := fun h => by rw [← i2,runT_no hy' h]
    have hq := dig_iff (s.getD y 0)
    refine ⟨⟨by omega,hy⟩,?_⟩
    try simp only [bne_iff_ne,bne_eq_false_iff_eq,ne_eq]
    repeat' (first | intro _ | refine And.intro ?_ ?_)
    all_goals first
      | exact hyes (hq.2 (by omega))
      | exact hno (fun h => by have := hq.1 h; omega)
      | exact dec_and1 (by assumption)
      | exact dec_and0 (by assumption)
  · rw [← i2,runT_end (by omega)]
noncomputable section
def tw2q4 (p0:Nat) (p1:List UInt8) (p2:Nat):Prop := p0 ≤ LN p1∧runT aln p1 p0 = runT aln p1 p2
def tw2q5 (p0:Nat) (p1:List UInt8) (p2:Int) (p3:D):Prop := (SM p0∧(SM p1∧SM p2∧weakD p3 p3∧True)∧True)∧True
def tw2q6 (p0:List UInt8) (p1:Nat):Int := (BI p0 (Int.toNat (↑p1:Int)))
def tw2q7 (p0:List UInt8) (p1:Nat):Bool := bif decide ((97:Int) ≤ tw2q6 p0 p1) then decide (tw2q6 p0 p1 ≤ (122:Int)) else false
def tw2q8 (p0:Nat) (p1:List UInt8) (p2 p3:Nat) (p4:Int) (p5:D):Prop := (SM (D.ref N0 p0 N0)∧SM (D.fn (Fn.func (47:Nat)) [] [])∧True)∧∃ (y:Nat),tw2q4 y p1 p2∧LN p1 - y < LN p1 - p3∧(IntKind.wrap IntKind.i64 ((↑p3:Int) + Z1) = (↑y:Int)∧True)∧tw2q5 p0 p1 p4 p5
def tw2q9 (p0:Nat) (p1:List UInt8) (p2 p3:Nat) (p4:Int) (p5:D):Prop := True∧tw2q8 p0 p1 p2 p3 p4 p5
def tw2q10 (p0:List UInt8) (p1:Nat):Bool := bif decide ((48:Int) ≤ tw2q6 p0 p1) then decide (tw2q6 p0 p1 ≤ (57:Int)) else false
def tw2q11 (p0:Nat) (p1:List UInt8) (p2 p3:Nat) (p4:Int) (p5:D):Prop := True∧∃ (_y:Unit),True∧(↑p0:Int) = (NI (runT aln p1 p2))∧tw2q5 p3 p1 p4 p5
def tw2q12 (p0:List UInt8) (p1 p2 p3:Nat) (p4:Int) (p5:D):Prop := ifB (decide ((48:Int) ≤ tw2q6 p0 p1)) (decide (tw2q6 p0 p1 ≤ (57:Int)) = tw2q10 p0 p1∧True) (false = tw2q10 p0 p1∧True)∧True∧True∧ifB (tw2q10 p0 p1) (tw2q8 p2 p0 p3 p1 p4 p5) (tw2q11 p1 p0 p3 p2 p4 p5)
end
theorem run_aln (x : Nat) (s : List UInt8) (p : Int) (l : D) (a : Nat) (ha : a ≤ s.length) (hs : s.length ≤ maxB) :
    ACalls Tryz.prog 21 [.ref 0 x 0,.int .i64 a,.fn (.func 47) [] []] (scS x s p l) (SpecR (sSt [.ref 0 x 0,.int .i64 a,.fn (.func 47) [] []] (scS x s p l) (.int .i64 (runT aln s a:Nat))) ()) := by
  refine con_of (A := sSt _ _ _) (x := ()) (E := Eru s a aln) (eOk con0_ok rfl) Tryz.func21 rfl (by kernel_rfl) rfl (by simp [sSt,Eru,EC,E0]) ?_
  refine vc_eq (T :=
    (∃ (x_1:Nat),tw2q4 x_1 s a∧((↑a:Int) = (↑x_1:Int)∧True)∧tw2q5 x s p l)∧∀ (x_1:Nat),tw2q4 x_1 s a→SM x∧ifB (decide ((↑x_1:Int) < (LI s))) (SM x∧side (Z0 ≤ (↑x_1:Int)∧(↑x_1:Int) < (LI s)) (ifB (decide ((97:Int) ≤ tw2q6 s x_1)) (decide (tw2q6 s x_1 ≤ (122:Int)) = tw2q7 s x_1∧True) (false = tw2q7 s x_1∧True)∧True∧ifB (tw2q7 s x_1) (True∧tw2q9 x s a x_1 p l) (ifB (decide ((65:Int) ≤ tw2q6 s x_1)) (True∧ifB (decide (tw2q6 s x_1 ≤ (90:Int))) (tw2q9 x s a x_1 p l) (tw2q12 s x_1 x a p l)) (True∧tw2q12 s x_1 x a p l)))) (tw2q11 x_1 s a x p l)) (by kernel_rfl) ?_
  delta BI LI LN N0 NI SM U0 Z0 Z1 tw2q10 tw2q11 tw2q12 tw2q4 tw2q5 tw2q6 tw2q7 tw2q8 tw2q9
  simp only [eq_self,weakD_refl,Int.toNat_natCast,ifB_iff,side_iff,decide_eq_true_eq,decide_eq_false_iff_not,true_and,and_true,Bool.cond_false_right,Bool.and_eq_true,Bool.and_eq_false_iff,exists_const]
  unfold maxB at hs
  refine ⟨⟨a,⟨ha,rfl⟩,rfl⟩,fun y ⟨i1,i2⟩ => ⟨fun hy => ?_,fun hy => ?_⟩⟩
  · have hy':y < s.length := by omega
    have hyes:aln (s.getD y 0) = true→∃ z,(z ≤ s.length∧runT aln s z = runT aln s a)∧s.length - z < s.length - y∧IntKind.i64.wrap ((y:Int) + 1) = (z:Int) := fun h => ⟨y + 1,⟨by omega,by rw [runT_yes hy' h,i2]⟩,by omega,by rw [wrap_i64' (by omega) (by omega)]; rfl⟩
    have hno:¬ aln (s.getD y 0) = true→(y:Int) = ((runT aln s a:Nat):Int) := fun h => by rw [← i2,runT_no hy' h]
    have hq := aln_iff (s.getD y 0)
    refine ⟨⟨by omega,hy⟩,?_⟩
    try simp only [bne_iff_ne,bne_eq_false_iff_eq,ne_eq]
    repeat' (first | intro _ | refine And.intro ?_ ?_)
    all_goals first
      | exact hyes (hq.2 (by omega))
      | exact hno (fun h => by have := hq.1 h; omega)
      | exact dec_and1 (by assumption)
      | exact dec_and0 (by assumption)
  · rw [← i2,runT_end (by omega)]
noncomputable section
def tw2q13 (p0:Nat) (p1:List UInt8) (p2:Nat):Prop := p0 ≤ LN p1∧runT hexB p1 p0 = runT hexB p1 p2
def tw2q14 (p0:Nat) (p1:List UInt8) (p2:Int) (p3:D):Prop := (SM p0∧(SM p1∧SM p2∧weakD p3 p3∧True)∧True)∧True
def tw2q15 (p0:List UInt8) (p1:Nat):Int := (BI p0 (Int.toNat (↑p1:Int)))
def tw2q16 (p0:List UInt8) (p1:Nat):Bool := bif decide ((48:Int) ≤ tw2q15 p0 p1) then decide (tw2q15 p0 p1 ≤ (57:Int)) else false
def tw2q17 (p0:Nat) (p1:List UInt8) (p2 p3:Nat) (p4:Int) (p5:D):Prop := (SM (D.ref N0 p0 N0)∧SM (D.fn (Fn.func (79:Nat)) [] [])∧True)∧∃ (y:Nat),tw2q13 y p1 p2∧LN p1 - y < LN p1 - p3∧(IntKind.wrap IntKind.i64 ((↑p3:Int) + Z1) = (↑y:Int)∧True)∧tw2q14 p0 p1 p4 p5
def tw2q18 (p0:Nat) (p1:List UInt8) (p2 p3:Nat) (p4:Int) (p5:D):Prop := True∧∃ (_y:Unit),True∧(↑p0:Int) = (NI (runT hexB p1 p2))∧tw2q14 p3 p1 p4 p5
end
theorem run_hex (x : Nat) (s : List UInt8) (p : Int) (l : D) (a : Nat) (ha : a ≤ s.length) (hs : s.length ≤ maxB) :
    ACalls Tryz.prog 21 [.ref 0 x 0,.int .i64 a,.fn (.func 79) [] []] (scS x s p l) (SpecR (sSt [.ref 0 x 0,.int .i64 a,.fn (.func 79) [] []] (scS x s p l) (.int .i64 (runT hexB s a:Nat))) ()) := by
  refine con_of (A := sSt _ _ _) (x := ()) (E := Eru s a hexB) (eOk con0_ok rfl) Tryz.func21 rfl (by kernel_rfl) rfl (by simp [sSt,Eru,EC,E0]) ?_
  refine vc_eq (T :=
    (∃ (x_1:Nat),tw2q13 x_1 s a∧((↑a:Int) = (↑x_1:Int)∧True)∧tw2q14 x s p l)∧∀ (x_1:Nat),tw2q13 x_1 s a→SM x∧ifB (decide ((↑x_1:Int) < (LI s))) (SM x∧side (Z0 ≤ (↑x_1:Int)∧(↑x_1:Int) < (LI s)) (ifB (decide ((48:Int) ≤ tw2q15 s x_1)) (decide (tw2q15 s x_1 ≤ (57:Int)) = tw2q16 s x_1∧True) (false = tw2q16 s x_1∧True)∧True∧ifB (tw2q16 s x_1) (True∧tw2q17 x s a x_1 p l) (ifB (decide ((97:Int) ≤ tw2q15 s x_1)) (True∧ifB (decide (tw2q15 s x_1 ≤ (102:Int))) (tw2q17 x s a x_1 p l) (tw2q18 x_1 s a x p l)) (True∧tw2q18 x_1 s a x p l)))) (tw2q18 x_1 s a x p l)) (by kernel_rfl) ?_
  delta BI LI LN N0 NI SM U0 Z0 Z1 tw2q13 tw2q14 tw2q15 tw2q16 tw2q17 tw2q18
  simp only [eq_self,weakD_refl,Int.toNat_natCast,ifB_iff,side_iff,decide_eq_true_eq,decide_eq_false_iff_not,true_and,and_true,Bool.cond_false_right,Bool.and_eq_true,Bool.and_eq_false_iff,exists_const]
  unfold maxB at hs
  refine ⟨⟨a,⟨ha,rfl⟩,rfl⟩,fun y ⟨i1,i2⟩ => ⟨fun hy => ?_,fun hy => ?_⟩⟩
  · have hy':y < s.length := by omega
    have hyes:hexB (s.getD y 0) = true→∃ z,(z ≤ s.length∧runT hexB s z = runT hexB s a)∧s.length - z < s.length - y∧IntKind.i64.wrap ((y:Int) + 1) = (z:Int) := fun h => ⟨y + 1,⟨by omega,by rw [runT_yes hy' h,i2]⟩,by omega,by rw [wrap_i64' (by omega) (by omega)]; rfl⟩
    have hno:¬ hexB (s.getD y 0) = true→(y:Int) = ((runT hexB s a:Nat):Int) := fun h => by rw [← i2,runT_no hy' h]
    have hq := hexB_iff (s.getD y 0)
    refine ⟨⟨by omega,hy⟩,?_⟩
    try simp only [bne_iff_ne,bne_eq_false_iff_eq,ne_eq]
    repeat' (first | intro _ | refine And.intro ?_ ?_)
    all_goals first
      | exact hyes (hq.2 (by omega))
      | exact hno (fun h => by have := hq.1 h; omega)
      | exact dec_and1 (by assumption)
      | exact dec_and0 (by assumption)
  · rw [← i2,runT_end (by omega)]
noncomputable section
def tw2q19 (p0:Nat) (p1:List UInt8) (p2:Nat):Prop := p0 ≤ LN p1∧runT nln p1 p0 = runT nln p1 p2
def tw2q20 (p0:Nat) (p1:List UInt8) (p2:Int) (p3:D):Prop := (SM p0∧(SM p1∧SM p2∧weakD p3 p3∧True)∧True)∧True
def tw2q21 (p0:Nat) (p1:List UInt8) (p2 p3:Nat) (p4:Int) (p5:D):Prop := True∧∃ (_y:Unit),True∧(↑p0:Int) = (NI (runT nln p1 p2))∧tw2q20 p3 p1 p4 p5
end
theorem run_nln (x : Nat) (s : List UInt8) (p : Int) (l : D) (a : Nat) (ha : a ≤ s.length) (hs : s.length ≤ maxB) :
    ACalls Tryz.prog 21 [.ref 0 x 0,.int .i64 a,.fn (.func 22) [] []] (scS x s p l) (SpecR (sSt [.ref 0 x 0,.int .i64 a,.fn (.func 22) [] []] (scS x s p l) (.int .i64 (runT nln s a:Nat))) ()) := by
  refine con_of (A := sSt _ _ _) (x := ()) (E := Eru s a nln) (eOk con0_ok rfl) Tryz.func21 rfl (by kernel_rfl) rfl (by simp [sSt,Eru,EC,E0]) ?_
  refine vc_eq (T :=
    (∃ (x_1:Nat),tw2q19 x_1 s a∧((↑a:Int) = (↑x_1:Int)∧True)∧tw2q20 x s p l)∧∀ (x_1:Nat),tw2q19 x_1 s a→SM x∧ifB (decide ((↑x_1:Int) < (LI s))) (SM x∧side (Z0 ≤ (↑x_1:Int)∧(↑x_1:Int) < (LI s)) (True∧ifB ((BI s (Int.toNat (↑x_1:Int))) != (10:Int)) ((SM (D.ref N0 x N0)∧SM (D.fn (Fn.func (22:Nat)) [] [])∧True)∧∃ (y:Nat),tw2q19 y s a∧LN s - y < LN s - x_1∧(IntKind.wrap IntKind.i64 ((↑x_1:Int) + Z1) = (↑y:Int)∧True)∧tw2q20 x s p l) (tw2q21 x_1 s a x p l))) (tw2q21 x_1 s a x p l)) (by kernel_rfl) ?_
  delta BI LI LN N0 NI SM U0 Z0 Z1 tw2q19 tw2q20 tw2q21
  simp only [eq_self,weakD_refl,Int.toNat_natCast,ifB_iff,side_iff,decide_eq_true_eq,decide_eq_false_iff_not,true_and,and_true,exists_const]
  unfold maxB at hs
  refine ⟨⟨a,⟨ha,rfl⟩,rfl⟩,fun y ⟨i1,i2⟩ => ⟨fun hy => ?_,fun hy => ?_⟩⟩
  · have hy':y < s.length := by omega
    have hyes:nln (s.getD y 0) = true→∃ z,(z ≤ s.length∧runT nln s z = runT nln s a)∧s.length - z < s.length - y∧IntKind.i64.wrap ((y:Int) + 1) = (z:Int) := fun h => ⟨y + 1,⟨by omega,by rw [runT_yes hy' h,i2]⟩,by omega,by rw [wrap_i64' (by omega) (by omega)]; rfl⟩
    have hno:¬ nln (s.getD y 0) = true→(y:Int) = ((runT nln s a:Nat):Int) := fun h => by rw [← i2,runT_no hy' h]
    have hq := nln_iff (s.getD y 0)
    refine ⟨⟨by omega,hy⟩,?_⟩
    try simp only [bne_iff_ne,bne_eq_false_iff_eq,ne_eq]
    repeat' (first | intro _ | refine And.intro ?_ ?_)
    all_goals first
      | exact hyes (hq.2 (by omega))
      | exact hno (fun h => by have := hq.1 h; omega)
      | exact dec_and1 (by assumption)
      | exact dec_and0 (by assumption)
  · rw [← i2,runT_end (by omega)]
end Go.Proofs.YtfldjfpcefcjdaaGreatDoor
namespace Go.Proofs.YtfldjfpcefcjdaaGreatDoor
open Go Go.Ab
set_option maxRecDepth 100000
theorem rune_asc {s:List UInt8} {i:Nat} (_h:i < s.length) (ha:(s.getD i 0).toNat < 128):runeAt s i = ((s.getD i 0).toNat,1) := by
  unfold runeAt
  rw [decode_drop]
  unfold decU
  have e:(s.drop i).getD 0 0 = s.getD i 0 := by simp [List.getD_eq_getElem?_getD]
  rw [e]
  unfold Lib.decodeN
  rw [if_pos ha]
def numS (u:Bool) (ds:List UInt8):List UInt8 := if u = true then 95 :: ds else ds
def uL (u:Bool):Nat := if u = true then 1 else 0
theorem valS_step {ds : List UInt8} {j n : Nat} (h : j < ds.length) (hn : valS (ds.take j) 0 = some n) :
    valS (ds.take (j + 1)) 0 = if n ≤ (maxNum - ((ds.getD j 0).toNat - 48)) / 10 then some (10 * n + ((ds.getD j 0).toNat - 48)) else none := by
  have e:ds.take (j + 1) = ds.take j ++ [ds.getD j 0] := by
    rw [List.take_add_one,List.getElem?_eq_getElem h,List.getD_eq_getElem?_getD,List.getElem?_eq_getElem h]; rfl
  rw [e,valS_app,hn]
  rfl
theorem valS_none {ds:List UInt8} {j:Nat} (hn:valS (ds.take j) 0 = none):valS ds 0 = none := by
  rw [← List.take_append_drop j ds,valS_app,hn]
  rfl
noncomputable def Erd (u:Bool) (ds:List UInt8):Senv := { EC con0 49 1 [2,3,4,5,6,7,8,9,11,12,13,16,23,39,45] (fun _ => ([],[])) with
  ann := fun b env _ => match b,Ab.look env 11 with
    | 0,.ref k y 0 => some { slots := [4,5,6],keep := [0,11],α := Nat × Nat,st := fun z => ([.int .i64 z.2,.int .i64 ((z.1 - uL u:Nat):Int),.int .i64 (if u = true∧1 ≤ z.1 then -1 else 1)],⟨[(k,y,.sit (numS u ds) z.1)],[]⟩),inv := fun z => z.1 ≤ (numS u ds).length∧z.2 ≤ maxNum∧valS (ds.take (z.1 - uL u)) 0 = some z.2,mu := fun z => (numS u ds).length - z.1 }
    | _,_ => none }
def rdN (u:Bool) (ds:List UInt8):Int := match valS ds 0 with
  | none => 0
  | some n => if u = true then -(n:Int) else n
def rdE (ds:List UInt8):Int := match valS ds 0 with
  | none => 4
  | some _ => 0
def readD (u:Bool) (ds:List UInt8):D := .tup [.int .i64 (rdN u ds),.int .i64 (rdE ds)]
noncomputable section
def tw3q0 (p0:Bool) (p1:List UInt8):List UInt8 := numS p0 p1
def tw3q1 (p0:Nat) (p1:Bool) (p2:List UInt8) (p3:Nat):Prop := p0 ≤ LN (tw3q0 p1 p2)∧p3 ≤ (4611686018427387903:Nat)∧valS (List.take (p0 - uL p1) p2) N0 = some p3
def tw3q2 (p0:Nat) (p1:Bool):Int := (NI (p0 - uL p1))
def tw3q3 (p0:Bool) (p1:Nat):Int := if p0 = true∧N1 ≤ p1 then (-1:Int) else Z1
def tw3q4 (p0:Bool) (p1:List UInt8):Prop := SM (tw3q0 p0 p1)
def tw3q5 (p0:Bool) (p1:List UInt8) (p2:Nat):Int := (NI (Prod.fst (runeAt (tw3q0 p0 p1) p2)))
def tw3q6 (p0:Nat) (p1:Bool) (p2:List UInt8):Bool := bif (↑p0:Int) == Z0 then tw3q5 p1 p2 p0 == (95:Int) else false
def tw3q7 (p0:Bool) (p1:List UInt8) (p2:Nat):Prop := SM (D.str (tw3q0 p0 p1))∧SM (D.ref N0 p2 N0)∧True
def tw3q8 (p0:Bool) (p1:List UInt8) (p2 p3:Nat):Prop := LN (tw3q0 p0 p1) - p2 < LN (tw3q0 p0 p1) - p3
def tw3q9 (p0:Nat) (p1:Bool) (p2:List UInt8) (p3 p4:Nat):Prop := (SM p0∧(tw3q4 p1 p2∧p3 + Prod.snd (runeAt (tw3q0 p1 p2) p3) = p4)∧True)∧True
def tw3q10 (p0:Bool) (p1:List UInt8) (p2:Nat):Bool := bif decide (tw3q5 p0 p1 p2 < (48:Int)) then true else decide ((57:Int) < tw3q5 p0 p1 p2)
def tw3q11 (p0:Bool) (p1:List UInt8):Prop := True∧∃ (_y:Unit),True∧(Z0 = rdN p0 p1∧(4:Int) = rdE p1∧True)∧True∧True
def tw3q12 (p0:Bool) (p1:List UInt8) (p2:Nat):Int := IntKind.wrap IntKind.i64 (IntKind.wrap IntKind.i32 (tw3q5 p0 p1 p2 - (48:Int)))
end
theorem read_ok (u:Bool) (ds:List UInt8) (hd:ds.all dig = true) (hne:ds ≠ []) (hl:ds.length ≤ 4294967296):ACalls Tryz.prog 45 [.str (numS u ds)] ⟨[],[]⟩ (SpecR (sC [.str (numS u ds)] (readD u ds)) ()) := by
  refine con_of (A := sC _ _) (x := ()) (E := Erd u ds) (eOk con0_ok rfl) Tryz.func45 rfl (by kernel_rfl) rfl (by simp [sC,Erd,EC,E0]) ?_
  refine vc_eq (T :=
    ∀ (y:Nat),True→(∃ (x:Nat × Nat),tw3q1 x.1 u ds x.2∧(Z0 = (NI x.2)∧Z0 = tw3q2 x.1 u∧Z1 = tw3q3 u x.1∧True)∧(SM y∧(tw3q4 u ds∧N0 = x.1)∧True)∧True)∧∀ (x:Nat × Nat),tw3q1 x.1 u ds x.2→SM y∧ifB (decide (x.1 < LN (tw3q0 u ds))) (ifB ((NI x.1) == Z0) ((tw3q5 u ds x.1 == (95:Int)) = tw3q6 x.1 u ds∧True) (false = tw3q6 x.1 u ds∧True)∧ifB (tw3q6 x.1 u ds) (tw3q7 u ds y∧∃ (y_1:Nat × Nat),tw3q1 y_1.1 u ds y_1.2∧tw3q8 u ds y_1.1 x.1∧((NI x.2) = (NI y_1.2)∧tw3q2 x.1 u = tw3q2 y_1.1 u∧(-1:Int) = tw3q3 u y_1.1∧True)∧tw3q9 y u ds x.1 y_1.1) (ifB (decide (tw3q5 u ds x.1 < (48:Int))) (true = tw3q10 u ds x.1∧True) (decide ((57:Int) < tw3q5 u ds x.1) = tw3q10 u ds x.1∧True)∧ifB (tw3q10 u ds x.1) (tw3q11 u ds) (ifB (decide (IntKind.wrap IntKind.i64 (Int.tdiv (IntKind.wrap IntKind.i64 ((4611686018427387903:Int) - tw3q12 u ds x.1)) (10:Int)) < (NI x.2))) (tw3q11 u ds) (tw3q7 u ds y∧∃ (y_1:Nat × Nat),tw3q1 y_1.1 u ds y_1.2∧tw3q8 u ds y_1.1 x.1∧(IntKind.wrap IntKind.i64 (IntKind.wrap IntKind.i64 ((10:Int) * (NI x.2)) + tw3q12 u ds x.1) = (NI y_1.2)∧IntKind.wrap IntKind.i64 (tw3q2 x.1 u + Z1) = tw3q2 y_1.1 u∧tw3q3 u x.1 = tw3q3 u y_1.1∧True)∧tw3q9 y u ds x.1 y_1.1)))) (ifB (tw3q2 x.1 u == Z0) (tw3q11 u ds) (True∧∃ (y:Unit),True∧(IntKind.wrap IntKind.i64 (tw3q3 u x.1 * (NI x.2)) = rdN u ds∧Z0 = rdE ds∧True)∧True∧True))) (by kernel_rfl) ?_
  delta LN N0 N1 NI SM Z0 Z1 tw3q0 tw3q1 tw3q10 tw3q11 tw3q12 tw3q2 tw3q3 tw3q4 tw3q5 tw3q6 tw3q7 tw3q8 tw3q9
  simp only [eq_self,ne_eq,ifB_iff,decide_eq_true_eq,decide_eq_false_iff_not,true_and,and_true,beq_iff_eq,Bool.cond_false_right,Bool.cond_true_left,Bool.and_eq_true,Bool.and_eq_false_iff,Bool.or_eq_true,Bool.or_eq_false_iff,beq_eq_false_iff_ne,exists_const,forall_const]
  have hlen:(numS u ds).length = uL u + ds.length := by cases u <;> simp [numS,uL]; omega
  have hu:uL u ≤ 1∧(u = true→uL u = 1)∧(u = false→uL u = 0) := by cases u <;> simp [uL]
  have hdl:0 < ds.length := List.length_pos_iff.2 hne
  have hby:∀ j,j < ds.length→48 ≤ ((ds.getD j 0).toNat:Int)∧((ds.getD j 0).toNat:Int) ≤ 57 := fun j hj => by
    refine (dig_iff _).1 (List.all_eq_true.1 hd _ ?_)
    rw [List.getD_eq_getElem?_getD,List.getElem?_eq_getElem hj]; exact List.getElem_mem hj
  have hat:∀ i,i < (numS u ds).length→¬ (u = true∧i = 0)→(numS u ds).getD i 0 = ds.getD (i - uL u) 0∧i - uL u < ds.length∧uL u ≤ i := fun i hi hn => by
    cases u with
    | false => exact ⟨rfl,by simpa [uL] using (by simpa [numS] using hi),Nat.zero_le _⟩
    | true =>
      cases i with
      | zero => exact (hn ⟨rfl,rfl⟩).elim
      | succ i => exact ⟨rfl,by simpa [numS,uL] using hi,by simp [uL]⟩
  have h95:u = true→(numS u ds).getD 0 0 = 95 := fun h => by subst h; rfl
  have hru:∀ i,i < (numS u ds).length→runeAt (numS u ds) i = (((numS u ds).getD i 0).toNat,1) := fun i hi => by
    refine rune_asc hi ?_
    by_cases h:u = true∧i = 0
    · rw [h.2,h95 h.1]; decide
    · obtain ⟨e,h1,_⟩ := hat i hi h
      rw [e]
      have := hby _ h1
      omega
  refine ⟨⟨(0,0),⟨Nat.zero_le _,by omega,by rw [Nat.zero_sub,List.take_zero]; rfl⟩,⟨rfl,by simp,by simp⟩,rfl⟩,fun ⟨i,n⟩ ⟨i1,i2,i3⟩ => ⟨fun hi => ?_,fun hi => ?_⟩⟩
  · simp only at i1 i2 i3 hi ⊢
    rw [hru i hi]
    simp only
    by_cases hz:u = true∧i = 0
    · obtain ⟨rfl,rfl⟩ := hz
      rw [h95 rfl]
      refine ⟨⟨fun _ => by simp,fun h => absurd rfl h⟩,fun _ => ⟨(1,n),⟨by simp only; omega,i2,i3⟩,by simp only; omega,⟨rfl,rfl,by simp⟩,rfl⟩,fun h => ?_⟩
      rcases h with h | h
      · exact (h rfl).elim
      · exact absurd rfl h
    · obtain ⟨e,hj,hge⟩ := hat i hi hz
      rw [e]
      have hb := hby _ hj
      have hstep := valS_step hj i3
      have hiu:i + 1 - uL u = (i - uL u) + 1 := by omega
      have hsg:(if u = true∧1 ≤ i then (-1:Int) else 1) = if u = true∧1 ≤ i + 1 then -1 else 1 := by
        cases hu0:u with
        | false => simp
        | true =>
          have:1 ≤ i := by
            refine Nat.pos_of_ne_zero fun h0 => hz ⟨hu0,h0⟩
          simp [this]
      have w1:IntKind.i32.wrap (((ds.getD (i - uL u) 0).toNat:Int) - 48) = (((ds.getD (i - uL u) 0).toNat - 48:Nat):Int) := by
        rw [Go.Ab.wrap_small (k := .i32) rfl (by simp only [IntKind.bits]; omega) (by simp only [IntKind.bits]; omega)]; omega
      have hd9:(ds.getD (i - uL u) 0).toNat - 48 ≤ 9 := by omega
      rw [w1]
      generalize hdv:(ds.getD (i - uL u) 0).toNat - 48 = d at *
      have w2:IntKind.i64.wrap (d:Int) = (d:Int) := wrap_i64' (by omega) (by omega)
      have w3:IntKind.i64.wrap (4611686018427387903 - (d:Int)) = ((4611686018427387903 - d:Nat):Int) := by rw [wrap_i64' (by omega) (by omega)]; omega
      have w4:IntKind.i64.wrap ((((4611686018427387903 - d:Nat):Int)).tdiv 10) = (((4611686018427387903 - d) / 10:Nat):Int) := by
        rw [tdiv10,if_neg (by omega),Int.natAbs_natCast,wrap_i64' (by omega) (by omega)]
      rw [w2,w3,w4]
      have hm:maxNum = 4611686018427387903 := rfl
      rw [hm] at hstep
      have h0:¬ ((ds.getD (i - uL u) 0).toNat:Int) = 95 := by omega
      refine ⟨⟨fun h => by rw [show ((i:Int) == 0) = true from by simpa using h]; rfl,fun h => by rw [show ((i:Int) == 0) = false from by simpa using h]; rfl⟩,fun h => (h0 h.2).elim,fun _ => ⟨⟨fun h => by omega,fun h => by rw [decide_eq_false h]; rfl⟩,fun h => by omega,fun _ => ⟨fun hov => ?_,fun hov => ?_⟩⟩⟩
      · rw [if_neg (by omega)] at hstep
        unfold rdN rdE
        rw [valS_none hstep]
        exact ⟨rfl,rfl⟩
      · have hle:n ≤ (4611686018427387903 - d) / 10 := by omega
        rw [if_pos hle] at hstep
        refine ⟨(i + 1,10 * n + d),⟨by simp only; omega,by simp only; omega,by simp only; rw [hiu]; exact hstep⟩,by simp only; omega,⟨?_,?_,hsg⟩,rfl⟩
        · rw [wrap_i64' (n := 10 * (n:Int)) (by omega) (by omega),wrap_i64' (by omega) (by omega)]
          simp only
          omega
        · rw [wrap_i64' (by omega) (by omega)]
          simp only
          omega
  · simp only at i1 i2 i3 hi ⊢
    have hie:i = uL u + ds.length := by omega
    have htk:ds.take (i - uL u) = ds := by rw [hie,Nat.add_sub_cancel_left,List.take_length]
    rw [htk] at i3
    refine ⟨fun h => by omega,fun _ => ?_⟩
    unfold rdN rdE
    rw [i3]
    have h1:1 ≤ i := by omega
    refine ⟨?_,rfl⟩
    cases hu0:u with
    | false =>
      simp only [Bool.false_eq_true,false_and,if_false,Int.one_mul]
      rw [wrap_i64' (by omega) (by omega)]
    | true =>
      simp only [true_and,h1,if_true]
      rw [wrap_i64' (by omega) (by omega)]; omega
end Go.Proofs.YtfldjfpcefcjdaaGreatDoor
namespace Go.Proofs.YtfldjfpcefcjdaaGreatDoor
open Go Go.Ab
set_option maxRecDepth 100000
theorem take_run {q:UInt8→Bool} {s:List UInt8} {a:Nat}:List.drop a (List.take (runT q s a) s) = (s.drop a).takeWhile q := by
  unfold runT
  rw [List.drop_take,Nat.add_sub_cancel_left,take_tw]
theorem num_parts {s : List UInt8} {p : Nat} (hp : p < s.length) (u : Bool) (hu : u = (s.getD p 0 == 95)) :
    numT (s.drop p) = (if ((s.drop (p + uL u)).takeWhile dig) = []∨(alp (s.getD (runT dig s (p + uL u)) 0) || s.getD (runT dig s (p + uL u)) 0 == 95) = true then .error (4,0)
      else match valS ((s.drop (p + uL u)).takeWhile dig) 0 with
        | none => .error (4,0)
        | some n => .ok (1,uL u + ((s.drop (p + uL u)).takeWhile dig).length,if u = true then -(n:Int) else n,[])) ∧
    List.drop p (List.take (runT dig s (p + uL u)) s) = numS u ((s.drop (p + uL u)).takeWhile dig) := by
  have e0:(s.drop p).getD 0 0 = s.getD p 0 := by simp [List.getD_eq_getElem?_getD]
  have eu:(if (s.drop p).getD 0 0 = 95 then 1 else 0) = uL u := by
    rw [e0,hu]
    by_cases h:s.getD p 0 = 95
    · rw [if_pos h,h]; rfl
    · have h2:(s.getD p 0 == 95) = false := by simpa using h
      rw [if_neg h,h2]; rfl
  have eg:∀ k,(s.drop (p + k)).getD 0 0 = s.getD (p + k) 0 := fun k => by simp [List.getD_eq_getElem?_getD]
  have e1:uL u = 1↔u = true := by cases u <;> simp [uL]
  constructor
  · unfold numT
    rw [eu]
    simp only
    rw [List.drop_drop,List.drop_drop,eg]
    have er:p + (uL u + ((s.drop (p + uL u)).takeWhile dig).length) = runT dig s (p + uL u) := by unfold runT; omega
    rw [er]
    cases valS ((s.drop (p + uL u)).takeWhile dig) 0 with
    | none => rfl
    | some n =>
      simp only [e1]
  · cases hu0:u with
    | false => rw [show p + uL false = p from rfl,take_run]; rfl
    | true =>
      have h95:s.getD p 0 = 95 := by rw [hu0] at hu; simpa using hu.symm
      have hr := take_run (q := dig) (s := s) (a := p + 1)
      have hle:p + 1 ≤ runT dig s (p + 1) := by unfold runT; omega
      have e2:List.drop p (List.take (runT dig s (p + 1)) s) = s.getD p 0 :: List.drop (p + 1) (List.take (runT dig s (p + 1)) s) := by
        have hl:p < (List.take (runT dig s (p + 1)) s).length := by rw [List.length_take]; omega
        rw [List.drop_eq_getElem_cons hl]
        congr 1
        rw [List.getElem_take,List.getD_eq_getElem?_getD,List.getElem?_eq_getElem hp]; rfl
      show List.drop p (List.take (runT dig s (p + 1)) s) = 95 :: _
      rw [e2,hr,h95]
      rfl
end Go.Proofs.YtfldjfpcefcjdaaGreatDoor
namespace Go.Proofs.YtfldjfpcefcjdaaGreatDoor
open Go Go.Ab
set_option maxRecDepth 100000
def sStP (args:List D) (S:St) (d:D) (p:Prop):FnSpec where
  β := Unit
  α := Unit
  args := fun _ => args
  st := fun _ => S
  pre := fun _ => p
  post := fun _ _ => True
  res := fun _ _ => .ret d
  out := fun _ _ => S
def lexD:Lex→D
  | .error (e,_) => .tup [.agg [.int .i64 0,.int .i64 0,.int .i64 0,.int .i64 0,.str []],.int .i64 e]
  | .ok (k,len,num,text) => .tup [.agg [.int .i64 k,.int .i64 0,.int .i64 len,.int .i64 num,.str text],.int .i64 0]
def conNb (x:Nat) (s:List UInt8) (p:Int) (l:D):Con := fun k ds _ => match k with
  | 21 => match ds with
    | [_,.int .i64 a,.fn (.func 23) [] []] => some (sStP [.ref 0 x 0,.int .i64 a,.fn (.func 23) [] []] (scS x s p l) (.int .i64 (runT dig s a.toNat:Nat)) (0 ≤ a∧a ≤ s.length∧s.length ≤ maxB))
    | [_,.int .i64 a,.fn (.func 47) [] []] => some (sStP [.ref 0 x 0,.int .i64 a,.fn (.func 47) [] []] (scS x s p l) (.int .i64 (runT aln s a.toNat:Nat)) (0 ≤ a∧a ≤ s.length∧s.length ≤ maxB))
    | [_,.int .i64 a,.fn (.func 79) [] []] => some (sStP [.ref 0 x 0,.int .i64 a,.fn (.func 79) [] []] (scS x s p l) (.int .i64 (runT hexB s a.toNat:Nat)) (0 ≤ a∧a ≤ s.length∧s.length ≤ maxB))
    | [_,.int .i64 a,.fn (.func 22) [] []] => some (sStP [.ref 0 x 0,.int .i64 a,.fn (.func 22) [] []] (scS x s p l) (.int .i64 (runT nln s a.toNat:Nat)) (0 ≤ a∧a ≤ s.length∧s.length ≤ maxB))
    | _ => none
  | 25 => match ds with
    | [.int .u8 z] => some (pC [.int .u8 z] (.bool (alp (UInt8.ofNat z.toNat))) (0 ≤ z∧z < 256))
    | _ => none
  | 23 => match ds with
    | [.int .u8 z] => some (pC [.int .u8 z] (.bool (dig (UInt8.ofNat z.toNat))) (0 ≤ z∧z < 256))
    | _ => none
  | 45 => match ds with
    | [.str t] => some (pC [.str t] (readD (t.getD 0 0 == 95) (if t.getD 0 0 = 95 then t.drop 1 else t)) ((if t.getD 0 0 = 95 then t.drop 1 else t).all dig = true∧(if t.getD 0 0 = 95 then t.drop 1 else t) ≠ []∧t.length ≤ 4294967296))
    | _ => none
  | _ => none
noncomputable def Enb (x:Nat) (s:List UInt8) (p:Int) (l:D):Senv := EC (conNb x s p l) 80 1 [2,3,4,5,6,7,18,53,70] (fun id => match id with | 7 => ([0,1,2,3,4,5,6,7,8,9,10,11,12,13,14,15],[10]) | _ => ([],[]))
noncomputable section
def tw4q0 (p0:Nat):Int := IntKind.wrap IntKind.i64 ((↑p0:Int) + Z1)
def tw4q1:Prop := SM (D.fn (Fn.func (23:Nat)) [] [])∧True
def tw4q2 (p0:Nat) (p1:List UInt8) (p2:Nat) (p3:D):Prop := (SM p0∧(SM p1∧SM (↑p2:Int)∧weakD p3 p3∧True)∧True)∧True
def tw4q3 (p0:List UInt8) (p1:Nat):Int := (NI (runT dig p0 (Int.toNat (tw4q0 p1))))
def tw4q4 (p0:Nat) (p1:List UInt8):D := lexD (numT (List.drop p0 p1))
def tw4q5 (p0 p1:Nat) (p2:List UInt8) (p3:Nat) (p4:D):Prop := SM p0∧(SM p0∧True)∧∃ (_y:Unit),True∧weakD (D.tup [D.agg [ZI Z0,ZI Z0,ZI Z0,ZI Z0,D.str []],ZI (4:Int)]) (tw4q4 p1 p2)∧tw4q2 p3 p2 p1 p4
def tw4q6 (p0:List UInt8) (p1:Nat):Nat := Int.toNat (tw4q3 p0 p1)
def tw4q7 (p0:List UInt8) (p1:Nat):Int := (BI p0 (tw4q6 p0 p1))
def tw4q8 (p0:Nat) (p1:List UInt8):List UInt8 := List.drop (Int.toNat (↑p0:Int)) (List.take (tw4q6 p1 p0) p1)
def tw4q9 (p0:Nat) (p1:List UInt8):UInt8 := List.getD (tw4q8 p0 p1) N0 U0
def tw4q10 (p0:Nat) (p1:List UInt8):List UInt8 := if tw4q9 p0 p1 = (95:UInt8) then List.drop N1 (tw4q8 p0 p1) else tw4q8 p0 p1
def tw4q11 (p0 p1:Nat) (p2:List UInt8) (p3:Nat) (p4:D):Prop := SM p0∧SM p0∧side (Z0 ≤ (↑p1:Int)∧(↑p1:Int) ≤ tw4q3 p2 p1∧tw4q3 p2 p1 ≤ (LI p2)) ((List.all (tw4q10 p1 p2) dig = true∧tw4q10 p1 p2 ≠ []∧LN (tw4q8 p1 p2) ≤ (4294967296:Nat))∧∀ (_y:Unit),True→ifB (rdE (tw4q10 p1 p2) != Z0) (tw4q5 p3 p1 p2 p0 p4) (SM p0∧SM p3∧(SM p3∧True)∧∃ (_y:Unit),True∧weakD (D.tup [D.agg [ZI Z1,ZI Z0,ZI (IntKind.wrap IntKind.i64 (tw4q3 p2 p1 - (↑p1:Int))),ZI (rdN (tw4q9 p1 p2 == (95:UInt8)) (tw4q10 p1 p2)),D.str []],ZI Z0]) (tw4q4 p1 p2)∧tw4q2 p0 p2 p1 p4))
def tw4q12 (p0:List UInt8) (p1:Nat):Int := (NI (runT dig p0 (Int.toNat (↑p1:Int))))
def tw4q13 (p0:List UInt8) (p1:Nat):Int := (BI p0 (Int.toNat (tw4q12 p0 p1)))
def tw4q14 (p0:Nat) (p1:List UInt8):List UInt8 := List.drop (Int.toNat (↑p0:Int)) (List.take (Int.toNat (tw4q12 p1 p0)) p1)
def tw4q15 (p0:Nat) (p1:List UInt8):UInt8 := List.getD (tw4q14 p0 p1) N0 U0
def tw4q16 (p0:Nat) (p1:List UInt8):List UInt8 := if tw4q15 p0 p1 = (95:UInt8) then List.drop N1 (tw4q14 p0 p1) else tw4q14 p0 p1
def tw4q17 (p0 p1:Nat) (p2:List UInt8) (p3:Nat) (p4:D):Prop := SM p0∧SM p0∧side (Z0 ≤ (↑p1:Int)∧(↑p1:Int) ≤ tw4q12 p2 p1∧tw4q12 p2 p1 ≤ (LI p2)) ((List.all (tw4q16 p1 p2) dig = true∧tw4q16 p1 p2 ≠ []∧LN (tw4q14 p1 p2) ≤ (4294967296:Nat))∧∀ (_y:Unit),True→ifB (rdE (tw4q16 p1 p2) != Z0) (tw4q5 p3 p1 p2 p0 p4) (SM p0∧SM p3∧(SM p3∧True)∧∃ (_y:Unit),True∧weakD (D.tup [D.agg [ZI Z1,ZI Z0,ZI (IntKind.wrap IntKind.i64 (tw4q12 p2 p1 - (↑p1:Int))),ZI (rdN (tw4q15 p1 p2 == (95:UInt8)) (tw4q16 p1 p2)),D.str []],ZI Z0]) (tw4q4 p1 p2)∧tw4q2 p0 p2 p1 p4))
end
theorem number_ok (hcon : ∀ x s p l, ConOk Tryz.prog (conNb x s p l)) (x : Nat) (s : List UInt8) (p : Nat) (l : D) (hp : p < s.length) (hs : s.length ≤ 4294967296) :
    ACalls Tryz.prog 24 [.ref 0 x 0] (scS x s p l) (SpecR (sSt [.ref 0 x 0] (scS x s p l) (lexD (numT (s.drop p)))) ()) := by
  refine con_of (A := sSt _ _ _) (x := ()) (E := Enb x s p l) (eOk (hcon x s p l) rfl) Tryz.func24 rfl (by kernel_rfl) rfl (by simp [sSt,Enb,EC,E0]) ?_
  refine vc_eq (T :=
    ∀ (x_1:Nat),x ≠ x_1∧True→SM x∧SM x∧side (Z0 ≤ (↑p:Int)∧(↑p:Int) < (LI s)) (ifB ((BI s (Int.toNat (↑p:Int))) == (95:Int)) (∃ (x_2:Unit),(SM x∧SM (tw4q0 p)∧tw4q1)∧tw4q2 x s p l∧(Z0 ≤ tw4q0 p∧tw4q0 p ≤ (LI s)∧LN s ≤ (140737488351232:Nat))∧∀ (y:Unit),True→ifB (tw4q3 s p == tw4q0 p) (tw4q5 x_1 p s x l) (SM x∧ifB (decide (tw4q3 s p < (LI s))) (SM x∧side (Z0 ≤ tw4q3 s p∧tw4q3 s p < (LI s)) ((Z0 ≤ tw4q7 s p∧tw4q7 s p < (256:Int))∧∀ (y:Unit),True→ifB (alp (UInt8.ofNat (Int.toNat (tw4q7 s p)))) (tw4q5 x_1 p s x l) (SM x∧side (Z0 ≤ tw4q3 s p∧tw4q3 s p < (LI s)) (ifB (tw4q7 s p == (95:Int)) (tw4q5 x_1 p s x l) (tw4q11 x p s x_1 l))))) (tw4q11 x p s x_1 l))) (∃ (x_2:Unit),(SM x∧SM (↑p:Int)∧tw4q1)∧tw4q2 x s p l∧(Z0 ≤ (↑p:Int)∧(↑p:Int) ≤ (LI s)∧LN s ≤ (140737488351232:Nat))∧∀ (y:Unit),True→ifB (tw4q12 s p == (↑p:Int)) (tw4q5 x_1 p s x l) (SM x∧ifB (decide (tw4q12 s p < (LI s))) (SM x∧side (Z0 ≤ tw4q12 s p∧tw4q12 s p < (LI s)) ((Z0 ≤ tw4q13 s p∧tw4q13 s p < (256:Int))∧∀ (y:Unit),True→ifB (alp (UInt8.ofNat (Int.toNat (tw4q13 s p)))) (tw4q5 x_1 p s x l) (SM x∧side (Z0 ≤ tw4q12 s p∧tw4q12 s p < (LI s)) (ifB (tw4q13 s p == (95:Int)) (tw4q5 x_1 p s x l) (tw4q17 x p s x_1 l))))) (tw4q17 x p s x_1 l))))) (by kernel_rfl) ?_
  delta BI LI LN N0 N1 NI SM U0 Z0 Z1 ZI tw4q0 tw4q1 tw4q10 tw4q11 tw4q12 tw4q13 tw4q14 tw4q15 tw4q16 tw4q17 tw4q2 tw4q3 tw4q4 tw4q5 tw4q6 tw4q7 tw4q8 tw4q9
  simp only [eq_self,ne_eq,weakD_refl,Int.toNat_natCast,ifB_iff,side_iff,decide_eq_true_eq,decide_eq_false_iff_not,true_and,and_true,beq_iff_eq,beq_eq_false_iff_ne,exists_const,forall_const]
  have hal:∀ u:Bool,(numS u ((s.drop (p + uL u)).takeWhile dig)).length ≤ s.length := fun u => by
    have := tw_len dig (s.drop (p + uL u))
    rw [List.length_drop] at this
    cases u <;> simp only [numS,uL,if_true,if_false,Bool.false_eq_true,List.length_cons] at this ⊢ <;> omega
  have had:∀ k,((s.drop k).takeWhile dig).all dig = true := fun k => List.all_eq_true.2 fun b hb => tw_all dig _ b hb
  have hrl:∀ k,k ≤ s.length→k ≤ runT dig s k∧runT dig s k ≤ s.length := fun k hk => runT_le hk
  have hru:∀ k,runT dig s k = k + ((s.drop k).takeWhile dig).length := fun k => rfl
  have hob:∀ b:UInt8,UInt8.ofNat b.toNat = b := fun b => by simp
  have h95:∀ b:UInt8,(b.toNat:Int) = 95↔b = 95 := fun b => ⟨fun h => b_eq (n := 95) h (by decide),fun h => by rw [h]; rfl⟩
  have key : ∀ (u : Bool) (ds : List UInt8) (R : Nat), u = (s.getD p 0 == 95) → ds = (s.drop (p + uL u)).takeWhile dig → R = runT dig s (p + uL u) →
      (ds = []∨alp (s.getD R 0) = true∨s.getD R 0 = 95→weakD (.tup [.agg [.int .i64 0,.int .i64 0,.int .i64 0,.int .i64 0,.str []],.int .i64 4]) (lexD (numT (s.drop p)))) ∧
      (¬ ds = []→¬ alp (s.getD R 0) = true→¬ s.getD R 0 = 95→((rdE ds != 0) = true→weakD (.tup [.agg [.int .i64 0,.int .i64 0,.int .i64 0,.int .i64 0,.str []],.int .i64 4]) (lexD (numT (s.drop p)))) ∧
        ((rdE ds != 0) = false→weakD (.tup [.agg [.int .i64 1,.int .i64 0,.int .i64 ((uL u + ds.length:Nat):Int),.int .i64 (rdN u ds),.str []],.int .i64 0]) (lexD (numT (s.drop p))))) := by
    intro u ds R hu hds hR
    obtain ⟨n1,_⟩ := num_parts hp u hu
    rw [← hds,← hR] at n1
    rw [n1]
    refine ⟨fun h => ?_,fun q1 q2 q3 => ?_⟩
    · rw [if_pos (by
        rcases h with h | h | h
        · exact .inl h
        · exact .inr (by rw [h]; rfl)
        · exact .inr (by rw [h]; simp))]
      exact weakD_refl _
    · rw [if_neg (by
        rintro (h | h)
        · exact q1 h
        · rw [Bool.or_eq_true,beq_iff_eq] at h
          rcases h with h | h
          · exact q2 h
          · exact q3 h)]
      unfold rdE rdN
      cases valS ds 0 with
      | none => exact ⟨fun _ => weakD_refl _,fun h => by simp at h⟩
      | some n => exact ⟨fun h => by simp at h,fun _ => weakD_refl _⟩
  have nxe:∀ R,¬ R < s.length→s.getD R 0 = 0 := fun R h => gd_ge (by omega)
  intro x1 _
  refine ⟨⟨by omega,by omega⟩,fun hp95 => ?_,fun hp95 => ?_⟩
  · have hb := (h95 _).1 hp95
    have hu:true = (s.getD p 0 == 95) := by rw [hb]; rfl
    obtain ⟨_,hT⟩ := num_parts hp true hu
    have w1:IntKind.i64.wrap ((p:Int) + 1) = ((p + 1:Nat):Int) := by rw [wrap_i64' (by omega) (by omega)]; rfl
    have hT:List.drop p (List.take (runT dig s (p + 1)) s) = 95 :: (s.drop (p + 1)).takeWhile dig := hT
    rw [w1]
    simp only [Int.toNat_natCast,hT,hob,h95,List.getD_cons_zero,if_true,List.drop_succ_cons,List.drop_zero,beq_self_eq_true]
    have hl := hal true
    have hl:(95 :: (s.drop (p + 1)).takeWhile dig).length ≤ s.length := hl
    obtain ⟨k1,k2⟩ := key true _ _ hu rfl rfl
    obtain ⟨r1,r2⟩ := hrl (p + 1) (by omega)
    have hR := hru (p + 1)
    have had := had (p + 1)
    revert k1 k2 hl hR r1 r2 had
    simp only [show uL true = 1 from rfl]
    generalize runT dig s (p + 1) = R
    generalize (s.drop (p + 1)).takeWhile dig = ds
    intro hl k1 k2 r1 r2 hR had
    have hde:∀ h:¬ ((R:Nat):Int) = ((p + 1:Nat):Int),¬ ds = [] := fun h e => h (by rw [hR,e]; rfl)
    have hlen:IntKind.i64.wrap ((R:Int) - (p:Int)) = ((1 + ds.length:Nat):Int) := by rw [wrap_i64' (by omega) (by omega)]; omega
    rw [hlen]
    have hb256:(0:Int) ≤ ((s.getD R 0).toNat:Int)∧((s.getD R 0).toNat:Int) < 256 := by
      have := (s.getD R 0).toNat_lt; omega
    refine ⟨⟨by omega,by omega,by omega⟩,fun h => k1 (.inl (List.length_eq_zero_iff.1 (by omega))),fun h => ⟨fun hlt => ⟨⟨by omega,hlt⟩,hb256,fun ha => k1 (.inr (.inl ha)),fun ha => ⟨⟨by omega,hlt⟩,fun hq => k1 (.inr (.inr hq)),fun hq => ⟨⟨by omega,by omega,by omega⟩,⟨had,hde h,by omega⟩,(k2 (hde h) (by rw [ha]; simp) hq).1,(k2 (hde h) (by rw [ha]; simp) hq).2⟩⟩⟩,fun hge => ?_⟩⟩
    have hz := nxe R (by omega)
    have hk := k2 (hde h) (by rw [hz]; decide) (by rw [hz]; decide)
    exact ⟨⟨by omega,by omega,by omega⟩,⟨had,hde h,by omega⟩,hk.1,hk.2⟩
  · have hb:¬ s.getD p 0 = 95 := fun h => hp95 ((h95 _).2 h)
    have hu:false = (s.getD p 0 == 95) := by
      have:(s.getD p 0 == 95) = false := by simpa using hb
      exact this.symm
    obtain ⟨_,hT⟩ := num_parts hp false hu
    have hT:List.drop p (List.take (runT dig s p) s) = (s.drop p).takeWhile dig := hT
    have hl := hal false
    have hl:((s.drop p).takeWhile dig).length ≤ s.length := hl
    have hh:¬ ((s.drop p).takeWhile dig).getD 0 0 = 95 := fun e => by
      cases hd:(s.drop p).takeWhile dig with
      | nil => rw [hd] at e; exact absurd e (by decide)
      | cons c r =>
        have hc := tw_all dig (s.drop p) c (by rw [hd]; simp)
        rw [hd] at e
        have e:c = 95 := e
        rw [e] at hc
        exact absurd hc (by decide)
    have hhb:(((s.drop p).takeWhile dig).getD 0 0 == 95) = false := by simpa using hh
    simp only [hT,hob,h95,if_neg hh,hhb]
    obtain ⟨k1,k2⟩ := key false _ _ hu rfl rfl
    obtain ⟨r1,r2⟩ := hrl p (by omega)
    have hR := hru p
    have had := had p
    revert k1 k2 hl hR r1 r2 had
    simp only [show uL false = 0 from rfl,Nat.add_zero,Nat.zero_add]
    generalize runT dig s p = R
    generalize (s.drop p).takeWhile dig = ds
    intro hl k1 k2 r1 r2 hR had
    have hde:∀ h:¬ ((R:Nat):Int) = (p:Int),¬ ds = [] := fun h e => h (by rw [hR,e]; rfl)
    have hlen:IntKind.i64.wrap ((R:Int) - (p:Int)) = ((ds.length:Nat):Int) := by rw [wrap_i64' (by omega) (by omega)]; omega
    rw [hlen]
    have hb256:(0:Int) ≤ ((s.getD R 0).toNat:Int)∧((s.getD R 0).toNat:Int) < 256 := by
      have := (s.getD R 0).toNat_lt; omega
    refine ⟨⟨by omega,by omega,by omega⟩,fun h => k1 (.inl (List.length_eq_zero_iff.1 (by omega))),fun h => ⟨fun hlt => ⟨⟨by omega,hlt⟩,hb256,fun ha => k1 (.inr (.inl ha)),fun ha => ⟨⟨by omega,hlt⟩,fun hq => k1 (.inr (.inr hq)),fun hq => ⟨⟨by omega,by omega,by omega⟩,⟨had,hde h,by omega⟩,(k2 (hde h) (by rw [ha]; simp) hq).1,(k2 (hde h) (by rw [ha]; simp) hq).2⟩⟩⟩,fun hge => ?_⟩⟩
    have hz := nxe R (by omega)
    have hk := k2 (hde h) (by rw [hz]; decide) (by rw [hz]; decide)
    exact ⟨⟨by omega,by omega,by omega⟩,⟨had,hde h,by omega⟩,hk.1,hk.2⟩
end Go.Proofs.YtfldjfpcefcjdaaGreatDoor
namespace Go.Proofs.YtfldjfpcefcjdaaGreatDoor
open Go Go.Ab
set_option maxRecDepth 100000
noncomputable def Edg:Senv := EC con0 9 1 [2] (fun _ => ([],[]))
noncomputable def Ealp:Senv := EC con0 13 1 [2] (fun _ => ([],[]))
noncomputable section
def tw5q0 (p0:Int):Bool := bif decide ((48:Int) ≤ p0) then decide (p0 ≤ (57:Int)) else false
end
theorem digit_ok (z:Int) (h:0 ≤ z∧z < 256):ACalls Tryz.prog 23 [.int .u8 z] ⟨[],[]⟩ (SpecR (sC [.int .u8 z] (.bool (dig (UInt8.ofNat z.toNat)))) ()) := by
  refine con_of (A := sC _ _) (x := ()) (E := Edg) (eOk con0_ok rfl) Tryz.func23 rfl (by kernel_rfl) rfl (by simp [sC,Edg,EC,E0]) ?_
  refine vc_eq (T :=
    ifB (decide ((48:Int) ≤ z)) (decide (z ≤ (57:Int)) = tw5q0 z∧True) (false = tw5q0 z∧True)∧True∧∃ (y:Unit),True∧tw5q0 z = dig (UInt8.ofNat (Int.toNat z))∧True∧True) (by kernel_rfl) ?_
  delta tw5q0
  simp only [ifB_iff,decide_eq_true_eq,decide_eq_false_iff_not,true_and,and_true,exists_const]
  have hb:((UInt8.ofNat z.toNat).toNat:Int) = z := by rw [byteN _ (by omega)]; omega
  have hq := dig_iff (UInt8.ofNat z.toNat)
  rw [hb] at hq
  simp only [Bool.cond_false_right]
  refine ⟨⟨fun h => dec_and1 h,fun h => dec_and0 h⟩,?_⟩
  rw [Bool.eq_iff_iff,Bool.and_eq_true,decide_eq_true_eq,decide_eq_true_eq,hq]
noncomputable section
def tw5q1 (p0:Int):Bool := bif decide ((97:Int) ≤ p0) then decide (p0 ≤ (122:Int)) else false
def tw5q2 (p0:Int):Bool := alp (UInt8.ofNat (Int.toNat p0))
end
theorem alpha_ok (z:Int) (h:0 ≤ z∧z < 256):ACalls Tryz.prog 25 [.int .u8 z] ⟨[],[]⟩ (SpecR (sC [.int .u8 z] (.bool (alp (UInt8.ofNat z.toNat)))) ()) := by
  refine con_of (A := sC _ _) (x := ()) (E := Ealp) (eOk con0_ok rfl) Tryz.func25 rfl (by kernel_rfl) rfl (by simp [sC,Ealp,EC,E0]) ?_
  refine vc_eq (T :=
    ifB (decide ((97:Int) ≤ z)) (decide (z ≤ (122:Int)) = tw5q1 z∧True) (false = tw5q1 z∧True)∧True∧ifB (tw5q1 z) (True∧∃ (y:Unit),True∧true = tw5q2 z∧True∧True) (ifB (decide ((65:Int) ≤ z)) (True∧∃ (y:Unit),True∧decide (z ≤ (90:Int)) = tw5q2 z∧True∧True) (True∧∃ (y:Unit),True∧false = tw5q2 z∧True∧True))) (by kernel_rfl) ?_
  delta tw5q1 tw5q2
  simp only [ifB_iff,decide_eq_true_eq,decide_eq_false_iff_not,true_and,and_true,exists_const]
  have hb:((UInt8.ofNat z.toNat).toNat:Int) = z := by rw [byteN _ (by omega)]; omega
  have hq := alp_iff (UInt8.ofNat z.toNat)
  rw [hb] at hq
  simp only [Bool.cond_false_right,Bool.and_eq_true,Bool.and_eq_false_iff,decide_eq_true_eq,decide_eq_false_iff_not]
  refine ⟨⟨fun h => dec_and1 h,fun h => dec_and0 h⟩,fun h => (hq.2 (.inl h)).symm,fun h => ⟨fun h1 => ?_,fun h1 => ?_⟩⟩
  · rw [Bool.eq_iff_iff,decide_eq_true_eq,hq]; omega
  · cases ha:alp (UInt8.ofNat z.toNat) with
    | false => rfl
    | true => have := hq.1 ha; omega
theorem sStP_ok {k:Nat} {args:List D} {S:St} {d:D} {p:Prop} (h:p→ACalls Tryz.prog k args S (SpecR (sSt args S d) ())):∀ x:Unit,p→ACalls Tryz.prog k args S (SpecR (sStP args S d p) x) :=
  fun _ hp => (h hp).mono fun _ _ ⟨_,_q1,q2,q3⟩ => ⟨(),trivial,q2,q3⟩
theorem numS_split (t:List UInt8):numS (t.getD 0 0 == 95) (if t.getD 0 0 = 95 then t.drop 1 else t) = t := by
  by_cases h:t.getD 0 0 = 95
  · rw [if_pos h,h]
    cases t with
    | nil => exact absurd h (by decide)
    | cons c r =>
      have h:c = 95 := h
      subst h; rfl
  · have h2:(t.getD 0 0 == 95) = false := by simpa using h
    rw [if_neg h,h2]; rfl
theorem conNb_ok (x:Nat) (s:List UInt8) (p:Int) (l:D):ConOk Tryz.prog (conNb x s p l) := by
  have nn:∀ {a:Int},0 ≤ a→((a.toNat:Nat):Int) = a := fun h => by omega
  intro k ds S A h
  unfold conNb at h
  split at h
  · split at h
    · injection h with h; subst h
      refine ConOk.plain (sStP_ok fun ⟨h1,h2,h3⟩ => ?_) rfl rfl
      have h2' := Int.toNat_le.2 h2
      have := run_dig x s p l _ h2' h3
      rw [nn h1] at this
      exact this
    · injection h with h; subst h
      refine ConOk.plain (sStP_ok fun ⟨h1,h2,h3⟩ => ?_) rfl rfl
      have h2' := Int.toNat_le.2 h2
      have := run_aln x s p l _ h2' h3
      rw [nn h1] at this
      exact this
    · injection h with h; subst h
      refine ConOk.plain (sStP_ok fun ⟨h1,h2,h3⟩ => ?_) rfl rfl
      have h2' := Int.toNat_le.2 h2
      have := run_hex x s p l _ h2' h3
      rw [nn h1] at this
      exact this
    · injection h with h; subst h
      refine ConOk.plain (sStP_ok fun ⟨h1,h2,h3⟩ => ?_) rfl rfl
      have h2' := Int.toNat_le.2 h2
      have := run_nln x s p l _ h2' h3
      rw [nn h1] at this
      exact this
    · cases h
  · split at h
    · injection h with h; subst h
      exact pC_ok fun h => ⟨weakL_refl _,alpha_ok _ h⟩
    · cases h
  · split at h
    · injection h with h; subst h
      exact pC_ok fun h => ⟨weakL_refl _,digit_ok _ h⟩
    · cases h
  · split at h
    · rename_i t
      injection h with h; subst h
      refine pC_ok fun ⟨h1,h2,h3⟩ => ⟨weakL_refl _,?_⟩
      have := read_ok (t.getD 0 0 == 95) _ h1 h2 (by split <;> (try rw [List.length_drop]) <;> omega)
      rw [numS_split] at this
      exact this
    · cases h
  · cases h
theorem num_ok (x : Nat) (s : List UInt8) (p : Nat) (l : D) (hp : p < s.length) (hs : s.length ≤ 4294967296) :
    ACalls Tryz.prog 24 [.ref 0 x 0] (scS x s p l) (SpecR (sSt [.ref 0 x 0] (scS x s p l) (lexD (numT (s.drop p)))) ()) := number_ok conNb_ok x s p l hp hs
end Go.Proofs.YtfldjfpcefcjdaaGreatDoor
