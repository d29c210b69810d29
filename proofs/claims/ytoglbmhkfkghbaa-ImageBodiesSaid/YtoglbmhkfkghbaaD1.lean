/- Functions of the given program and what each of them computes: lemmas towards the statement, their conditions stated with each of them. -/
import Derived.Test.YtoglbmhkfkghbaaAb2
import Derived.Test.YtoglbmhkfkghbaaProg
import Derived.KernelRfl
import Derived.Shelf.Strings.Builder1
import Derived.Shelf.Strings.Builder2
import Derived.Shelf.Strings.BuilderF
import Derived.Shelf.Strings.Prefix
import Derived.Shelf.Bits.Mul64
import Derived.Shelf.Strings.Repeat
import Derived.Lib.Repeat
namespace Go.Proofs.Ytoglbmhkfkghbaa
open Go Go.Ab
noncomputable def tab:List (Nat × TI) := [
  (0,⟨TypeDesc.tuple #[],1,0,[.unk]⟩),
  (1,⟨TypeDesc.func #[] #[] false,1,8,[.nilf]⟩),
  (2,⟨TypeDesc.int .i64,1,8,[.int .i64 0]⟩),
  (3,⟨TypeDesc.int .i64,1,8,[.int .i64 0]⟩),
  (4,⟨TypeDesc.bool,1,1,[.bool false]⟩),
  (5,⟨TypeDesc.int .u8,1,1,[.int .u8 0]⟩),
  (9,⟨TypeDesc.string,1,16,[.str []]⟩),
  (20,⟨TypeDesc.interface #[],1,16,[.nili]⟩),
  (21,⟨TypeDesc.int .i32,1,4,[.int .i32 0]⟩),
  (22,⟨TypeDesc.slice 5,1,24,[.sl 1 0 (fun _ => []) .nil]⟩),
  (23,⟨TypeDesc.func #[] #[4] false,1,8,[.nilf]⟩),
  (24,⟨TypeDesc.int .u32,1,4,[.int .u32 0]⟩),
  (25,⟨TypeDesc.func #[22] #[24] false,1,8,[.nilf]⟩),
  (26,⟨TypeDesc.func #[22] #[4] false,1,8,[.nilf]⟩),
  (27,⟨TypeDesc.slice 53,1,24,[.sl 1 0 (fun _ => []) .nil]⟩),
  (28,⟨TypeDesc.slice 48,1,24,[.sl 1 0 (fun _ => []) .nil]⟩),
  (29,⟨TypeDesc.slice 57,1,24,[.sl 1 0 (fun _ => []) .nil]⟩),
  (30,⟨TypeDesc.slice 60,1,24,[.sl 1 0 (fun _ => []) .nil]⟩),
  (31,⟨Try.t31.desc,4,96,[.sl 1 0 (fun _ => []) .nil,.sl 1 0 (fun _ => []) .nil,.sl 1 0 (fun _ => []) .nil,.sl 1 0 (fun _ => []) .nil]⟩),
  (32,⟨Try.t31.desc,4,96,[.sl 1 0 (fun _ => []) .nil,.sl 1 0 (fun _ => []) .nil,.sl 1 0 (fun _ => []) .nil,.sl 1 0 (fun _ => []) .nil]⟩),
  (33,⟨TypeDesc.func #[32] #[4] false,1,8,[.nilf]⟩),
  (34,⟨TypeDesc.int .i64,1,8,[.int .i64 0]⟩),
  (35,⟨TypeDesc.tuple #[22,34],1,0,[.unk]⟩),
  (36,⟨TypeDesc.func #[32] #[22,34] false,1,8,[.nilf]⟩),
  (37,⟨TypeDesc.tuple #[32,34],1,0,[.unk]⟩),
  (38,⟨TypeDesc.func #[22] #[32,34] false,1,8,[.nilf]⟩),
  (39,⟨TypeDesc.func #[32,32] #[4] false,1,8,[.nilf]⟩),
  (40,⟨TypeDesc.func #[22] #[22] false,1,8,[.nilf]⟩),
  (41,⟨TypeDesc.int .u64,1,8,[.int .u64 0]⟩),
  (42,⟨TypeDesc.func #[32,3,5] #[4] false,1,8,[.nilf]⟩),
  (43,⟨TypeDesc.int .i64,1,8,[.int .i64 0]⟩),
  (44,⟨Try.t44.desc,4,32,[.int .i64 0,.int .i64 0,.int .i64 0,.int .i64 0]⟩),
  (45,⟨Try.t44.desc,4,32,[.int .i64 0,.int .i64 0,.int .i64 0,.int .i64 0]⟩),
  (46,⟨TypeDesc.slice 45,1,24,[.sl 1 0 (fun _ => []) .nil]⟩),
  (47,⟨Try.t47.desc,2,32,[.int .i64 0,.sl 1 0 (fun _ => []) .nil]⟩),
  (48,⟨Try.t47.desc,2,32,[.int .i64 0,.sl 1 0 (fun _ => []) .nil]⟩),
  (49,⟨TypeDesc.func #[53,3] #[4] false,1,8,[.nilf]⟩),
  (50,⟨TypeDesc.int .i64,1,8,[.int .i64 0]⟩),
  (51,⟨TypeDesc.slice 3,1,24,[.sl 1 0 (fun _ => []) .nil]⟩),
  (52,⟨Try.t52.desc,4,80,[.int .i64 0,.sl 1 0 (fun _ => []) .nil,.sl 1 0 (fun _ => []) .nil,.sl 1 0 (fun _ => []) .nil]⟩),
  (53,⟨Try.t52.desc,4,80,[.int .i64 0,.sl 1 0 (fun _ => []) .nil,.sl 1 0 (fun _ => []) .nil,.sl 1 0 (fun _ => []) .nil]⟩),
  (54,⟨TypeDesc.slice 88,1,24,[.sl 1 0 (fun _ => []) .nil]⟩),
  (55,⟨TypeDesc.int .i64,1,8,[.int .i64 0]⟩),
  (56,⟨Try.t56.desc,4,48,[.int .i64 0,.sl 1 0 (fun _ => []) .nil,.int .i64 0,.int .i64 0]⟩),
  (57,⟨Try.t56.desc,4,48,[.int .i64 0,.sl 1 0 (fun _ => []) .nil,.int .i64 0,.int .i64 0]⟩),
  (58,⟨TypeDesc.slice 91,1,24,[.sl 1 0 (fun _ => []) .nil]⟩),
  (59,⟨Try.t59.desc,2,32,[.int .i64 0,.sl 1 0 (fun _ => []) .nil]⟩),
  (60,⟨Try.t59.desc,2,32,[.int .i64 0,.sl 1 0 (fun _ => []) .nil]⟩),
  (61,⟨TypeDesc.func #[32] #[34] false,1,8,[.nilf]⟩),
  (62,⟨TypeDesc.pointer 64,1,8,[.nilp]⟩),
  (63,⟨Try.t63.desc,1,24,[.sl 1 0 (fun _ => []) .nil]⟩),
  (64,⟨Try.t63.desc,1,24,[.sl 1 0 (fun _ => []) .nil]⟩),
  (65,⟨TypeDesc.func #[32] #[] false,1,8,[.nilf]⟩),
  (66,⟨TypeDesc.func #[32] #[22] false,1,8,[.nilf]⟩),
  (67,⟨TypeDesc.func #[22,22] #[4] false,1,8,[.nilf]⟩),
  (68,⟨TypeDesc.func #[53] #[53] false,1,8,[.nilf]⟩),
  (69,⟨TypeDesc.pointer 71,1,8,[.nilp]⟩),
  (70,⟨Try.t70.desc,3,40,[.sl 1 0 (fun _ => []) .nil,.int .i64 0,.bool false]⟩),
  (71,⟨Try.t70.desc,3,40,[.sl 1 0 (fun _ => []) .nil,.int .i64 0,.bool false]⟩),
  (72,⟨TypeDesc.func #[] #[32] false,1,8,[.nilf]⟩),
  (73,⟨TypeDesc.func #[53,53] #[4] false,1,8,[.nilf]⟩),
  (74,⟨TypeDesc.func #[28,28] #[4] false,1,8,[.nilf]⟩),
  (75,⟨TypeDesc.func #[29,29] #[4] false,1,8,[.nilf]⟩),
  (76,⟨TypeDesc.func #[30,30] #[4] false,1,8,[.nilf]⟩),
  (77,⟨TypeDesc.func #[53] #[3] false,1,8,[.nilf]⟩),
  (78,⟨TypeDesc.func #[27,80] #[4] false,1,8,[.nilf]⟩),
  (79,⟨TypeDesc.func #[53] #[34] false,1,8,[.nilf]⟩),
  (80,⟨TypeDesc.func #[53] #[4] false,1,8,[.nilf]⟩),
  (81,⟨TypeDesc.func #[29,82] #[4] false,1,8,[.nilf]⟩),
  (82,⟨TypeDesc.func #[57] #[4] false,1,8,[.nilf]⟩),
  (83,⟨TypeDesc.tuple #[3,4],1,0,[.unk]⟩),
  (84,⟨TypeDesc.func #[32,3] #[3,4] false,1,8,[.nilf]⟩),
  (85,⟨TypeDesc.func #[51] #[] true,1,8,[.nilf]⟩),
  (86,⟨TypeDesc.func #[53] #[] false,1,8,[.nilf]⟩),
  (87,⟨Try.t87.desc,4,32,[.int .i64 0,.int .i64 0,.int .i64 0,.int .i64 0]⟩),
  (88,⟨Try.t87.desc,4,32,[.int .i64 0,.int .i64 0,.int .i64 0,.int .i64 0]⟩),
  (89,⟨TypeDesc.int .i64,1,8,[.int .i64 0]⟩),
  (90,⟨Try.t90.desc,6,48,[.int .i64 0,.int .i64 0,.int .i64 0,.int .i64 0,.int .i64 0,.int .i64 0]⟩),
  (91,⟨Try.t90.desc,6,48,[.int .i64 0,.int .i64 0,.int .i64 0,.int .i64 0,.int .i64 0,.int .i64 0]⟩),
  (92,⟨TypeDesc.func #[3] #[22] false,1,8,[.nilf]⟩),
  (93,⟨TypeDesc.func #[22,53] #[22] false,1,8,[.nilf]⟩),
  (94,⟨TypeDesc.func #[22,51] #[22] false,1,8,[.nilf]⟩),
  (95,⟨Try.t95.desc,0,0,[]⟩),
  (96,⟨Try.t95.desc,0,0,[]⟩),
  (97,⟨TypeDesc.tuple #[96,4],1,0,[.unk]⟩),
  (98,⟨TypeDesc.pointer 99,1,8,[.nilp]⟩),
  (99,⟨Try.t63.desc,1,24,[.sl 1 0 (fun _ => []) .nil]⟩),
  (100,⟨TypeDesc.func #[] #[3] false,1,8,[.nilf]⟩),
  (101,⟨TypeDesc.func #[3] #[53] false,1,8,[.nilf]⟩),
  (102,⟨TypeDesc.func #[3] #[51] false,1,8,[.nilf]⟩),
  (103,⟨TypeDesc.func #[51,51] #[4] false,1,8,[.nilf]⟩),
  (104,⟨TypeDesc.func #[27,80] #[3] false,1,8,[.nilf]⟩),
  (105,⟨TypeDesc.func #[53] #[34,3,3] false,1,8,[.nilf]⟩),
  (106,⟨TypeDesc.func #[3] #[4] false,1,8,[.nilf]⟩),
  (107,⟨TypeDesc.tuple #[34,3,3],1,0,[.unk]⟩),
  (108,⟨TypeDesc.func #[29,82] #[3] false,1,8,[.nilf]⟩),
  (109,⟨TypeDesc.func #[3,3,3] #[4] false,1,8,[.nilf]⟩),
  (110,⟨TypeDesc.slice 4,1,24,[.sl 1 0 (fun _ => []) .nil]⟩),
  (111,⟨Try.t111.desc,3,40,[.str [],.str [],.bool false]⟩),
  (112,⟨Try.t111.desc,3,40,[.str [],.str [],.bool false]⟩),
  (113,⟨TypeDesc.func #[32,3,45] #[112] false,1,8,[.nilf]⟩),
  (114,⟨TypeDesc.tuple #[22,4],1,0,[.unk]⟩),
  (115,⟨TypeDesc.func #[22,112] #[22,4] false,1,8,[.nilf]⟩),
  (116,⟨TypeDesc.int .u64,1,8,[.int .u64 0]⟩),
  (117,⟨TypeDesc.tuple #[34,3],1,0,[.unk]⟩),
  (118,⟨TypeDesc.func #[53] #[34,3] false,1,8,[.nilf]⟩),
  (119,⟨TypeDesc.tuple #[9,4],1,0,[.unk]⟩),
  (120,⟨TypeDesc.func #[9,122] #[9,4] false,1,8,[.nilf]⟩),
  (121,⟨Try.t121.desc,3,40,[.str [],.str [],.bool false]⟩),
  (122,⟨Try.t121.desc,3,40,[.str [],.str [],.bool false]⟩),
  (123,⟨TypeDesc.func #[32,3,45] #[122] false,1,8,[.nilf]⟩),
  (124,⟨TypeDesc.func #[4] #[] false,1,8,[.nilf]⟩)]
theorem tab_ok:TabOk Try.prog (tabGet tab) :=
  TabOk.cons (ti := ⟨_,_,_,_⟩) Try.underlying0 (by kernel_rfl) <|
  TabOk.cons (ti := ⟨_,_,_,_⟩) Try.underlying1 (by kernel_rfl) <|
  TabOk.cons (ti := ⟨_,_,_,_⟩) Try.underlying2 (by kernel_rfl) <|
  TabOk.cons (ti := ⟨_,_,_,_⟩) Try.underlying3 (by kernel_rfl) <|
  TabOk.cons (ti := ⟨_,_,_,_⟩) Try.underlying4 (by kernel_rfl) <|
  TabOk.cons (ti := ⟨_,_,_,_⟩) Try.underlying5 (by kernel_rfl) <|
  TabOk.cons (ti := ⟨_,_,_,_⟩) Try.underlying9 (by kernel_rfl) <|
  TabOk.cons (ti := ⟨_,_,_,_⟩) Try.underlying20 (by kernel_rfl) <|
  TabOk.cons (ti := ⟨_,_,_,_⟩) Try.underlying21 (by kernel_rfl) <|
  TabOk.cons (ti := ⟨_,_,_,_⟩) Try.underlying22 (by kernel_rfl) <|
  TabOk.cons (ti := ⟨_,_,_,_⟩) Try.underlying23 (by kernel_rfl) <|
  TabOk.cons (ti := ⟨_,_,_,_⟩) Try.underlying24 (by kernel_rfl) <|
  TabOk.cons (ti := ⟨_,_,_,_⟩) Try.underlying25 (by kernel_rfl) <|
  TabOk.cons (ti := ⟨_,_,_,_⟩) Try.underlying26 (by kernel_rfl) <|
  TabOk.cons (ti := ⟨_,_,_,_⟩) Try.underlying27 (by kernel_rfl) <|
  TabOk.cons (ti := ⟨_,_,_,_⟩) Try.underlying28 (by kernel_rfl) <|
  TabOk.cons (ti := ⟨_,_,_,_⟩) Try.underlying29 (by kernel_rfl) <|
  TabOk.cons (ti := ⟨_,_,_,_⟩) Try.underlying30 (by kernel_rfl) <|
  TabOk.cons (ti := ⟨_,_,_,_⟩) Try.underlying31 (by kernel_rfl) <|
  TabOk.cons (ti := ⟨_,_,_,_⟩) Try.underlying32 (by kernel_rfl) <|
  TabOk.cons (ti := ⟨_,_,_,_⟩) Try.underlying33 (by kernel_rfl) <|
  TabOk.cons (ti := ⟨_,_,_,_⟩) Try.underlying34 (by kernel_rfl) <|
  TabOk.cons (ti := ⟨_,_,_,_⟩) Try.underlying35 (by kernel_rfl) <|
  TabOk.cons (ti := ⟨_,_,_,_⟩) Try.underlying36 (by kernel_rfl) <|
  TabOk.cons (ti := ⟨_,_,_,_⟩) Try.underlying37 (by kernel_rfl) <|
  TabOk.cons (ti := ⟨_,_,_,_⟩) Try.underlying38 (by kernel_rfl) <|
  TabOk.cons (ti := ⟨_,_,_,_⟩) Try.underlying39 (by kernel_rfl) <|
  TabOk.cons (ti := ⟨_,_,_,_⟩) Try.underlying40 (by kernel_rfl) <|
  TabOk.cons (ti := ⟨_,_,_,_⟩) Try.underlying41 (by kernel_rfl) <|
  TabOk.cons (ti := ⟨_,_,_,_⟩) Try.underlying42 (by kernel_rfl) <|
  TabOk.cons (ti := ⟨_,_,_,_⟩) Try.underlying43 (by kernel_rfl) <|
  TabOk.cons (ti := ⟨_,_,_,_⟩) Try.underlying44 (by kernel_rfl) <|
  TabOk.cons (ti := ⟨_,_,_,_⟩) Try.underlying45 (by kernel_rfl) <|
  TabOk.cons (ti := ⟨_,_,_,_⟩) Try.underlying46 (by kernel_rfl) <|
  TabOk.cons (ti := ⟨_,_,_,_⟩) Try.underlying47 (by kernel_rfl) <|
  TabOk.cons (ti := ⟨_,_,_,_⟩) Try.underlying48 (by kernel_rfl) <|
  TabOk.cons (ti := ⟨_,_,_,_⟩) Try.underlying49 (by kernel_rfl) <|
  TabOk.cons (ti := ⟨_,_,_,_⟩) Try.underlying50 (by kernel_rfl) <|
  TabOk.cons (ti := ⟨_,_,_,_⟩) Try.underlying51 (by kernel_rfl) <|
  TabOk.cons (ti := ⟨_,_,_,_⟩) Try.underlying52 (by kernel_rfl) <|
  TabOk.cons (ti := ⟨_,_,_,_⟩) Try.underlying53 (by kernel_rfl) <|
  TabOk.cons (ti := ⟨_,_,_,_⟩) Try.underlying54 (by kernel_rfl) <|
  TabOk.cons (ti := ⟨_,_,_,_⟩) Try.underlying55 (by kernel_rfl) <|
  TabOk.cons (ti := ⟨_,_,_,_⟩) Try.underlying56 (by kernel_rfl) <|
  TabOk.cons (ti := ⟨_,_,_,_⟩) Try.underlying57 (by kernel_rfl) <|
  TabOk.cons (ti := ⟨_,_,_,_⟩) Try.underlying58 (by kernel_rfl) <|
  TabOk.cons (ti := ⟨_,_,_,_⟩) Try.underlying59 (by kernel_rfl) <|
  TabOk.cons (ti := ⟨_,_,_,_⟩) Try.underlying60 (by kernel_rfl) <|
  TabOk.cons (ti := ⟨_,_,_,_⟩) Try.underlying61 (by kernel_rfl) <|
  TabOk.cons (ti := ⟨_,_,_,_⟩) Try.underlying62 (by kernel_rfl) <|
  TabOk.cons (ti := ⟨_,_,_,_⟩) Try.underlying63 (by kernel_rfl) <|
  TabOk.cons (ti := ⟨_,_,_,_⟩) Try.underlying64 (by kernel_rfl) <|
  TabOk.cons (ti := ⟨_,_,_,_⟩) Try.underlying65 (by kernel_rfl) <|
  TabOk.cons (ti := ⟨_,_,_,_⟩) Try.underlying66 (by kernel_rfl) <|
  TabOk.cons (ti := ⟨_,_,_,_⟩) Try.underlying67 (by kernel_rfl) <|
  TabOk.cons (ti := ⟨_,_,_,_⟩) Try.underlying68 (by kernel_rfl) <|
  TabOk.cons (ti := ⟨_,_,_,_⟩) Try.underlying69 (by kernel_rfl) <|
  TabOk.cons (ti := ⟨_,_,_,_⟩) Try.underlying70 (by kernel_rfl) <|
  TabOk.cons (ti := ⟨_,_,_,_⟩) Try.underlying71 (by kernel_rfl) <|
  TabOk.cons (ti := ⟨_,_,_,_⟩) Try.underlying72 (by kernel_rfl) <|
  TabOk.cons (ti := ⟨_,_,_,_⟩) Try.underlying73 (by kernel_rfl) <|
  TabOk.cons (ti := ⟨_,_,_,_⟩) Try.underlying74 (by kernel_rfl) <|
  TabOk.cons (ti := ⟨_,_,_,_⟩) Try.underlying75 (by kernel_rfl) <|
  TabOk.cons (ti := ⟨_,_,_,_⟩) Try.underlying76 (by kernel_rfl) <|
  TabOk.cons (ti := ⟨_,_,_,_⟩) Try.underlying77 (by kernel_rfl) <|
  TabOk.cons (ti := ⟨_,_,_,_⟩) Try.underlying78 (by kernel_rfl) <|
  TabOk.cons (ti := ⟨_,_,_,_⟩) Try.underlying79 (by kernel_rfl) <|
  TabOk.cons (ti := ⟨_,_,_,_⟩) Try.underlying80 (by kernel_rfl) <|
  TabOk.cons (ti := ⟨_,_,_,_⟩) Try.underlying81 (by kernel_rfl) <|
  TabOk.cons (ti := ⟨_,_,_,_⟩) Try.underlying82 (by kernel_rfl) <|
  TabOk.cons (ti := ⟨_,_,_,_⟩) Try.underlying83 (by kernel_rfl) <|
  TabOk.cons (ti := ⟨_,_,_,_⟩) Try.underlying84 (by kernel_rfl) <|
  TabOk.cons (ti := ⟨_,_,_,_⟩) Try.underlying85 (by kernel_rfl) <|
  TabOk.cons (ti := ⟨_,_,_,_⟩) Try.underlying86 (by kernel_rfl) <|
  TabOk.cons (ti := ⟨_,_,_,_⟩) Try.underlying87 (by kernel_rfl) <|
  TabOk.cons (ti := ⟨_,_,_,_⟩) Try.underlying88 (by kernel_rfl) <|
  TabOk.cons (ti := ⟨_,_,_,_⟩) Try.underlying89 (by kernel_rfl) <|
  TabOk.cons (ti := ⟨_,_,_,_⟩) Try.underlying90 (by kernel_rfl) <|
  TabOk.cons (ti := ⟨_,_,_,_⟩) Try.underlying91 (by kernel_rfl) <|
  TabOk.cons (ti := ⟨_,_,_,_⟩) Try.underlying92 (by kernel_rfl) <|
  TabOk.cons (ti := ⟨_,_,_,_⟩) Try.underlying93 (by kernel_rfl) <|
  TabOk.cons (ti := ⟨_,_,_,_⟩) Try.underlying94 (by kernel_rfl) <|
  TabOk.cons (ti := ⟨_,_,_,_⟩) Try.underlying95 (by kernel_rfl) <|
  TabOk.cons (ti := ⟨_,_,_,_⟩) Try.underlying96 (by kernel_rfl) <|
  TabOk.cons (ti := ⟨_,_,_,_⟩) Try.underlying97 (by kernel_rfl) <|
  TabOk.cons (ti := ⟨_,_,_,_⟩) Try.underlying98 (by kernel_rfl) <|
  TabOk.cons (ti := ⟨_,_,_,_⟩) Try.underlying99 (by kernel_rfl) <|
  TabOk.cons (ti := ⟨_,_,_,_⟩) Try.underlying100 (by kernel_rfl) <|
  TabOk.cons (ti := ⟨_,_,_,_⟩) Try.underlying101 (by kernel_rfl) <|
  TabOk.cons (ti := ⟨_,_,_,_⟩) Try.underlying102 (by kernel_rfl) <|
  TabOk.cons (ti := ⟨_,_,_,_⟩) Try.underlying103 (by kernel_rfl) <|
  TabOk.cons (ti := ⟨_,_,_,_⟩) Try.underlying104 (by kernel_rfl) <|
  TabOk.cons (ti := ⟨_,_,_,_⟩) Try.underlying105 (by kernel_rfl) <|
  TabOk.cons (ti := ⟨_,_,_,_⟩) Try.underlying106 (by kernel_rfl) <|
  TabOk.cons (ti := ⟨_,_,_,_⟩) Try.underlying107 (by kernel_rfl) <|
  TabOk.cons (ti := ⟨_,_,_,_⟩) Try.underlying108 (by kernel_rfl) <|
  TabOk.cons (ti := ⟨_,_,_,_⟩) Try.underlying109 (by kernel_rfl) <|
  TabOk.cons (ti := ⟨_,_,_,_⟩) Try.underlying110 (by kernel_rfl) <|
  TabOk.cons (ti := ⟨_,_,_,_⟩) Try.underlying111 (by kernel_rfl) <|
  TabOk.cons (ti := ⟨_,_,_,_⟩) Try.underlying112 (by kernel_rfl) <|
  TabOk.cons (ti := ⟨_,_,_,_⟩) Try.underlying113 (by kernel_rfl) <|
  TabOk.cons (ti := ⟨_,_,_,_⟩) Try.underlying114 (by kernel_rfl) <|
  TabOk.cons (ti := ⟨_,_,_,_⟩) Try.underlying115 (by kernel_rfl) <|
  TabOk.cons (ti := ⟨_,_,_,_⟩) Try.underlying116 (by kernel_rfl) <|
  TabOk.cons (ti := ⟨_,_,_,_⟩) Try.underlying117 (by kernel_rfl) <|
  TabOk.cons (ti := ⟨_,_,_,_⟩) Try.underlying118 (by kernel_rfl) <|
  TabOk.cons (ti := ⟨_,_,_,_⟩) Try.underlying119 (by kernel_rfl) <|
  TabOk.cons (ti := ⟨_,_,_,_⟩) Try.underlying120 (by kernel_rfl) <|
  TabOk.cons (ti := ⟨_,_,_,_⟩) Try.underlying121 (by kernel_rfl) <|
  TabOk.cons (ti := ⟨_,_,_,_⟩) Try.underlying122 (by kernel_rfl) <|
  TabOk.cons (ti := ⟨_,_,_,_⟩) Try.underlying123 (by kernel_rfl) <|
  TabOk.cons (ti := ⟨_,_,_,_⟩) Try.underlying124 (by kernel_rfl) <|
  TabOk.nil _
end Go.Proofs.Ytoglbmhkfkghbaa
namespace Go.Proofs.Ytoglbmhkfkghbaa
open Go Go.Ab
noncomputable def frames:List (Nat × Frm) := [
  (3,{ fn := Try.f3,n := 24,V := 1,cross := [2],ord := fun _ => ([],[]) }),
  (4,{ fn := Try.f4,n := 34,V := 7,cross := [9],ord := fun _ => ([],[]) }),
  (5,{ fn := Try.f5,n := 32,V := 1,cross := [2,3,4,5,6,9],ord := fun _ => ([],[]) }),
  (6,{ fn := Try.f6,n := 63,V := 1,cross := [2,3,4,5,6,7,8,9,12,34,36],ord := fun _ => ([],[]) }),
  (7,{ fn := Try.f7,n := 39,V := 7,cross := [9,17],ord := fun _ => ([],[]) }),
  (8,{ fn := Try.f8,n := 67,V := 4,cross := [6,7,8,9,10,12,15,32],ord := fun _ => ([],[]) }),
  (9,{ fn := Try.f9,n := 59,V := 6,cross := [7],ord := fun _ => ([],[]) }),
  (10,{ fn := Try.f10,n := 31,V := 1,cross := [2,3,5,6,7,8,9,10,17,18,24],ord := fun _ => ([],[]) }),
  (11,{ fn := Try.f11,n := 34,V := 1,cross := [2,3,4,5,6,10,21,29],ord := fun _ => ([],[]) }),
  (12,{ fn := Try.f12,n := 88,V := 7,cross := [28,33,42,47,57,62,72,77,87],ord := fun _ => ([],[]) }),
  (13,{ fn := Try.f13,n := 52,V := 8,cross := [11,26,47],ord := fun id => match id with | 10 => ([0,1,2,3,4,5,6,7,8,9,10,11,12,13],[8,9,10,13]) | _ => ([],[]) }),
  (14,{ fn := Try.f14,n := 18,V := 6,cross := [9,16],ord := fun _ => ([],[]) }),
  (15,{ fn := Try.f15,n := 86,V := 1,cross := [2,3,4,5,6,7,8,9,10,15,20,51,63,68,71,72,73,74],ord := fun id => match id with | 19 => ([0,1,2,3,4,5,6],[4,6]) | _ => ([],[]) }),
  (16,{ fn := Try.f16,n := 90,V := 1,cross := [2,3,4,5,6,7,10,14,19,58,83,87],ord := fun id => match id with | 8 => ([0,1,2,3,6,7,8,9,10,14,15,16,17,18,22,23,24,25,26,4,5,11,12,13,19,20,21,27,28,29],[4,11,19,27]) | 13 => ([0,1,2,3,4,5,6,7,8,9,10,11,12,13,14,15,16],[]) | _ => ([],[]) }),
  (17,{ fn := Try.f17,n := 51,V := 6,cross := [12,17,31],ord := fun id => match id with | 6 => ([0,1,2,3,4,5,6,7,8,9,10,11],[10]) | _ => ([],[]) }),
  (18,{ fn := Try.f18,n := 25,V := 1,cross := [2,3,4],ord := fun _ => ([],[]) }),
  (19,{ fn := Try.f19,n := 15,V := 3,cross := [4],ord := fun _ => ([],[]) }),
  (20,{ fn := Try.f20,n := 82,V := 4,cross := [5,6,7,8,10,11,12,13,41,44,63,66,69,70,71,80],ord := fun _ => ([],[]) }),
  (21,{ fn := Try.f21,n := 169,V := 2,cross := [3,5,7,9,11,13,15,17,25,26,27,28,42,43,44,45,57,58,59,60,83,84,85,86,98,99,100,101,131,132,133,134,146,147,148,149],ord := fun _ => ([],[]) }),
  (22,{ fn := Try.f22,n := 108,V := 10,cross := [14,45,50,59,78,83,92,97,107],ord := fun _ => ([],[]) }),
  (23,{ fn := Try.f23,n := 214,V := 15,cross := [23,43,63,103,123,170,190],ord := fun id => match id with | 15 => ([0,1,2,3,4,5,6,7,8,9,10,11,12,13,14,15,16,17,18,19,20,21,22,23,24,25,26,27],[25,26]) | 25 => ([0,1,2,3,4,5,6,7,8,9,10,11,12,13,14,15,16,17,18,19,20,21,22,23,24,25,26,27],[25,26]) | _ => ([],[]) }),
  (24,{ fn := Try.f24,n := 26,V := 2,cross := [4,5,10,12,13,14,24],ord := fun id => match id with | 6 => ([0,1,2,3,4,5,6,7,8],[]) | _ => ([],[]) }),
  (25,{ fn := Try.f25,n := 9,V := 1,cross := [2,3],ord := fun _ => ([],[]) }),
  (26,{ fn := Try.f26,n := 47,V := 6,cross := [32,33,34,35],ord := fun id => match id with | 1 => ([0,1,2,3,4,6,7,8,10,11,12,5,9,13,14,15,16],[5,9,13,15,16]) | 7 => ([0,1,2,3,4,5,6],[4,6]) | _ => ([],[]) }),
  (27,{ fn := Try.f27,n := 226,V := 1,cross := [2,3,4,5,6,7,8,9,10,11,12,13,14,15,16,17,18,19,20,32,52,68,109,125,172,188],ord := fun id => match id with | 6 => ([0,1,2,3,4,5,6,7],[3,4,5,7]) | 17 => ([0,1,2,3,4,5,6,7,8,9,10,11,12,13,14,15,16,17,18],[15,16,18]) | 29 => ([0,1,2,3,4,5,6,7,8,9,10,11,12,13,14,15,16,17,18],[15,16,18]) | 43 => ([0,1,2,3,4,5,6,7,8,9,10,11,12,13,14,15,16,17,18,19,20,21,22,23,24],[21,22,24]) | _ => ([],[]) }),
  (28,{ fn := Try.f28,n := 55,V := 6,cross := [35,40,54],ord := fun id => match id with | 6 => ([0,1,2,3,4,5,6,7,8,9,10,11],[10]) | _ => ([],[]) }),
  (29,{ fn := Try.f29,n := 71,V := 2,cross := [4,5,6,11,15,43,51,70],ord := fun id => match id with | 6 => ([0,1,2,3,4,5,6,7,8,9,10,11,12,13,14,15,16,17,18,19,20,21,22,23,24,25],[]) | 11 => ([0,1,2,3,4,5,6,7,8,9,10,11,12,13,14,15,16],[]) | _ => ([],[]) }),
  (30,{ fn := Try.f30,n := 97,V := 2,cross := [4,5,6,11,15,69,77,96],ord := fun id => match id with | 6 => ([0,1,2,3,4,5,6,7,8,9,10,11,12,13,14,15,16,17,18,19,20,21,22,23,24,25,26,27,28,29,30,31,32,33,34,35,36,37,38,39,40,41,42,43,44,45,46,47,48,49,50,51],[]) | 11 => ([0,1,2,3,4,5,6,7,8,9,10,11,12,13,14,15,16],[]) | _ => ([],[]) }),
  (31,{ fn := Try.f31,n := 71,V := 2,cross := [4,5,6,11,15,43,51,70],ord := fun id => match id with | 6 => ([0,1,2,3,4,5,6,7,8,9,10,11,12,13,14,15,16,17,18,19,20,21,22,23,24,25],[]) | 11 => ([0,1,2,3,4,5,6,7,8,9,10,11,12,13,14,15,16],[]) | _ => ([],[]) }),
  (32,{ fn := Try.f32,n := 28,V := 5,cross := [16],ord := fun _ => ([],[]) }),
  (33,{ fn := Try.f33,n := 9,V := 2,cross := [4],ord := fun _ => ([],[]) }),
  (34,{ fn := Try.f34,n := 6,V := 3,cross := [],ord := fun _ => ([],[]) }),
  (35,{ fn := Try.f35,n := 16,V := 7,cross := [],ord := fun _ => ([],[]) }),
  (36,{ fn := Try.f36,n := 9,V := 2,cross := [4],ord := fun _ => ([],[]) }),
  (37,{ fn := Try.f37,n := 6,V := 3,cross := [],ord := fun _ => ([],[]) }),
  (38,{ fn := Try.f38,n := 70,V := 6,cross := [32,34,35,36,37,68],ord := fun _ => ([],[]) }),
  (39,{ fn := Try.f39,n := 139,V := 3,cross := [4,5,6,7,8,9,10,11,12,13,14,15,16,17,19,45,49,50,51,52,73,108,116,117,118,119,136],ord := fun _ => ([],[]) }),
  (40,{ fn := Try.f40,n := 48,V := 2,cross := [5,6,7,8,9,10,17,21],ord := fun _ => ([],[]) }),
  (41,{ fn := Try.f41,n := 33,V := 2,cross := [3,5,23,24,25,26],ord := fun _ => ([],[]) }),
  (42,{ fn := Try.f42,n := 11,V := 5,cross := [],ord := fun _ => ([],[]) }),
  (43,{ fn := Try.f43,n := 75,V := 5,cross := [31,36,74],ord := fun _ => ([],[]) }),
  (44,{ fn := Try.f44,n := 144,V := 3,cross := [4,5,6,7,8,9,10,11,12,13,42,46,114,123,142],ord := fun id => match id with | 10 => ([0,1,2,3,4,5,6,7,8,9,10,11,12,13],[7,8]) | _ => ([],[]) }),
  (45,{ fn := Try.f45,n := 29,V := 1,cross := [2,3,4,9,14],ord := fun _ => ([],[]) }),
  (46,{ fn := Try.f46,n := 37,V := 2,cross := [3,4,5,26],ord := fun _ => ([],[]) }),
  (47,{ fn := Try.f47,n := 20,V := 2,cross := [4,5,9],ord := fun _ => ([],[]) }),
  (48,{ fn := Try.f48,n := 17,V := 3,cross := [4,7,14],ord := fun _ => ([],[]) }),
  (49,{ fn := Try.f49,n := 136,V := 1,cross := [2,3,4,5,6,8,9,10,20,21,22,27,28,29,53,54,55,60,61,62,92,93,94,99,100,101],ord := fun id => match id with | 4 => ([0,1,2,3,4,5,6,7],[3,4,5,7]) | 11 => ([0,1,2,4,6,8,3,5,7,9,10,11,12,13,14],[3,5,7,9,11,12,14]) | 20 => ([0,1,2,4,6,8,3,5,7,9,10,11,12,13,14],[3,5,7,9,11,12,14]) | 30 => ([0,1,2,4,6,8,10,12,3,5,7,9,11,13,14,15,16,17,18],[3,5,7,9,11,13,15,16,18]) | _ => ([],[]) }),
  (50,{ fn := Try.f50,n := 31,V := 1,cross := [2,3,21,29],ord := fun id => match id with | 2 => ([0,1,2,3,4,5,6,7,8,9,10,11,12,13,14,15],[]) | _ => ([],[]) }),
  (51,{ fn := Try.f51,n := 75,V := 2,cross := [4,5,6,7,33,41,48,62],ord := fun id => match id with | 14 => ([0,1,2,3,4,5,6,7,8,9],[5,6,7,9]) | _ => ([],[]) }),
  (52,{ fn := Try.f52,n := 80,V := 1,cross := [2,3,4,5,6,14,26,49,60,66,72],ord := fun id => match id with | 5 => ([0,1,2,3,4,5,6,7,8,9],[]) | 6 => ([0,1,2,3,4,5,6,7,8,9,10],[]) | _ => ([],[]) }),
  (53,{ fn := Try.f53,n := 25,V := 2,cross := [4,5,6,16],ord := fun _ => ([],[]) }),
  (54,{ fn := Try.f54,n := 26,V := 2,cross := [4,5,10,14,25],ord := fun id => match id with | 6 => ([0,1,2,3,4,5,6,7,8],[]) | _ => ([],[]) }),
  (55,{ fn := Try.f55,n := 19,V := 2,cross := [4,5,7,8,9,16],ord := fun _ => ([],[]) }),
  (56,{ fn := Try.f56,n := 87,V := 7,cross := [8,9,10,12,13,14,15,19,22,23,24,25,45,55,56,57,58,69,84],ord := fun id => match id with | 10 => ([0,1,2,3,4,5,6,7,8],[]) | _ => ([],[]) }),
  (57,{ fn := Try.f57,n := 44,V := 5,cross := [12,13,16,20,25,29,34],ord := fun id => match id with | 1 => ([0,1,2,3,4,5,6,7],[]) | _ => ([],[]) }),
  (58,{ fn := Try.f58,n := 9,V := 1,cross := [2],ord := fun _ => ([],[]) }),
  (59,{ fn := Try.f59,n := 17,V := 1,cross := [2],ord := fun _ => ([],[]) }),
  (60,{ fn := Try.f60,n := 19,V := 2,cross := [4,5,7,8,9,16],ord := fun _ => ([],[]) }),
  (61,{ fn := Try.f61,n := 15,V := 3,cross := [6],ord := fun _ => ([],[]) }),
  (62,{ fn := Try.f62,n := 5,V := 1,cross := [2],ord := fun _ => ([],[]) }),
  (63,{ fn := Try.f63,n := 151,V := 4,cross := [5,6,7,8,10,11,22,33,40,45,55,68,78,84,90,96,106,120,128],ord := fun id => match id with | 16 => ([0,1,2,3,4,5,6,7,8,9,10,11],[9,11]) | 18 => ([0,1,2,4,5,3,6,7,8],[3,6,8]) | 28 => ([0,1,2,3,4,5,6,7,8,9,10,11,12],[10,12]) | _ => ([],[]) }),
  (64,{ fn := Try.f64,n := 56,V := 2,cross := [3,4,5,6,17,20,21,22,43],ord := fun id => match id with | 6 => ([0,1,2,3,4,5,6,7,8,9,10,11,12,13,14,15,16,17,18,19],[]) | 9 => ([0,1,2,3,4,5,6,7,8,9,10,11,12],[10]) | _ => ([],[]) }),
  (65,{ fn := Try.f65,n := 107,V := 11,cross := [18,23,30,43,48,76,81,94,105],ord := fun id => match id with | 9 => ([0,2,3,1,4,5,6,7,8,9],[1,4]) | _ => ([],[]) }),
  (66,{ fn := Try.f66,n := 15,V := 3,cross := [6],ord := fun _ => ([],[]) }),
  (67,{ fn := Try.f67,n := 5,V := 1,cross := [2],ord := fun _ => ([],[]) }),
  (68,{ fn := Try.f68,n := 55,V := 2,cross := [3,4,5,6,17,22,43],ord := fun id => match id with | 6 => ([0,1,2,3,4,5,6,7,8,9,10,11,12,13,14,15,16,17,18],[]) | 8 => ([0,1,2,3,4,5,6,7,8,9,10,11,12],[]) | _ => ([],[]) }),
  (69,{ fn := Try.f69,n := 242,V := 4,cross := [5,6,8,9,24,35,46,64,74,80,91,102,113,128,139,153,167,177,183,202,227],ord := fun id => match id with | 9 => ([0,1,2,3,4,5,6,7,8,9,10,11,12,13,14,15,16],[13,16]) | 33 => ([0,1,2,3,4,5,6,7,8,9,10,11,12,13,14,15,16,17],[14,17]) | _ => ([],[]) }),
  (70,{ fn := Try.f70,n := 19,V := 1,cross := [2,3],ord := fun _ => ([],[]) }),
  (71,{ fn := Try.f71,n := 63,V := 2,cross := [4,5,22,23,24,39,40,41,44],ord := fun id => match id with | 6 => ([0,1,2,3,4,5,6,7],[3,4,5,7]) | 12 => ([0,1,2,3,4,5,6,7,8,9],[5,6,7,9]) | 13 => ([0,1,2,3,4,5,6,7],[3,4,5,7]) | _ => ([],[]) }),
  (72,{ fn := Try.f72,n := 67,V := 1,cross := [2,3,4,5,49,59],ord := fun _ => ([],[]) }),
  (73,{ fn := Try.f73,n := 6,V := 1,cross := [3],ord := fun _ => ([],[]) }),
  (74,{ fn := Try.f74,n := 39,V := 1,cross := [2,3,4,7,11,25,30,38],ord := fun _ => ([],[]) }),
  (75,{ fn := Try.f75,n := 10,V := 1,cross := [2,5],ord := fun _ => ([],[]) }),
  (76,{ fn := Try.f76,n := 9,V := 2,cross := [4],ord := fun _ => ([],[]) }),
  (77,{ fn := Try.f77,n := 5,V := 1,cross := [2],ord := fun _ => ([],[]) }),
  (78,{ fn := Try.f78,n := 31,V := 1,cross := [2,3,5,8,9,10,11,12,15,22,29],ord := fun _ => ([],[]) }),
  (79,{ fn := Try.f79,n := 8,V := 1,cross := [2,5],ord := fun _ => ([],[]) }),
  (80,{ fn := Try.f80,n := 55,V := 4,cross := [7,8,22,37,38,46],ord := fun id => match id with | 6 => ([0,1,2,4,5,3,6,7,8,9,10,11,12,13],[3,6,13]) | _ => ([],[]) }),
  (81,{ fn := Try.f81,n := 9,V := 2,cross := [4],ord := fun _ => ([],[]) }),
  (82,{ fn := Try.f82,n := 73,V := 3,cross := [4,5,15,16,18,20,22,25,27,29,31,33,35,37,39,67],ord := fun _ => ([],[]) }),
  (83,{ fn := Try.f83,n := 21,V := 1,cross := [2,3,6,10,17,20],ord := fun _ => ([],[]) }),
  (84,{ fn := Try.f84,n := 16,V := 3,cross := [4,5,11],ord := fun _ => ([],[]) }),
  (85,{ fn := Try.f85,n := 17,V := 1,cross := [2,3,7,14],ord := fun _ => ([],[]) }),
  (86,{ fn := Try.f86,n := 9,V := 1,cross := [2],ord := fun _ => ([],[]) }),
  (87,{ fn := Try.f87,n := 17,V := 1,cross := [2],ord := fun _ => ([],[]) }),
  (88,{ fn := Try.f88,n := 33,V := 5,cross := [20],ord := fun _ => ([],[]) }),
  (89,{ fn := Try.f89,n := 16,V := 2,cross := [4,5,6,9],ord := fun _ => ([],[]) }),
  (90,{ fn := Try.f90,n := 71,V := 3,cross := [4,5,15,16,20,29,39,43,47,51,55,59,63,65],ord := fun _ => ([],[]) }),
  (91,{ fn := Try.f91,n := 27,V := 3,cross := [6,7,8,12,19],ord := fun _ => ([],[]) }),
  (92,{ fn := Try.f92,n := 19,V := 2,cross := [4,5,7,8,9,16],ord := fun _ => ([],[]) }),
  (93,{ fn := Try.f93,n := 19,V := 1,cross := [2,3,5,7,8,9,10,11],ord := fun _ => ([],[]) }),
  (94,{ fn := Try.f94,n := 125,V := 2,cross := [4,5,6,7,8,9,10,11,12,14,18,34,40,42,43,49,58,67,76,85,96,104,113],ord := fun _ => ([],[]) }),
  (95,{ fn := Try.f95,n := 30,V := 1,cross := [2,3,4,8,15,20,28],ord := fun _ => ([],[]) }),
  (96,{ fn := Try.f96,n := 9,V := 2,cross := [4],ord := fun _ => ([],[]) }),
  (97,{ fn := Try.f97,n := 30,V := 2,cross := [4,5,6,7,8,9],ord := fun _ => ([],[]) }),
  (98,{ fn := Try.f98,n := 8,V := 2,cross := [4],ord := fun _ => ([],[]) }),
  (99,{ fn := Try.f99,n := 25,V := 2,cross := [7,21],ord := fun id => match id with | 3 => ([0,1,2,3,5,6,7,8,9,11,4,10,12],[4]) | _ => ([],[]) }),
  (100,{ fn := Try.f100,n := 19,V := 2,cross := [4,5],ord := fun _ => ([],[]) }),
  (101,{ fn := Try.f101,n := 8,V := 1,cross := [2],ord := fun _ => ([],[]) }),
  (102,{ fn := Try.f102,n := 14,V := 1,cross := [2],ord := fun id => match id with | 1 => ([0,1,2,3,5,6,7,8,9,4,10,11],[4,10]) | _ => ([],[]) }),
  (103,{ fn := Try.f103,n := 19,V := 2,cross := [4,5,7,8,9,16],ord := fun _ => ([],[]) }),
  (104,{ fn := Try.f104,n := 17,V := 2,cross := [4,5,6],ord := fun _ => ([],[]) }),
  (105,{ fn := Try.f105,n := 51,V := 2,cross := [4,5,6,7,8,9,10,11,12,13],ord := fun _ => ([],[]) }),
  (106,{ fn := Try.f106,n := 18,V := 2,cross := [4],ord := fun _ => ([],[]) }),
  (107,{ fn := Try.f107,n := 20,V := 1,cross := [6,19],ord := fun _ => ([],[]) }),
  (108,{ fn := Try.f108,n := 30,V := 2,cross := [4],ord := fun id => match id with | 0 => ([0,1,2,3,6,9,10,11,12,13,4,5,7,8,14,15],[4,8]) | _ => ([],[]) })]
abbrev eqs:List Nat := [45,88,91,96,112,122]
theorem eqs_ok:∀ t,eqs.contains t = true→Try.prog.eqGuardType Try.prog.depth t = false∧Try.prog.stoodInHeld t = false := by
  intro t h
  simp only [eqs,List.contains_eq_mem,List.mem_cons,List.not_mem_nil,or_false,decide_eq_true_eq] at h
  rcases h with rfl | rfl | rfl | rfl | rfl | rfl
  · exact ⟨Try.eqGuardType45,Try.stoodInHeld45⟩
  · exact ⟨Try.eqGuardType88,Try.stoodInHeld88⟩
  · exact ⟨Try.eqGuardType91,Try.stoodInHeld91⟩
  · exact ⟨Try.eqGuardType96,Try.stoodInHeld96⟩
  · exact ⟨Try.eqGuardType112,Try.stoodInHeld112⟩
  · exact ⟨Try.eqGuardType122,Try.stoodInHeld122⟩
theorem frames_ok:FrmOk Try.prog (frmGet frames) :=
  FrmOk.cons Try.func3 rfl (by decide) <|
  FrmOk.cons Try.func4 rfl (by decide) <|
  FrmOk.cons Try.func5 rfl (by decide) <|
  FrmOk.cons Try.func6 rfl (by decide) <|
  FrmOk.cons Try.func7 rfl (by decide) <|
  FrmOk.cons Try.func8 rfl (by decide) <|
  FrmOk.cons Try.func9 rfl (by decide) <|
  FrmOk.cons Try.func10 rfl (by decide) <|
  FrmOk.cons Try.func11 rfl (by decide) <|
  FrmOk.cons Try.func12 rfl (by decide) <|
  FrmOk.cons Try.func13 rfl (by decide) <|
  FrmOk.cons Try.func14 rfl (by decide) <|
  FrmOk.cons Try.func15 rfl (by decide) <|
  FrmOk.cons Try.func16 rfl (by decide) <|
  FrmOk.cons Try.func17 rfl (by decide) <|
  FrmOk.cons Try.func18 rfl (by decide) <|
  FrmOk.cons Try.func19 rfl (by decide) <|
  FrmOk.cons Try.func20 rfl (by decide) <|
  FrmOk.cons Try.func21 rfl (by decide) <|
  FrmOk.cons Try.func22 rfl (by decide) <|
  FrmOk.cons Try.func23 rfl (by decide) <|
  FrmOk.cons Try.func24 rfl (by decide) <|
  FrmOk.cons Try.func25 rfl (by decide) <|
  FrmOk.cons Try.func26 rfl (by decide) <|
  FrmOk.cons Try.func27 rfl (by decide) <|
  FrmOk.cons Try.func28 rfl (by decide) <|
  FrmOk.cons Try.func29 rfl (by decide) <|
  FrmOk.cons Try.func30 rfl (by decide) <|
  FrmOk.cons Try.func31 rfl (by decide) <|
  FrmOk.cons Try.func32 rfl (by decide) <|
  FrmOk.cons Try.func33 rfl (by decide) <|
  FrmOk.cons Try.func34 rfl (by decide) <|
  FrmOk.cons Try.func35 rfl (by decide) <|
  FrmOk.cons Try.func36 rfl (by decide) <|
  FrmOk.cons Try.func37 rfl (by decide) <|
  FrmOk.cons Try.func38 rfl (by decide) <|
  FrmOk.cons Try.func39 rfl (by decide) <|
  FrmOk.cons Try.func40 rfl (by decide) <|
  FrmOk.cons Try.func41 rfl (by decide) <|
  FrmOk.cons Try.func42 rfl (by decide) <|
  FrmOk.cons Try.func43 rfl (by decide) <|
  FrmOk.cons Try.func44 rfl (by decide) <|
  FrmOk.cons Try.func45 rfl (by decide) <|
  FrmOk.cons Try.func46 rfl (by decide) <|
  FrmOk.cons Try.func47 rfl (by decide) <|
  FrmOk.cons Try.func48 rfl (by decide) <|
  FrmOk.cons Try.func49 rfl (by decide) <|
  FrmOk.cons Try.func50 rfl (by decide) <|
  FrmOk.cons Try.func51 rfl (by decide) <|
  FrmOk.cons Try.func52 rfl (by decide) <|
  FrmOk.cons Try.func53 rfl (by decide) <|
  FrmOk.cons Try.func54 rfl (by decide) <|
  FrmOk.cons Try.func55 rfl (by decide) <|
  FrmOk.cons Try.func56 rfl (by decide) <|
  FrmOk.cons Try.func57 rfl (by decide) <|
  FrmOk.cons Try.func58 rfl (by decide) <|
  FrmOk.cons Try.func59 rfl (by decide) <|
  FrmOk.cons Try.func60 rfl (by decide) <|
  FrmOk.cons Try.func61 rfl (by decide) <|
  FrmOk.cons Try.func62 rfl (by decide) <|
  FrmOk.cons Try.func63 rfl (by decide) <|
  FrmOk.cons Try.func64 rfl (by decide) <|
  FrmOk.cons Try.func65 rfl (by decide) <|
  FrmOk.cons Try.func66 rfl (by decide) <|
  FrmOk.cons Try.func67 rfl (by decide) <|
  FrmOk.cons Try.func68 rfl (by decide) <|
  FrmOk.cons Try.func69 rfl (by decide) <|
  FrmOk.cons Try.func70 rfl (by decide) <|
  FrmOk.cons Try.func71 rfl (by decide) <|
  FrmOk.cons Try.func72 rfl (by decide) <|
  FrmOk.cons Try.func73 rfl (by decide) <|
  FrmOk.cons Try.func74 rfl (by decide) <|
  FrmOk.cons Try.func75 rfl (by decide) <|
  FrmOk.cons Try.func76 rfl (by decide) <|
  FrmOk.cons Try.func77 rfl (by decide) <|
  FrmOk.cons Try.func78 rfl (by decide) <|
  FrmOk.cons Try.func79 rfl (by decide) <|
  FrmOk.cons Try.func80 rfl (by decide) <|
  FrmOk.cons Try.func81 rfl (by decide) <|
  FrmOk.cons Try.func82 rfl (by decide) <|
  FrmOk.cons Try.func83 rfl (by decide) <|
  FrmOk.cons Try.func84 rfl (by decide) <|
  FrmOk.cons Try.func85 rfl (by decide) <|
  FrmOk.cons Try.func86 rfl (by decide) <|
  FrmOk.cons Try.func87 rfl (by decide) <|
  FrmOk.cons Try.func88 rfl (by decide) <|
  FrmOk.cons Try.func89 rfl (by decide) <|
  FrmOk.cons Try.func90 rfl (by decide) <|
  FrmOk.cons Try.func91 rfl (by decide) <|
  FrmOk.cons Try.func92 rfl (by decide) <|
  FrmOk.cons Try.func93 rfl (by decide) <|
  FrmOk.cons Try.func94 rfl (by decide) <|
  FrmOk.cons Try.func95 rfl (by decide) <|
  FrmOk.cons Try.func96 rfl (by decide) <|
  FrmOk.cons Try.func97 rfl (by decide) <|
  FrmOk.cons Try.func98 rfl (by decide) <|
  FrmOk.cons Try.func99 rfl (by decide) <|
  FrmOk.cons Try.func100 rfl (by decide) <|
  FrmOk.cons Try.func101 rfl (by decide) <|
  FrmOk.cons Try.func102 rfl (by decide) <|
  FrmOk.cons Try.func103 rfl (by decide) <|
  FrmOk.cons Try.func104 rfl (by decide) <|
  FrmOk.cons Try.func105 rfl (by decide) <|
  FrmOk.cons Try.func106 rfl (by decide) <|
  FrmOk.cons Try.func107 rfl (by decide) <|
  FrmOk.cons Try.func108 rfl (by decide) <|
  FrmOk.nil _
end Go.Proofs.Ytoglbmhkfkghbaa
namespace Go.Proofs
open Go.Shelf
def Try.lays105_ren:Go.Shelf.Ren := ⟨fun | 105 => 94 | 212 => 97 | 99 => 98 | 165 => 99 | 166 => 100 | 170 => 101 | 169 => 102 | 263 => 104 | 264 => 105 | 206 => 106 | 240 => 107 | 241 => 108 | 276 => 109 | 277 => 110 | n => n,fun | 9 => 9 | 3 => 3 | 4 => 4 | 20 => 20 | 0 => 0 | 46 => 41 | 109 => 137 | 5 => 5 | 72 => 142 | 76 => 146 | 51 => 24 | 146 => 150 | 53 => 116 | 148 => 152 | 70 => 140 | 37 => 22 | 75 => 145 | 127 => 154 | 164 => 155 | 80 => 148 | n => n,fun | n => n⟩
theorem Try.lays105:Go.Proofs.Lays.n105 Try.prog Try.lays105_ren := {
  mixed := by kernel_rfl
  f99 := Try.func98.trans (congrArg some (by kernel_rfl))
  f105 := Try.func94.trans (congrArg some (by kernel_rfl))
  f165 := Try.func99.trans (congrArg some (by kernel_rfl))
  f166 := Try.func100.trans (congrArg some (by kernel_rfl))
  f169 := Try.func102.trans (congrArg some (by kernel_rfl))
  f170 := Try.func101.trans (congrArg some (by kernel_rfl))
  f206 := Try.func106.trans (congrArg some (by kernel_rfl))
  f212 := Try.func97.trans (congrArg some (by kernel_rfl))
  f240 := Try.func107.trans (congrArg some (by kernel_rfl))
  f241 := Try.func108.trans (congrArg some (by kernel_rfl))
  f263 := Try.func104.trans (congrArg some (by kernel_rfl))
  f264 := Try.func105.trans (congrArg some (by kernel_rfl))
  f276 := Try.func109.trans (congrArg some (by kernel_rfl))
  f277 := Try.func110.trans (congrArg some (by kernel_rfl))
  t0 := Try.underlying0
  a0 := Try.isAgg0
  z0 := Try.sizeOf0
  v0 := Try.zeroValue0
  t3 := Try.underlying3
  a3 := Try.isAgg3
  z3 := Try.sizeOf3
  v3 := Try.zeroValue3
  t4 := Try.underlying4
  a4 := Try.isAgg4
  z4 := Try.sizeOf4
  v4 := Try.zeroValue4
  t5 := Try.underlying5
  a5 := Try.isAgg5
  z5 := Try.sizeOf5
  v5 := Try.zeroValue5
  t9 := Try.underlying9
  a9 := Try.isAgg9
  z9 := Try.sizeOf9
  v9 := Try.zeroValue9
  t20 := Try.underlying20
  a20 := Try.isAgg20
  z20 := Try.sizeOf20
  v20 := Try.zeroValue20
  t37 := Try.underlying22
  a37 := Try.isAgg22
  z37 := Try.sizeOf22
  v37 := Try.zeroValue22
  t46 := Try.underlying41
  a46 := Try.isAgg41
  z46 := Try.sizeOf41
  v46 := Try.zeroValue41
  t51 := Try.underlying24
  a51 := Try.isAgg24
  z51 := Try.sizeOf24
  v51 := Try.zeroValue24
  t53 := Try.underlying116
  a53 := Try.isAgg116
  z53 := Try.sizeOf116
  v53 := Try.zeroValue116
  t70 := Try.underlying140
  a70 := Try.isAgg140
  z70 := Try.sizeOf140
  v70 := Try.zeroValue140
  t72 := Try.underlying142
  a72 := Try.isAgg142
  z72 := Try.sizeOf142
  v72 := Try.zeroValue142
  t75 := Try.underlying145
  a75 := Try.isAgg145
  z75 := Try.sizeOf145
  v75 := Try.zeroValue145
  t76 := Try.underlying146
  a76 := Try.isAgg146
  z76 := Try.sizeOf146
  v76 := Try.zeroValue146
  t109 := Try.underlying137
  a109 := Try.isAgg137
  z109 := Try.sizeOf137
  v109 := Try.zeroValue137
  t127 := Try.underlying154
  a127 := Try.isAgg154
  z127 := Try.sizeOf154
  v127 := Try.zeroValue154
  t146 := Try.underlying150
  a146 := Try.isAgg150
  z146 := Try.sizeOf150
  v146 := Try.zeroValue150
  t148 := Try.underlying152
  a148 := Try.isAgg152
  z148 := Try.sizeOf152
  v148 := Try.zeroValue152
  t164 := Try.underlying155
  a164 := Try.isAgg155
  z164 := Try.sizeOf155
  v164 := Try.zeroValue155 }
theorem Try.Builder_Extra_105:Builder.Extra Try.prog Try.lays105_ren := {
  sizeBuilder := by kernel_rfl
  liesBuilder := by kernel_rfl
  t5 := Try.underlying5
  a5 := Try.isAgg5
  z5 := Try.sizeOf5
  v5 := Try.zeroValue5
  infoByte := by kernel_rfl
  cellsByte := by kernel_rfl
  sizeByte := by kernel_rfl
  neB5 := by decide }
open Go.RowKit Go.Lib in
theorem Try.strings_Repeat (s : ByteArray) (c : Nat) (w : World) (hc : c ≤ 9223372036854775807) (hlen : s.size * c ≤ 140737488355328) :
    Calls Try.prog 94 #[.string s,.int .i64 c] w fun e w' => e = .returned (.string ⟨(Lib.repeatL s.data.toList c).toArray⟩)∧Below w.heap.size w w' := Any.strings_Repeat Try.lays105 Try.Builder_Extra_105 s c w hc hlen
end Go.Proofs
namespace Go.Proofs.Ytoglbmhkfkghbaa
open Go Go.Ab
theorem mix:Try.prog.follows .mixedOrders = true := by kernel_rfl
def SM {α:Type} (x:α):Prop := x = x
def Z0:Int := 0
def Z1:Int := 1
def N0:Nat := 0
def N1:Nat := 1
def N2:Nat := 2
def N4:Nat := 4
def N6:Nat := 6
def U0:UInt8 := 0
def LN {α:Type} (l:List α):Nat := List.length l
def LI {α:Type} (l:List α):Int := (↑(List.length l):Int)
def BI (l:List UInt8) (i:Nat):Int := (↑(UInt8.toNat (List.getD l i (0:UInt8))):Int)
def NI (x:Nat):Int := (↑x:Int)
def TN (x:Nat):Nat := Int.toNat (↑x:Int)
def TL {α:Type} (l:List α):Nat := Int.toNat (↑(List.length l):Int)
def GI (l:List Int) (i:Nat):Int := List.getD l i (0:Int)
def ZI (a:Int):D := D.int IntKind.i64 a
def ZB (a:Int):D := D.int IntKind.u8 a
def SI (l:List Int):D := D.sl (1:Nat) (List.length l) (fun (i:Nat) => [D.int IntKind.i64 (List.getD l i (0:Int))]) Mode.any
abbrev Con := Nat→List D→St→Option FnSpec
noncomputable def E0 (con:Con) (n V:Nat) (cross:List Nat) (ord:Nat→List Nat × List Nat):Senv where
  P := Try.prog
  tt := tabGet tab
  n := n
  dfs := []
  V := V
  cross := cross
  gh := fun _ => []
  gr := []
  unr := fun _ => 0
  cut := fun _ _ _ => none
  ann := fun _ _ _ => none
  ord := ord
  con := con
  eqs := eqs
noncomputable def EC (con:Con) (n V:Nat) (cross:List Nat) (ord:Nat→List Nat × List Nat):Senv :=
  { E0 con n V cross ord with auto := true,inl := inlD { E0 con 0 0 [] (fun _ => ([],[])) with auto := true } (frmGet frames) 9 }
abbrev con0:Con := fun _ _ _ => none
theorem con0_ok:ConOk Try.prog con0 := fun _ _ _ _ h => nomatch h
theorem eOk {con:Con} (hc:ConOk Try.prog con) {E:Senv} (h:E = { EC con E.n E.V E.cross E.ord with gh := E.gh,gr := E.gr,unr := E.unr,cut := E.cut,ann := E.ann,cut2 := E.cut2,ann2 := E.ann2,own := E.own,gz := E.gz,mg := E.mg,pvt := E.pvt,bcut := E.bcut }):EnvOk E := by
  rw [h]
  exact ⟨tab_ok,hc,mix,fun k ds S R h => inlD_ok (E := { E0 con 0 0 [] (fun _ => ([],[])) with auto := true }) tab_ok hc mix frames_ok eqs_ok 9 k ds S R h,eqs_ok⟩
theorem inlS {con:Con} (hc:ConOk Try.prog con) (k:Nat) (ds:List D) (S:St) (R:AEnd→St→Prop) (h:inlD (E0 con 0 0 [] (fun _ => ([],[]))) (frmGet frames) 50 k ds S R):ACalls Try.prog k ds S R :=
  inlD_ok (E := E0 con 0 0 [] (fun _ => ([],[]))) tab_ok hc mix frames_ok eqs_ok 50 k ds S R h
def pC (ds:List D) (d:D) (p:Prop):FnSpec where
  β := Unit
  α := Unit
  args := fun _ => ds
  st := fun _ => ⟨[],[]⟩
  pre := fun _ => p
  post := fun _ _ => True
  res := fun _ _ => .ret d
  out := fun _ _ => ⟨[],[]⟩
  fit := some ()
def pQ {α:Type} (ds:List D) (d:α→D) (q:α→Prop) (p:Prop):FnSpec where
  β := Unit
  α := α
  args := fun _ => ds
  st := fun _ => ⟨[],[]⟩
  pre := fun _ => p
  post := fun _ y => q y
  res := fun _ y => .ret (d y)
  out := fun _ _ => ⟨[],[]⟩
  fit := some ()
theorem leS_nil (S:St):leS ⟨[],[]⟩ S := by simp [leS,chk_iff,nodupB,leO,leT]
theorem pC_ok {k : Nat} {ds : List D} {S : St} {us : List D} {d : D} {p : Prop} (h : p → weakL ds us ∧ ACalls Try.prog k us ⟨[], []⟩ (SpecR (sC us d) ())) :
    (∀ x,(pC us d p).pre x→ACalls Try.prog k ((pC us d p).args x) ((pC us d p).st x) (SpecR (pC us d p) x))∧(∀ x,(pC us d p).fit = some x→(pC us d p).pre x→weakL ds ((pC us d p).args x)∧leS ((pC us d p).st x) S)∧((pC us d p).all = true→∀ x,(pC us d p).pre x→weakL ds ((pC us d p).args x)∧(pC us d p).st x = S) :=
  ⟨fun _ hp => (h hp).2.mono fun _ _ ⟨_,_h1,h2,h3⟩ => ⟨(),trivial,h2,h3⟩,fun _ _ hp => ⟨(h hp).1,leS_nil S⟩,fun e => nomatch e⟩
theorem pQ_ok {α : Type} {k : Nat} {ds : List D} {S : St} {us : List D} {d : α → D} {q : α → Prop} {p : Prop} (h : p → weakL ds us ∧ ACalls Try.prog k us ⟨[], []⟩ (SpecR (pQ us d q p) ())) :
    (∀ x,(pQ us d q p).pre x→ACalls Try.prog k ((pQ us d q p).args x) ((pQ us d q p).st x) (SpecR (pQ us d q p) x))∧(∀ x,(pQ us d q p).fit = some x→(pQ us d q p).pre x→weakL ds ((pQ us d q p).args x)∧leS ((pQ us d q p).st x) S)∧((pQ us d q p).all = true→∀ x,(pQ us d q p).pre x→weakL ds ((pQ us d q p).args x)∧(pQ us d q p).st x = S) :=
  ⟨fun _ hp => (h hp).2,fun _ _ hp => ⟨(h hp).1,leS_nil S⟩,fun e => nomatch e⟩
theorem drop_step {α:Type} [Inhabited α] {l:List α} {i:Nat} (h:i < l.length):l.drop i = l.getD i default :: l.drop (i + 1) := by
  rw [List.drop_eq_getElem_cons h]
  simp [List.getD_eq_getElem?_getD,h]
theorem take_step {α:Type} [Inhabited α] {l:List α} {i:Nat} (h:i < l.length):l.take (i + 1) = l.take i ++ [l.getD i default] := by
  rw [List.take_add_one]
  simp [List.getD_eq_getElem?_getD,h]
theorem rows_eq {n:Nat} {f g:Nat→List D} (h:(List.range n).map f = (List.range n).map g):∀ i,i < n→f i = g i := by
  intro i hi
  have := congrArg (fun l => l[i]?) h
  simpa [hi] using this
end Go.Proofs.Ytoglbmhkfkghbaa
namespace Go.Proofs.Ytoglbmhkfkghbaa
open Go Go.Ab
def bsl (l:List UInt8) (m:Ab.Mode):D := .sl 1 l.length (fun i => [.int .u8 ((l.getD i 0).toNat:Int)]) m
def isl (l:List Int) (m:Ab.Mode):D := .sl 1 l.length (fun i => [.int .i64 (l.getD i 0)]) m
inductive Arr where
  | mk (kind:Int) (shape nums:List Int) (items:List Arr)
def inI64 (z:Int):Prop := -9223372036854775808 ≤ z∧z ≤ 9223372036854775807
mutual
def Arr.row:Arr→List D
  | .mk k s n is => [.int .i64 k,isl s .any,isl n .any,.sl 4 (rowsL is).length (fun i => (rowsL is).getD i []) .any]
def rowsL:List Arr→List (List D)
  | [] => []
  | a :: r => a.row :: rowsL r
end
mutual
def Arr.ok:Arr→Prop
  | .mk k s n is => inI64 k∧(∀ z ∈ s,inI64 z)∧(∀ z ∈ n,inI64 z)∧s.length ≤ maxLen∧n.length ≤ maxLen∧is.length ≤ maxLen∧okL is
def okL:List Arr→Prop
  | [] => True
  | a :: r => a.ok∧okL r
end
theorem rowsL_map:∀ (l:List Arr),rowsL l = l.map Arr.row
  | [] => rfl
  | a :: l => by simp only [rowsL,List.map_cons,rowsL_map l]
theorem okL_iff:∀ (l:List Arr),okL l↔∀ a ∈ l,a.ok
  | [] => by simp [okL]
  | a :: l => by simp only [okL,List.forall_mem_cons,okL_iff l]
end Go.Proofs.Ytoglbmhkfkghbaa
namespace Go.Proofs.Ytoglbmhkfkghbaa
open Go Go.Ab
def uBf (k u:Nat):List UInt8 := match k with
  | 0 => [UInt8.ofNat u]
  | k + 1 => match Nat.blt u 128 with
    | true => [UInt8.ofNat u]
    | false => UInt8.ofNat (u % 128 + 128) :: uBf k (u / 128)
def zig (n:Int):Nat := match n with
  | .ofNat k => 2 * k
  | .negSucc k => 2 * k + 1
def numsB (l:List Int):List UInt8 := l.flatMap fun n => uBf 9 (zig n)
def i64B (z:Int):Bool := decide (-9223372036854775808 ≤ z) && decide (z ≤ 9223372036854775807)
theorem uBf_len:∀ k u,(uBf k u).length ≤ k + 1∧1 ≤ (uBf k u).length
  | 0,u => by simp [uBf]
  | k + 1,u => by
    unfold uBf
    split
    · simp
    · have := uBf_len k (u / 128); simp; omega
theorem numsB_len:∀ (l:List Int),(numsB l).length ≤ 10 * l.length
  | [] => by simp [numsB]
  | n :: l => by
    have h1 := numsB_len l
    have h2 := uBf_len 9 (zig n)
    simp only [numsB,List.flatMap_cons,List.length_append,List.length_cons] at h1 ⊢
    omega
theorem numsB_take (ns:List Int) {i:Nat} (h:i < ns.length):numsB (ns.take (i + 1)) = numsB (ns.take i) ++ uBf 9 (zig (ns.getD i 0)) := by
  unfold numsB
  rw [List.take_add_one,List.flatMap_append,List.getElem?_eq_getElem h]
  congr 1
  simp [List.getD_eq_getElem?_getD,h]
theorem uBf_end {k u:Nat} (h:u < 128):uBf k u = [UInt8.ofNat u] := by
  cases k with
  | zero => rfl
  | succ k => unfold uBf; rw [show Nat.blt u 128 = true from by simpa using h]
theorem uBf_go {k u:Nat} (h:128 ≤ u):uBf (k + 1) u = UInt8.ofNat (u % 128 + 128) :: uBf k (u / 128) := by
  conv => lhs; unfold uBf
  rw [show Nat.blt u 128 = false from by
    have e := Nat.blt_eq (x := u) (y := 128)
    cases hb:Nat.blt u 128 with
    | false => rfl
    | true => rw [hb] at e; simp at e; omega]
set_option maxRecDepth 100000 in
theorem or128:∀ a,a < 256→a ||| 128 = a % 128 + 128 := by decide
theorem orB (u:Nat):orI .u8 (IntKind.u8.wrap (u:Int)) 128 = ((UInt8.ofNat (u % 128 + 128)).toNat:Int) := by
  have h1:IntKind.u8.wrap (u:Int) = ((u % 256:Nat):Int) := by rw [IntKind.wrap_u8]; omega
  rw [h1]
  have h2 := orI_nat (k := .u8) rfl (a := u % 256) (b := 128) (by simp [IntKind.bits]; omega) (by simp [IntKind.bits])
  rw [show ((128:Nat):Int) = 128 from rfl] at h2
  rw [h2,or128 _ (by omega),UInt8.toNat_ofNat']
  omega
theorem wrapU8 {u:Nat} (_h:u < 128):IntKind.u8.wrap (u:Int) = ((UInt8.ofNat u).toNat:Int) := by
  rw [IntKind.wrap_u8,UInt8.toNat_ofNat']; omega
theorem not64 {a:Nat} (h:a < 18446744073709551616):notI .u64 a = ((18446744073709551615 - a:Nat):Int) := by
  rw [notI_nat (k := .u64) rfl (by simpa [IntKind.bits] using h)]
  have e := congrArg BitVec.toNat (BitVec.xor_allOnes (x := BitVec.ofNat 64 a))
  rw [BitVec.toNat_xor,BitVec.toNat_allOnes,BitVec.toNat_not,BitVec.toNat_ofNat,Nat.mod_eq_of_lt (by simpa using h)] at e
  rw [show IntKind.u64.bits = 64 from rfl,e]
  try rfl
theorem zig_pos {n:Int} (h:¬ n < 0) (hb:i64B n = true):IntKind.u64.wrap (IntKind.u64.wrap n * 2) = (zig n:Int)∧zig n < 2 ^ 64 := by
  simp only [i64B,Bool.and_eq_true,decide_eq_true_eq] at hb
  cases n with
  | ofNat k => simp only [zig,IntKind.wrap_u64,Int.ofNat_eq_natCast] at *; omega
  | negSucc k => exact (h (Int.negSucc_lt_zero k)).elim
theorem zig_neg {n:Int} (h:n < 0) (hb:i64B n = true):notI .u64 (IntKind.u64.wrap (IntKind.u64.wrap n * 2)) = (zig n:Int)∧zig n < 2 ^ 64 := by
  simp only [i64B,Bool.and_eq_true,decide_eq_true_eq] at hb
  cases n with
  | ofNat k => simp only [Int.ofNat_eq_natCast] at h; omega
  | negSucc k =>
    have e:IntKind.u64.wrap (IntKind.u64.wrap (Int.negSucc k) * 2) = ((18446744073709551616 - 2 * k - 2:Nat):Int) := by
      simp only [IntKind.wrap_u64,Int.negSucc_eq] at *; omega
    simp only [Int.negSucc_eq] at hb
    rw [e,not64 (by omega)]
    simp only [zig]
    omega
theorem app_row {l : List UInt8} {z : Int} {b : UInt8} (h : z = (b.toNat : Int)) (i : Nat) (hi : i < l.length + 1) :
    appF l.length (fun i => [D.int .u8 ((l.getD i 0).toNat:Int)]) (fun i => [[D.int .u8 z]].getD i []) i = [D.int .u8 (((l ++ [b]).getD i 0).toNat:Int)] := by
  simp only [appF]
  split
  · rename_i hlt
    simp [List.getD_eq_getElem?_getD,List.getElem?_append_left hlt]
  · have:i = l.length := by omega
    subst this
    simp [List.getD_eq_getElem?_getD,h]
theorem num_step {j u : Nat} {l l' : List UInt8} {ns : List Int} {i : Nat} (hi : i < ns.length) (h : j ≤ 9 ∧ u < 2 ^ (64 - 7 * j) ∧ l'.length ≤ l.length + 10 * ns.length ∧ l' ++ uBf (9 - j) u = l ++ numsB (ns.take (i + 1))) (h8 : 128 ≤ u) :
    j + 1 ≤ 9∧u / 128 < 2 ^ (64 - 7 * (j + 1))∧(l' ++ [UInt8.ofNat (u % 128 + 128)]).length ≤ l.length + 10 * ns.length∧(l' ++ [UInt8.ofNat (u % 128 + 128)]) ++ uBf (9 - (j + 1)) (u / 128) = l ++ numsB (ns.take (i + 1)) := by
  obtain ⟨h1,h2,_,h4⟩ := h
  have hj:j ≤ 8 := by
    by_cases e:j = 9
    · subst e; simp at h2; omega
    · omega
  have h5:(l' ++ [UInt8.ofNat (u % 128 + 128)]) ++ uBf (9 - (j + 1)) (u / 128) = l ++ numsB (ns.take (i + 1)) := by
    rw [← h4,show 9 - j = (9 - (j + 1)) + 1 by omega,uBf_go h8]; simp
  refine ⟨by omega,?_,?_,h5⟩
  · have e:64 - 7 * j = (64 - 7 * (j + 1)) + 7 := by omega
    rw [e,Nat.pow_add] at h2
    omega
  · have e := congrArg List.length h5
    have e2 := numsB_len (ns.take (i + 1))
    simp only [List.length_append,List.length_take] at e e2 ⊢
    omega
theorem num_last {j u : Nat} {l l' : List UInt8} {ns : List Int} {i : Nat} (h : j ≤ 9 ∧ u < 2 ^ (64 - 7 * j) ∧ l'.length ≤ l.length + 10 * ns.length ∧ l' ++ uBf (9 - j) u = l ++ numsB (ns.take (i + 1))) (h8 : u < 128) :
    l' ++ [UInt8.ofNat u] = l ++ numsB (ns.take (i + 1)) := by
  rw [← h.2.2.2,uBf_end h8]
theorem num_body {l : List UInt8} {ns : List Int} {i : Nat} (hl : l.length + 10 * ns.length ≤ 70368744177664) (hlt : i < ns.length) (y : Nat × Nat × List UInt8 × Nat)
    (h:y.fst ≤ 9∧y.snd.fst < 2 ^ (64 - 7 * y.fst)∧y.snd.snd.fst.length ≤ l.length + 10 * ns.length∧y.snd.snd.fst ++ uBf (9 - y.fst) y.snd.fst = l ++ numsB (ns.take (i + 1))) :
    (128 ≤ (y.snd.fst:Int)→((y.snd.snd.fst.length + 1) * 1 ≤ 140737488355328∧y.snd.snd.fst.length + 1 ≤ 9223372036854775807)∧∀ t:Nat,∃ z:Nat × Nat × List UInt8 × Nat,(z.fst ≤ 9∧z.snd.fst < 2 ^ (64 - 7 * z.fst)∧z.snd.snd.fst.length ≤ l.length + 10 * ns.length∧z.snd.snd.fst ++ uBf (9 - z.fst) z.snd.fst = l ++ numsB (ns.take (i + 1)))∧z.snd.fst < y.snd.fst∧Int.fdiv (y.snd.fst:Int) 128 = (z.snd.fst:Int) ∧
      (y.snd.snd.fst.length + 1 = z.snd.snd.fst.length∧(∀ k:Nat,k < y.snd.snd.fst.length + 1→appF y.snd.snd.fst.length (fun i => [D.int .u8 ((y.snd.snd.fst.getD i 0).toNat:Int)]) (fun i => [[D.int .u8 (orI .u8 (IntKind.u8.wrap (y.snd.fst:Int)) 128)]].getD i []) k = [D.int .u8 ((z.snd.snd.fst.getD k 0).toNat:Int)])∧t = z.snd.snd.snd)∧t = z.snd.snd.snd) ∧
    (¬ 128 ≤ (y.snd.fst:Int)→((y.snd.snd.fst.length + 1) * 1 ≤ 140737488355328∧y.snd.snd.fst.length + 1 ≤ 9223372036854775807)∧∀ t:Nat,∃ z:Nat × Nat,z.fst ≤ ns.length∧ns.length - z.fst < ns.length - i∧IntKind.i64.wrap ((i:Int) + 1) = (z.fst:Int) ∧
      (y.snd.snd.fst.length + 1 = (l ++ numsB (ns.take z.fst)).length∧(∀ k:Nat,k < y.snd.snd.fst.length + 1→appF y.snd.snd.fst.length (fun i => [D.int .u8 ((y.snd.snd.fst.getD i 0).toNat:Int)]) (fun i => [[D.int .u8 (IntKind.u8.wrap (y.snd.fst:Int))]].getD i []) k = [D.int .u8 (((l ++ numsB (ns.take z.fst)).getD k 0).toNat:Int)])∧t = z.snd)∧t = z.snd) := by
  obtain ⟨j,u,l',t0⟩ := y
  simp only at h ⊢
  refine ⟨fun h8 => ⟨by omega,fun t => ?_⟩,fun h8 => ⟨by omega,fun t => ?_⟩⟩
  · refine ⟨(j + 1,u / 128,l' ++ [UInt8.ofNat (u % 128 + 128)],t),num_step hlt h (by omega),by simp only; omega,fdiv_nat u 128,⟨by simp,fun k hk => app_row (orB u) k hk,rfl⟩,rfl⟩
  · have e := num_last h (by omega)
    refine ⟨(i + 1,t),by simp only; omega,by simp only; omega,?_,⟨?_,fun k hk => ?_,rfl⟩,rfl⟩
    · exact wrap_i64' (by omega) (by omega)
    · simp only; rw [← e]; simp
    · simp only; rw [← e]; exact app_row (wrapU8 (by omega)) k hk
def sNum (x _t:Nat) (l:List UInt8) (md:Ab.Mode) (ts:List (Nat × Nat)) (ns:List Int) (m:Ab.Mode):FnSpec where
  β := Unit
  α := Nat
  args := fun _ => [.ref 0 x 0,isl ns m]
  st := fun _ => ⟨[(0,x,.cells [bsl l md])],ts⟩
  pre := fun _ => True
  post := fun _ _ => True
  res := fun _ _ => .ret (.tup [])
  out := fun _ t' => ⟨[(0,x,.cells [bsl (l ++ numsB ns) (.tok 0 t')])],[(0,t')]⟩
def goal (l:List UInt8) (ns:List Int) (d:D):List UInt8 :=
  match d with
  | .int _ z => l ++ numsB (ns.take (z.toNat + 1))
  | _ => []
noncomputable def E40 (x:Nat) (l:List UInt8) (ns:List Int) (gh:List Ab.Place):Senv := { EC con0 48 2 [5,6,7,8,9,10,17,21] (fun _ => ([],[])) with
  gh := fun b => match b with
    | 0 => gh
    | _ => []
  ann := fun b env _ => match b with
    | 0 => some { slots := [9],keep := [0,7,8],α := Nat × Nat,st := fun y => ([.int .i64 y.1],⟨[(0,x,.cells [bsl (l ++ numsB (ns.take y.1)) (.tok 0 y.2)])],[(0,y.2)]⟩),inv := fun y => y.1 ≤ ns.length,mu := fun y => ns.length - y.1 }
    | 2 => some { slots := [6],keep := [0,7,8,9],α := Nat × Nat × List UInt8 × Nat,st := fun y => ([.int .u64 y.2.1],⟨[(0,x,.cells [bsl y.2.2.1 (.tok 0 y.2.2.2)])],[(0,y.2.2.2)]⟩),inv := fun y => y.1 ≤ 9∧y.2.1 < 2 ^ (64 - 7 * y.1)∧y.2.2.1.length ≤ l.length + 10 * ns.length∧y.2.2.1 ++ uBf (9 - y.1) y.2.1 = goal l ns (Ab.look env 9),mu := fun y => y.2.1 }
    | _ => none }
noncomputable section
def wr1q0 (p0:List UInt8) (p1:Nat) (p2:List Int):Nat := LN (p0 ++ numsB (List.take p1 p2))
def wr1q1 (p0:List UInt8) (p1:Nat):List D := [ZB (BI p0 p1)]
def wr1q2 (p0:List UInt8) (p1:Nat) (p2:List Int) (p3:Nat):List D := [ZB (BI (p0 ++ numsB (List.take p1 p2)) p3)]
def wr1q3 (p0 p1:Nat) (p2 p3:List UInt8) (p4:List Int) (p5:Nat):Prop := p0 ≤ (9:Nat)∧p1 < N2 ^ ((64:Nat) - (7:Nat) * p0)∧LN p2 ≤ LN p3 + (10:Nat) * LN p4∧p2 ++ uBf ((9:Nat) - p0) p1 = goal p3 p4 (ZI (↑p5:Int))
def wr1q4 (p0:List Int) (p1:Nat):Int := IntKind.wrap IntKind.u64 (IntKind.wrap IntKind.u64 (GI p0 (Int.toNat (↑p1:Int))) * (2:Int))
def wr1q5 (p0:Nat) (p1:List UInt8) (p2:Nat) (p3:List Int) (p4:List UInt8) (p5 p6:Nat):Prop := (SM p0∧((wr1q0 p1 p2 p3 = LN p4∧(∀ (i:Nat),i < wr1q0 p1 p2 p3→wr1q2 p1 p2 p3 i = wr1q1 p4 i)∧p5 = p6)∧True)∧True)∧p5 = p6∧True
def wr1q6 (p0:List Int) (p1:Ab.Mode):Prop := SM (D.sl N1 (LN p0) (fun (i:Nat) => [ZI (GI p0 i)]) p1)
def wr1q7 (p0:List UInt8) (p1:List Int) (p2 p3:Nat) (p4:Ab.Mode):Prop := ∀ (x:Nat × Nat × List UInt8 × Nat),wr1q3 x.1 x.2.1 x.2.2.1 p0 p1 p2→ifB (decide ((128:Int) ≤ (NI x.2.1))) (SM p3∧SM x.2.2.2∧side ((LN x.2.2.1 + N1) * N1 ≤ (140737488355328:Nat)∧LN x.2.2.1 + N1 ≤ (9223372036854775807:Nat)) (∀ (t:Nat),SM p3∧(SM (D.ref N0 p3 N0)∧wr1q6 p1 p4∧SM (ZI (LI p1))∧SM (ZI (↑p2:Int))∧True)∧∃ (y:Nat × Nat × List UInt8 × Nat),wr1q3 y.1 y.2.1 y.2.2.1 p0 p1 p2∧y.2.1 < x.2.1∧(Int.fdiv (NI x.2.1) (128:Int) = (NI y.2.1)∧True)∧(SM p3∧((LN x.2.2.1 + N1 = LN y.2.2.1∧(∀ (i:Nat),i < LN x.2.2.1 + N1→appF (LN x.2.2.1) (fun (i:Nat) => wr1q1 x.2.2.1 i) (fun (i:Nat) => List.getD [[ZB (orI IntKind.u8 (IntKind.wrap IntKind.u8 (NI x.2.1)) (128:Int))]] i []) i = wr1q1 y.2.2.1 i)∧t = y.2.2.2)∧True)∧True)∧t = y.2.2.2∧True)) (SM p3∧SM x.2.2.2∧side ((LN x.2.2.1 + N1) * N1 ≤ (140737488355328:Nat)∧LN x.2.2.1 + N1 ≤ (9223372036854775807:Nat)) (∀ (t:Nat),SM p3∧(SM (D.ref N0 p3 N0)∧wr1q6 p1 p4∧SM (ZI (LI p1))∧True)∧∃ (y:Nat × Nat),y.1 ≤ LN p1∧LN p1 - y.1 < LN p1 - p2∧(IntKind.wrap IntKind.i64 ((↑p2:Int) + Z1) = (NI y.1)∧True)∧(SM p3∧((LN x.2.2.1 + N1 = wr1q0 p0 y.1 p1∧(∀ (i:Nat),i < LN x.2.2.1 + N1→appF (LN x.2.2.1) (fun (i:Nat) => wr1q1 x.2.2.1 i) (fun (i:Nat) => List.getD [[ZB (IntKind.wrap IntKind.u8 (NI x.2.1))]] i []) i = wr1q2 p0 y.1 p1 i)∧t = y.2)∧True)∧True)∧t = y.2∧True))
end
theorem wnum_ok (x t : Nat) (l : List UInt8) (ns : List Int) (m : Ab.Mode) (hl : l.length + 10 * ns.length ≤ 70368744177664) (hn : ∀ z, z ∈ ns → i64B z = true) :
    ACalls Try.prog 40 ((sNum x t l (.tok 0 t) [(0,t)] ns m).args ()) ((sNum x t l (.tok 0 t) [(0,t)] ns m).st ()) (SpecR (sNum x t l (.tok 0 t) [(0,t)] ns m) ()) := by
  refine con_of (A := sNum x t l (.tok 0 t) [(0,t)] ns m) (x := ()) (E := E40 x l ns []) (eOk con0_ok rfl) Try.func40 rfl (by kernel_rfl) rfl (by simp [sNum,E40,EC,E0]) ?_
  refine vc_eq (T :=
    (∃ (x_1:Nat × Nat),x_1.1 ≤ LN ns∧(Z0 = (NI x_1.1)∧True)∧(SM x∧((LN l = wr1q0 l x_1.1 ns∧(∀ (i:Nat),i < LN l→wr1q1 l i = wr1q2 l x_1.1 ns i)∧t = x_1.2)∧True)∧True)∧t = x_1.2∧True)∧∀ (x_1:Nat × Nat),x_1.1 ≤ LN ns→ifB (decide ((NI x_1.1) < (LI ns))) (side (Z0 ≤ (NI x_1.1)∧(NI x_1.1) < (LI ns)) (ifB (decide (GI ns (TN x_1.1) < Z0)) ((∃ (x_2:Nat × Nat × List UInt8 × Nat),wr1q3 x_2.1 x_2.2.1 x_2.2.2.1 l ns x_1.1∧(notI IntKind.u64 (wr1q4 ns x_1.1) = (NI x_2.2.1)∧True)∧wr1q5 x l x_1.1 ns x_2.2.2.1 x_1.2 x_2.2.2.2)∧wr1q7 l ns x_1.1 x m) ((∃ (x_2:Nat × Nat × List UInt8 × Nat),wr1q3 x_2.1 x_2.2.1 x_2.2.2.1 l ns x_1.1∧(wr1q4 ns x_1.1 = (NI x_2.2.1)∧True)∧wr1q5 x l x_1.1 ns x_2.2.2.1 x_1.2 x_2.2.2.2)∧wr1q7 l ns x_1.1 x m))) (True∧∃ (y:Nat),True∧True∧(SM x∧((wr1q0 l x_1.1 ns = LN (l ++ numsB ns)∧(∀ (i:Nat),i < wr1q0 l x_1.1 ns→wr1q2 l x_1.1 ns i = [ZB (BI (l ++ numsB ns) i)])∧x_1.2 = y)∧True)∧True)∧x_1.2 = y∧True)) (by kernel_rfl) ?_
  delta BI GI LI LN N0 N1 N2 NI SM TN U0 Z0 Z1 ZB ZI wr1q0 wr1q1 wr1q2 wr1q3 wr1q4 wr1q5 wr1q6 wr1q7
  simp only [ifB_iff,side_iff,decide_eq_true_eq,decide_eq_false_iff_not,true_and,and_true,Int.toNat_natCast,goal]
  refine ⟨?_,?_⟩
  · exact ⟨(0,t),Nat.zero_le _,rfl,⟨by simp [numsB],fun k _ => by simp [numsB],rfl⟩,rfl⟩
  · rintro ⟨i,t1⟩ hi
    simp only at hi
    have hstart:∀ n,n ∈ ns→∀ hlt:i < ns.length,zig (ns.getD i 0) < 2 ^ 64→(0:Nat) ≤ 9∧zig (ns.getD i 0) < 2 ^ (64 - 7 * 0)∧(l ++ numsB (ns.take i)).length ≤ l.length + 10 * ns.length∧(l ++ numsB (ns.take i)) ++ uBf (9 - 0) (zig (ns.getD i 0)) = l ++ numsB (ns.take (i + 1)) := by
      intro n _ hlt hz
      refine ⟨by omega,hz,?_,?_⟩
      · have := numsB_len (ns.take i)
        simp only [List.length_append,List.length_take] at this ⊢
        omega
      · rw [numsB_take ns hlt,List.append_assoc]
    have hin:∀ hlt:i < ns.length,ns.getD i 0 ∈ ns := fun hlt => by
      rw [List.getD_eq_getElem?_getD,List.getElem?_eq_getElem hlt]; exact List.getElem_mem hlt
    refine ⟨fun hlt => ⟨⟨by omega,hlt⟩,fun hneg => ⟨?_,num_body hl (by simpa using hlt)⟩,fun hpos => ⟨?_,num_body hl (by simpa using hlt)⟩⟩,fun hge => ?_⟩
    · have hlt:i < ns.length := by simpa using hlt
      obtain ⟨z1,z2⟩ := zig_neg hneg (hn _ (hin hlt))
      exact ⟨(0,zig (ns.getD i 0),l ++ numsB (ns.take i),t1),hstart _ (hin hlt) hlt z2,z1,⟨rfl,fun _ _ => rfl,rfl⟩,rfl⟩
    · have hlt:i < ns.length := by simpa using hlt
      obtain ⟨z1,z2⟩ := zig_pos hpos (hn _ (hin hlt))
      exact ⟨(0,zig (ns.getD i 0),l ++ numsB (ns.take i),t1),hstart _ (hin hlt) hlt z2,z1,⟨rfl,fun _ _ => rfl,rfl⟩,rfl⟩
    · have:i = ns.length := by simp only at hge; omega
      subst this
      refine ⟨t1,⟨?_,?_,rfl⟩,rfl⟩
      · simp
      · intro k hk; simp
noncomputable section
def wr1q8 (p0:List UInt8) (p1:Nat) (p2:List Int):Nat := LN (p0 ++ numsB (List.take p1 p2))
def wr1q9 (p0:List UInt8) (p1:Nat):List D := [ZB (BI p0 p1)]
def wr1q10 (p0:List UInt8) (p1:Nat) (p2:List Int) (p3:Nat):List D := [ZB (BI (p0 ++ numsB (List.take p1 p2)) p3)]
def wr1q11 (p0 p1:Nat) (p2 p3:List UInt8) (p4:List Int) (p5:Nat):Prop := p0 ≤ (9:Nat)∧p1 < N2 ^ ((64:Nat) - (7:Nat) * p0)∧LN p2 ≤ LN p3 + (10:Nat) * LN p4∧p2 ++ uBf ((9:Nat) - p0) p1 = goal p3 p4 (ZI (↑p5:Int))
def wr1q12 (p0:List Int) (p1:Nat):Int := IntKind.wrap IntKind.u64 (IntKind.wrap IntKind.u64 (GI p0 (Int.toNat (↑p1:Int))) * (2:Int))
def wr1q13 (p0:Nat) (p1:List UInt8) (p2:Nat) (p3:List Int) (p4:List UInt8) (p5 p6:Nat):Prop := (SM p0∧((wr1q8 p1 p2 p3 = LN p4∧(∀ (i:Nat),i < wr1q8 p1 p2 p3→wr1q10 p1 p2 p3 i = wr1q9 p4 i)∧p5 = p6)∧True)∧True)∧p5 = p6∧True
def wr1q14 (p0:List Int) (p1:Ab.Mode):Prop := SM (D.sl N1 (LN p0) (fun (i:Nat) => [ZI (GI p0 i)]) p1)
def wr1q15 (p0:List UInt8) (p1:List Int) (p2 p3:Nat) (p4:Ab.Mode):Prop := ∀ (x:Nat × Nat × List UInt8 × Nat),wr1q11 x.1 x.2.1 x.2.2.1 p0 p1 p2→ifB (decide ((128:Int) ≤ (NI x.2.1))) (SM p3∧SM x.2.2.2∧side ((LN x.2.2.1 + N1) * N1 ≤ (140737488355328:Nat)∧LN x.2.2.1 + N1 ≤ (9223372036854775807:Nat)) (∀ (t:Nat),SM p3∧(SM (D.ref N0 p3 N0)∧wr1q14 p1 p4∧SM (ZI (LI p1))∧SM (ZI (↑p2:Int))∧True)∧∃ (y:Nat × Nat × List UInt8 × Nat),wr1q11 y.1 y.2.1 y.2.2.1 p0 p1 p2∧y.2.1 < x.2.1∧(Int.fdiv (NI x.2.1) (128:Int) = (NI y.2.1)∧True)∧(SM p3∧((LN x.2.2.1 + N1 = LN y.2.2.1∧(∀ (i:Nat),i < LN x.2.2.1 + N1→appF (LN x.2.2.1) (fun (i:Nat) => wr1q9 x.2.2.1 i) (fun (i:Nat) => List.getD [[ZB (orI IntKind.u8 (IntKind.wrap IntKind.u8 (NI x.2.1)) (128:Int))]] i []) i = wr1q9 y.2.2.1 i)∧t = y.2.2.2)∧True)∧True)∧t = y.2.2.2∧True)) (SM p3∧SM x.2.2.2∧side ((LN x.2.2.1 + N1) * N1 ≤ (140737488355328:Nat)∧LN x.2.2.1 + N1 ≤ (9223372036854775807:Nat)) (∀ (t:Nat),SM p3∧(SM (D.ref N0 p3 N0)∧wr1q14 p1 p4∧SM (ZI (LI p1))∧True)∧∃ (y:Nat × Nat),y.1 ≤ LN p1∧LN p1 - y.1 < LN p1 - p2∧(IntKind.wrap IntKind.i64 ((↑p2:Int) + Z1) = (NI y.1)∧True)∧(SM p3∧((LN x.2.2.1 + N1 = wr1q8 p0 y.1 p1∧(∀ (i:Nat),i < LN x.2.2.1 + N1→appF (LN x.2.2.1) (fun (i:Nat) => wr1q9 x.2.2.1 i) (fun (i:Nat) => List.getD [[ZB (IntKind.wrap IntKind.u8 (NI x.2.1))]] i []) i = wr1q10 p0 y.1 p1 i)∧t = y.2)∧True)∧True)∧t = y.2∧True))
end
theorem numF_ok (x : Nat) (l : List UInt8) (ns : List Int) (m : Ab.Mode) (hl : l.length + 10 * ns.length ≤ 70368744177664) (hn : ∀ z, z ∈ ns → i64B z = true) :
    ACalls Try.prog 40 ((sNum x 0 l .full [] ns m).args ()) ((sNum x 0 l .full [] ns m).st ()) (SpecR (sNum x 0 l .full [] ns m) ()) := by
  refine con_of (A := sNum x 0 l .full [] ns m) (x := ()) (E := E40 x l ns [.cell 0 0]) (eOk con0_ok rfl) Try.func40 rfl (by kernel_rfl) rfl (by simp [sNum,E40,EC,E0]) ?_
  refine vc_eq (T :=
    ∀ (t:Nat),(∃ (x_1:Nat × Nat),x_1.1 ≤ LN ns∧(Z0 = (NI x_1.1)∧True)∧(SM x∧((LN l = wr1q8 l x_1.1 ns∧(∀ (i:Nat),i < LN l→wr1q9 l i = wr1q10 l x_1.1 ns i)∧t = x_1.2)∧True)∧True)∧t = x_1.2∧True)∧∀ (x_1:Nat × Nat),x_1.1 ≤ LN ns→ifB (decide ((NI x_1.1) < (LI ns))) (side (Z0 ≤ (NI x_1.1)∧(NI x_1.1) < (LI ns)) (ifB (decide (GI ns (TN x_1.1) < Z0)) ((∃ (x_2:Nat × Nat × List UInt8 × Nat),wr1q11 x_2.1 x_2.2.1 x_2.2.2.1 l ns x_1.1∧(notI IntKind.u64 (wr1q12 ns x_1.1) = (NI x_2.2.1)∧True)∧wr1q13 x l x_1.1 ns x_2.2.2.1 x_1.2 x_2.2.2.2)∧wr1q15 l ns x_1.1 x m) ((∃ (x_2:Nat × Nat × List UInt8 × Nat),wr1q11 x_2.1 x_2.2.1 x_2.2.2.1 l ns x_1.1∧(wr1q12 ns x_1.1 = (NI x_2.2.1)∧True)∧wr1q13 x l x_1.1 ns x_2.2.2.1 x_1.2 x_2.2.2.2)∧wr1q15 l ns x_1.1 x m))) (True∧∃ (y:Nat),True∧True∧(SM x∧((wr1q8 l x_1.1 ns = LN (l ++ numsB ns)∧(∀ (i:Nat),i < wr1q8 l x_1.1 ns→wr1q10 l x_1.1 ns i = [ZB (BI (l ++ numsB ns) i)])∧x_1.2 = y)∧True)∧True)∧x_1.2 = y∧True)) (by kernel_rfl) ?_
  delta BI GI LI LN N0 N1 N2 NI SM TN U0 Z0 Z1 ZB ZI wr1q10 wr1q11 wr1q12 wr1q13 wr1q14 wr1q15 wr1q8 wr1q9
  simp only [ifB_iff,side_iff,decide_eq_true_eq,decide_eq_false_iff_not,true_and,and_true,Int.toNat_natCast,goal]
  intro t
  refine ⟨?_,?_⟩
  · exact ⟨(0,t),Nat.zero_le _,rfl,⟨by simp [numsB],fun k _ => by simp [numsB],rfl⟩,rfl⟩
  · rintro ⟨i,t1⟩ hi
    simp only at hi
    have hstart:∀ n,n ∈ ns→∀ hlt:i < ns.length,zig (ns.getD i 0) < 2 ^ 64→(0:Nat) ≤ 9∧zig (ns.getD i 0) < 2 ^ (64 - 7 * 0)∧(l ++ numsB (ns.take i)).length ≤ l.length + 10 * ns.length∧(l ++ numsB (ns.take i)) ++ uBf (9 - 0) (zig (ns.getD i 0)) = l ++ numsB (ns.take (i + 1)) := by
      intro n _ hlt hz
      refine ⟨by omega,hz,?_,?_⟩
      · have := numsB_len (ns.take i)
        simp only [List.length_append,List.length_take] at this ⊢
        omega
      · rw [numsB_take ns hlt,List.append_assoc]
    have hin:∀ hlt:i < ns.length,ns.getD i 0 ∈ ns := fun hlt => by
      rw [List.getD_eq_getElem?_getD,List.getElem?_eq_getElem hlt]; exact List.getElem_mem hlt
    refine ⟨fun hlt => ⟨⟨by omega,hlt⟩,fun hneg => ⟨?_,num_body hl (by simpa using hlt)⟩,fun hpos => ⟨?_,num_body hl (by simpa using hlt)⟩⟩,fun hge => ?_⟩
    · have hlt:i < ns.length := by simpa using hlt
      obtain ⟨z1,z2⟩ := zig_neg hneg (hn _ (hin hlt))
      exact ⟨(0,zig (ns.getD i 0),l ++ numsB (ns.take i),t1),hstart _ (hin hlt) hlt z2,z1,⟨rfl,fun _ _ => rfl,rfl⟩,rfl⟩
    · have hlt:i < ns.length := by simpa using hlt
      obtain ⟨z1,z2⟩ := zig_pos hpos (hn _ (hin hlt))
      exact ⟨(0,zig (ns.getD i 0),l ++ numsB (ns.take i),t1),hstart _ (hin hlt) hlt z2,z1,⟨rfl,fun _ _ => rfl,rfl⟩,rfl⟩
    · have:i = ns.length := by simp only at hge; omega
      subst this
      refine ⟨t1,⟨?_,?_,rfl⟩,rfl⟩
      · simp
      · intro k hk; simp
end Go.Proofs.Ytoglbmhkfkghbaa
namespace Go.Proofs.Ytoglbmhkfkghbaa
open Go Go.Ab
set_option maxRecDepth 100000
def sNumK (k kt x:Nat) (l:List UInt8) (md:Ab.Mode) (ts:List (Nat × Nat)) (ns:List Int) (m:Ab.Mode):FnSpec where
  β := Unit
  α := Nat × List UInt8
  args := fun _ => [.ref k x 0,isl ns m]
  st := fun _ => ⟨[(k,x,.cells [bsl l md])],ts⟩
  pre := fun _ => True
  post := fun _ y => y.2 = l ++ numsB ns
  res := fun _ _ => .ret (.tup [])
  out := fun _ y => ⟨[(k,x,.cells [bsl y.2 (.tok kt y.1)])],[(kt,y.1)]⟩
theorem numK_ok (k kt x t : Nat) (l : List UInt8) (ns : List Int) (m : Ab.Mode) (hl : l.length + 10 * ns.length ≤ 70368744177664) (hn : ∀ z, z ∈ ns → i64B z = true) :
    ACalls Try.prog 40 ((sNumK k kt x l (.tok kt t) [(kt,t)] ns m).args ()) ((sNumK k kt x l (.tok kt t) [(kt,t)] ns m).st ()) (SpecR (sNumK k kt x l (.tok kt t) [(kt,t)] ns m) ()) := by
  refine (wnum_ok x t l ns m hl hn).respec (A' := sNumK k kt x l (.tok kt t) [(kt,t)] ns m) (x' := ()) ?_ ?_ fun y _ => ⟨(y,l ++ numsB ns),rfl,?_,?_⟩
  · simp [sNumK,sNum,weakL,weakD,chk,isl,weakM_refl]
  · simp [sNumK,sNum,posS,posO,posT,weakO,weakL,weakD,chk,bsl,weakM]
  · simp [sNumK,sNum,weakEnd,weakD,weakL]
  · simp [sNumK,sNum,posS,posO,posT,weakO,weakL,weakD,chk,bsl,weakM]; rfl
theorem numFK_ok (k kt x : Nat) (l : List UInt8) (ns : List Int) (m : Ab.Mode) (hl : l.length + 10 * ns.length ≤ 70368744177664) (hn : ∀ z, z ∈ ns → i64B z = true) :
    ACalls Try.prog 40 ((sNumK k kt x l .full [] ns m).args ()) ((sNumK k kt x l .full [] ns m).st ()) (SpecR (sNumK k kt x l .full [] ns m) ()) := by
  refine (numF_ok x l ns m hl hn).respec (A' := sNumK k kt x l .full [] ns m) (x' := ()) ?_ ?_ fun y _ => ⟨(y,l ++ numsB ns),rfl,?_,?_⟩
  · simp [sNumK,sNum,weakL,weakD,chk,isl,weakM_refl]
  · simp [sNumK,sNum,posS,posO,posT,weakO,weakL,weakD,chk,bsl,weakM]
  · simp [sNumK,sNum,weakEnd,weakD,weakL]
  · simp [sNumK,sNum,posS,posO,posT,weakO,weakL,weakD,chk,bsl,weakM]; rfl
def rowInt:List D→Int
  | [.int _ z] => z
  | _ => 0
def rowI64:List D→Bool
  | [.int .i64 z] => i64B z
  | _ => false
def intsOf (n:Nat) (f:Nat→List D):List Int := (List.range n).map fun i => rowInt (f i)
def intsB (n:Nat) (f:Nat→List D):Bool := (List.range n).all fun i => rowI64 (f i)
def fitP (n0:Nat) (g:Nat→List D) (n:Nat) (f:Nat→List D):Prop := rowsB n0 g = true∧intsB n f = true∧n0 + 10 * n ≤ 70368744177664
theorem bsl_weak {n:Nat} {g:Nat→List D} {m:Ab.Mode} (h:rowsB n g = true):weakD (.sl 1 n g m) (bsl (bytesOf n g) m) := by
  simp only [bsl,weakD,chk_iff]
  refine ⟨by simp,by simp [bytesOf],fun i hi => ?_,weakM_refl m⟩
  have hb:rowB (g i) = true := List.all_eq_true.1 h i (List.mem_range.2 hi)
  have hg:(bytesOf n g).getD i 0 = rowByte (g i) := by simp [bytesOf,List.getD_eq_getElem?_getD,hi]
  rw [hg]
  unfold rowB at hb
  split at hb
  · rename_i d hd
    rw [hd]
    have := byteB_eq hb
    simp only [rowByte]
    rw [← this]
  · cases hb
theorem islW {n:Nat} {f:Nat→List D} {m:Ab.Mode} (h:intsB n f = true):weakD (.sl 1 n f m) (isl (intsOf n f) m) := by
  simp only [isl,weakD,chk_iff]
  refine ⟨by simp,by simp [intsOf],fun i hi => ?_,weakM_refl m⟩
  have hb:rowI64 (f i) = true := List.all_eq_true.1 h i (List.mem_range.2 hi)
  have hg:(intsOf n f).getD i 0 = rowInt (f i) := by simp [intsOf,List.getD_eq_getElem?_getD,hi]
  rw [hg]
  unfold rowI64 at hb
  split at hb
  · rename_i z hd; rw [hd]; rfl
  · cases hb
theorem ints_i64 {n:Nat} {f:Nat→List D} (h:intsB n f = true):∀ z,z ∈ intsOf n f→i64B z = true := by
  intro z hz
  simp only [intsOf,List.mem_map,List.mem_range] at hz
  obtain ⟨i,hi,rfl⟩ := hz
  have hb:rowI64 (f i) = true := List.all_eq_true.1 h i (List.mem_range.2 hi)
  unfold rowI64 at hb
  split at hb
  · rename_i z hd; rw [hd]; exact hb
  · cases hb
def tokIs (ts:List (Nat × Nat)) (kt t:Nat):Prop :=
  match getT ts kt with
  | some t' => t' = t
  | none => False
def conW (con:Nat→List D→St→Option FnSpec) (k:Nat) (ds:List D) (S:St):Option FnSpec :=
  match k with
  | 40 => match ds with
    | [.ref k x 0,.sl 1 n f m] => match getO S.objs k with
      | some (y,.cells [.sl 1 n0 g md]) => match md with
        | .tok kt t => some ((sNumK k kt x (bytesOf n0 g) (.tok kt t) [(kt,t)] (intsOf n f) m).fits () (y = x∧tokIs S.toks kt t∧fitP n0 g n f))
        | .full => some ((sNumK k (nextTok S.toks) x (bytesOf n0 g) .full [] (intsOf n f) m).fits () (y = x∧fitP n0 g n f))
        | _ => none
      | _ => none
    | _ => none
  | _ => con k ds S
theorem conW_ok {con:Nat→List D→St→Option FnSpec} (hc:ConOk Try.prog con):ConOk Try.prog (conW con) := by
  intro k ds S A h
  unfold conW at h
  split at h
  · split at h
    · rename_i k x n f m
      split at h
      · rename_i y n0 g md hg
        split at h
        · rename_i kt t
          injection h with h; subst h
          have key:∀ p:fitP n0 g n f,ACalls Try.prog 40 ((sNumK k kt x (bytesOf n0 g) (.tok kt t) [(kt,t)] (intsOf n f) m).args ()) ((sNumK k kt x (bytesOf n0 g) (.tok kt t) [(kt,t)] (intsOf n f) m).st ()) (SpecR (sNumK k kt x (bytesOf n0 g) (.tok kt t) [(kt,t)] (intsOf n f) m) ()) := fun p =>
            numK_ok k kt x t _ _ m (by simpa [bytesOf,intsOf] using p.2.2) (ints_i64 p.2.1)
          refine ⟨fun _ hy => key hy.1.2.2,fun _ _ hy => ?_,fun h => nomatch h⟩
          obtain ⟨⟨e,ht,p⟩,_⟩ := hy
          subst e
          refine ⟨⟨by simp [weakD,chk],islW p.2.1,trivial⟩,chk_iff.2 ⟨rfl,?_,?_⟩⟩
          · simp only [FnSpec.fits,sNumK,leO,hg]
            exact ⟨trivial,⟨bsl_weak p.1,trivial⟩,trivial⟩
          · unfold tokIs at ht
            simp only [FnSpec.fits,sNumK,leT]
            split at ht
            · rename_i t' e; rw [e]; exact ⟨ht,trivial⟩
            · exact ht.elim
        · injection h with h; subst h
          have key:∀ p:fitP n0 g n f,ACalls Try.prog 40 ((sNumK k (nextTok S.toks) x (bytesOf n0 g) .full [] (intsOf n f) m).args ()) ((sNumK k (nextTok S.toks) x (bytesOf n0 g) .full [] (intsOf n f) m).st ()) (SpecR (sNumK k (nextTok S.toks) x (bytesOf n0 g) .full [] (intsOf n f) m) ()) := fun p =>
            numFK_ok k _ x _ _ m (by simpa [bytesOf,intsOf] using p.2.2) (ints_i64 p.2.1)
          refine ⟨fun _ hy => key hy.1.2,fun _ _ hy => ?_,fun h => nomatch h⟩
          obtain ⟨⟨e,p⟩,_⟩ := hy
          subst e
          refine ⟨⟨by simp [weakD,chk],islW p.2.1,trivial⟩,chk_iff.2 ⟨rfl,?_,trivial⟩⟩
          simp only [FnSpec.fits,sNumK,leO,hg]
          exact ⟨trivial,⟨bsl_weak p.1,trivial⟩,trivial⟩
        · cases h
      · cases h
    · cases h
  · exact hc _ _ _ _ h
theorem bytesOf_bsl (l:List UInt8):bytesOf l.length (fun i => [.int .u8 ((l.getD i 0).toNat:Int)]) = l := by
  apply List.ext_getElem
  · simp [bytesOf]
  · intro i h1 h2
    simp only [bytesOf,List.getElem_map,List.getElem_range,rowByte,Ab.byteOf,List.getD_eq_getElem?_getD,List.getElem?_eq_getElem h2,Option.getD_some,Int.toNat_natCast,UInt8.ofNat_toNat]
theorem rowsB_bsl (l:List UInt8):rowsB l.length (fun i => [.int .u8 ((l.getD i 0).toNat:Int)]) = true := by
  simp only [rowsB,List.all_eq_true,List.mem_range]
  intro i _
  have := (l.getD i 0).toNat_lt
  simp only [rowB,Ab.byteB,Bool.and_eq_true,decide_eq_true_eq]; omega
theorem i64B_iff {z:Int}:i64B z = true↔inI64 z := by simp [i64B,inI64]
theorem intsOf_isl (ns:List Int):intsOf ns.length (fun i => [.int .i64 (ns.getD i 0)]) = ns := by
  apply List.ext_getElem
  · simp [intsOf]
  · intro i h1 h2
    simp only [intsOf,List.getElem_map,List.getElem_range,rowInt,List.getD_eq_getElem?_getD,List.getElem?_eq_getElem h2,Option.getD_some]
theorem fit_isl {l:List UInt8} {ns:List Int} (h:∀ z ∈ ns,inI64 z) (hl:l.length + 10 * ns.length ≤ 70368744177664):fitP l.length (fun i => [.int .u8 ((l.getD i 0).toNat:Int)]) ns.length (fun i => [.int .i64 (ns.getD i 0)]) := by
  refine ⟨rowsB_bsl l,?_,hl⟩
  simp only [intsB,List.all_eq_true,List.mem_range]
  intro i hi
  simp only [rowI64]
  rw [i64B_iff]
  refine h _ ?_
  rw [List.getD_eq_getElem?_getD,List.getElem?_eq_getElem hi]; exact List.getElem_mem hi
theorem fit_lit (l:List UInt8) (ns:List Int) (h:∀ z ∈ ns,inI64 z) (hl:l.length + 10 * ns.length ≤ 70368744177664):fitP l.length (fun i => [.int .u8 ((l.getD i 0).toNat:Int)]) ns.length (fun i => (ns.map fun z => [D.int .i64 z]).getD i []) := by
  refine ⟨rowsB_bsl l,?_,hl⟩
  simp only [intsB,List.all_eq_true,List.mem_range]
  intro i hi
  rw [List.getD_eq_getElem?_getD,List.getElem?_map,List.getElem?_eq_getElem hi,Option.map_some,Option.getD_some]
  simp only [rowI64]
  rw [i64B_iff]
  exact h _ (List.getElem_mem hi)
theorem tok_is (k t:Nat):tokIs [(k,t)] k t := by simp [tokIs,getT]
end Go.Proofs.Ytoglbmhkfkghbaa
namespace Go.Proofs.Ytoglbmhkfkghbaa
open Go Go.Ab
set_option maxRecDepth 100000
def uP:Nat→Nat→List UInt8→Option (Nat × List UInt8)
  | _,_,[] => none
  | i,u,c :: r => if 10 ≤ i∨(i = 9∧2 ≤ c.toNat) then none
    else if c.toNat < 128 then (if c.toNat = 0∧i ≠ 0 then none else some (u + c.toNat % 128 * 2 ^ (7 * i),r))
    else uP (i + 1) (u + c.toNat % 128 * 2 ^ (7 * i)) r
def unzig (u:Nat):Int := if u % 2 = 1 then -((u / 2:Nat):Int) - 1 else ((u / 2:Nat):Int)
def numP (l:List UInt8):Option (Int × List UInt8) := match uP 0 0 l with
  | none => none
  | some y => some (unzig y.1,y.2)
def brk:D := .iface 96 (.agg [])
def bS (x:Nat) (l:List UInt8):St := ⟨[(0,x,.cells [bsl l .any])],[]⟩
def _root_.Go.Ab.endP {α:Type} (x:Nat) (p:Option (α × List UInt8)) (d:α→D) (e:AEnd) (S:St):Prop :=
  match e with
  | .ret d' => ∃ y:α × List UInt8,p = some y∧weakD d' (d y.1)∧leS (bS x y.2) S
  | .pan d' => p = none∧weakD d' brk∧∃ r:List UInt8,leS (bS x r) S
theorem uP_lt:∀ (l:List UInt8) (i u:Nat),u < 2 ^ (7 * i)→i ≤ 9→∀ y,uP i u l = some y→y.1 < 2 ^ 64∧y.2.length < l.length
  | [],i,u,_,_,y,h => by simp [uP] at h
  | c :: r,i,u,hu,hi,y,h => by
    rw [uP] at h
    split at h
    · cases h
    · rename_i h1
      have hb:u + c.toNat % 128 * 2 ^ (7 * i) < 2 ^ (7 * (i + 1)) := by
        rw [show 7 * (i + 1) = 7 * i + 7 by omega,Nat.pow_add]
        have:c.toNat % 128 * 2 ^ (7 * i) ≤ 127 * 2 ^ (7 * i) := Nat.mul_le_mul_right _ (by omega)
        omega
      have h9:i = 9→u + c.toNat % 128 * 2 ^ (7 * i) < 2 ^ 64 := by
        intro e
        subst e
        have hc:c.toNat < 2 := by omega
        have:c.toNat % 128 ≤ 1 := by omega
        omega
      have h8:u + c.toNat % 128 * 2 ^ (7 * i) < 2 ^ 64 := by
        by_cases e:i = 9
        · exact h9 e
        · exact Nat.lt_of_lt_of_le hb (Nat.pow_le_pow_right (by omega) (by omega))
      split at h
      · split at h
        · cases h
        · injection h with h; subst h
          exact ⟨h8,by simp⟩
      · rename_i hc
        by_cases e:i = 9
        · omega
        · have := uP_lt r (i + 1) _ hb (by omega) y h
          exact ⟨this.1,by simp only [List.length_cons]; omega⟩
theorem unzig_i64 {u:Nat} (h:u < 2 ^ 64):inI64 (unzig u) := by
  unfold unzig inI64
  split <;> omega
theorem numP_ok {l:List UInt8} {y:Int × List UInt8} (h:numP l = some y):inI64 y.1∧y.2.length < l.length := by
  unfold numP at h
  split at h
  · cases h
  · rename_i z hz
    injection h with h; subst h
    have := uP_lt l 0 0 (by simp) (by omega) z hz
    exact ⟨unzig_i64 this.1,this.2⟩
theorem low64 {V:Nat} (h:V < 2 ^ 64):andI .u64 (V:Int) 1 = 1↔V % 2 = 1 := by
  have := andI_nat (k := .u64) rfl (a := V) (b := 1) (by simpa [IntKind.bits] using h) (by simp [IntKind.bits])
  rw [show ((1:Nat):Int) = 1 from rfl] at this
  rw [this,Nat.and_one_is_mod]
  omega
theorem and127b (c:UInt8):andI .u8 (c.toNat:Int) 127 = ((c.toNat % 128:Nat):Int) := by
  have hc := c.toNat_lt
  have := andI_nat (k := .u8) rfl (a := c.toNat) (b := 127) (by simpa [IntKind.bits] using hc) (by simp [IntKind.bits])
  rw [show ((127:Nat):Int) = 127 from rfl] at this
  rw [this,show (127:Nat) = 2 ^ 7 - 1 from rfl,Nat.and_two_pow_sub_one_eq_mod]
theorem acc_lt {i u:Nat} {c:UInt8} (hi:i ≤ 9) (hu:u < 2 ^ (7 * i)) (h9:i = 9→c.toNat < 2):u + c.toNat % 128 * 2 ^ (7 * i) < 2 ^ 64∧u + c.toNat % 128 * 2 ^ (7 * i) < 2 ^ (7 * (i + 1)) := by
  have hb:u + c.toNat % 128 * 2 ^ (7 * i) < 2 ^ (7 * (i + 1)) := by
    rw [show 7 * (i + 1) = 7 * i + 7 by omega,Nat.pow_add]
    have:c.toNat % 128 * 2 ^ (7 * i) ≤ 127 * 2 ^ (7 * i) := Nat.mul_le_mul_right _ (by omega)
    omega
  refine ⟨?_,hb⟩
  by_cases e:i = 9
  · subst e
    have := h9 rfl
    have:c.toNat % 128 ≤ 1 := by omega
    omega
  · exact Nat.lt_of_lt_of_le hb (Nat.pow_le_pow_right (by omega) (by omega))
theorem accV {i u : Nat} {c : UInt8} (hi : i ≤ 9) (hu : u < 2 ^ (7 * i)) (h9 : i = 9 → c.toNat < 2) :
    orI .u64 (u:Int) (IntKind.u64.wrap (IntKind.u64.wrap (andI .u8 (c.toNat:Int) 127) * 2 ^ min (7 * (i:Int)).toNat 64)) = ((u + c.toNat % 128 * 2 ^ (7 * i):Nat):Int) := by
  have hlt := (acc_lt hi hu h9).1
  have e1:min (7 * (i:Int)).toNat 64 = 7 * i := by omega
  have e2:IntKind.u64.wrap ((c.toNat % 128:Nat):Int) = ((c.toNat % 128:Nat):Int) := by rw [IntKind.wrap_u64]; omega
  have e3:((c.toNat % 128:Nat):Int) * 2 ^ (7 * i) = ((c.toNat % 128 * 2 ^ (7 * i):Nat):Int) := by rw [Int.natCast_mul,Int.natCast_pow]; rfl
  have e4:IntKind.u64.wrap ((c.toNat % 128 * 2 ^ (7 * i):Nat):Int) = ((c.toNat % 128 * 2 ^ (7 * i):Nat):Int) := by rw [IntKind.wrap_u64]; omega
  rw [and127b,e1,e2,e3,e4,orI_nat (k := .u64) rfl (by simp only [IntKind.bits]; omega) (by simp only [IntKind.bits]; omega)]
  have h5 := Nat.shiftLeft_add_eq_or_of_lt hu (c.toNat % 128)
  rw [Nat.shiftLeft_eq] at h5
  rw [Nat.or_comm,← h5,Nat.add_comm]
noncomputable def Ern (x:Nat) (l:List UInt8):Senv := { EC con0 67 1 [2,3,4,5,49,59] (fun _ => ([],[])) with
  ann := fun b _ _ => match b with
    | 0 => some { slots := [4,3],keep := [0],α := Nat × Nat × List UInt8,st := fun y => ([.int .i64 y.1,.int .u64 y.2.1],bS x y.2.2),inv := fun y => y.1 ≤ 10∧y.2.1 < 2 ^ (7 * y.1)∧y.2.2.length ≤ l.length∧uP y.1 y.2.1 y.2.2 = uP 0 0 l,mu := fun y => 10 - y.1 }
    | _ => none }
noncomputable section
def rd1q0 (p0 p1:Nat) (p2 p3:List UInt8):Prop := p0 ≤ (10:Nat)∧p1 < N2 ^ ((7:Nat) * p0)∧LN p2 ≤ LN p3∧uP p0 p1 p2 = uP N0 N0 p3
def rd1q1 (p0:List UInt8) (p1:Nat):List D := [ZB (BI p0 p1)]
def rd1q2 (p0:Nat) (p1 p2:List UInt8):Prop := (SM p0∧((LN p1 = LN p2∧(∀ (i:Nat),i < LN p1→rd1q1 p1 i = rd1q1 p2 i)∧True)∧True)∧True)∧True
def rd1q3 (p0:List UInt8) (p1:Nat) (p2:List UInt8):Prop := numP p0 = none∧(SM (96:Nat)∧True)∧∃ (r:List UInt8),rd1q2 p1 p2 r
def rd1q4 (p0:List UInt8):Int := (BI p0 N0)
def rd1q5 (p0:Nat) (p1:List UInt8) (p2:Nat):Int := orI IntKind.u64 (↑p0:Int) (IntKind.wrap IntKind.u64 (IntKind.wrap IntKind.u64 (andI IntKind.u8 (rd1q4 p1) (127:Int)) * (2:Int) ^ min (Int.toNat (IntKind.wrap IntKind.i64 ((7:Int) * (↑p2:Int)))) (64:Nat)))
def rd1q6 (p0:Nat) (p1:List UInt8) (p2:Nat):Int := Int.fdiv (rd1q5 p0 p1 p2) (2:Int)
def rd1q7 (p0:Nat) (p1 p2:List UInt8):Prop := (SM p0∧((TL p1 - N1 = LN p2∧(∀ (i:Nat),i < TL p1 - N1→[ZB (BI p1 (N1 + i))] = rd1q1 p2 i)∧True)∧True)∧True)∧True
def rd1q8 (p0:Nat) (p1:List UInt8) (p2:Nat) (p3:List UInt8) (p4:Nat):Prop := True∧ifB (andI IntKind.u64 (rd1q5 p0 p1 p2) Z1 == Z1) (True∧∃ (y:Int × List UInt8),numP p3 = some y∧IntKind.wrap IntKind.i64 (notI IntKind.u64 (rd1q6 p0 p1 p2)) = y.1∧rd1q7 p4 p1 y.2) (True∧∃ (y:Int × List UInt8),numP p3 = some y∧IntKind.wrap IntKind.i64 (rd1q6 p0 p1 p2) = y.1∧rd1q7 p4 p1 y.2)
def rd1q9 (p0:List UInt8) (p1:Nat) (p2:List UInt8):Prop := numP p0 = none∧(SM (96:Nat)∧True)∧∃ (r:List UInt8),rd1q7 p1 p2 r
def rd1q10 (p0:Nat) (p1:List UInt8) (p2:Nat) (p3:List UInt8) (p4:Nat):Prop := True∧side (Z0 ≤ IntKind.wrap IntKind.i64 ((7:Int) * (↑p0:Int))) (ifB (decide (rd1q4 p1 < (128:Int))) (ifB (decide (Z0 < rd1q4 p1)) (rd1q8 p2 p1 p0 p3 p4) (ifB (! (↑p0:Int) == Z0) (rd1q9 p3 p4 p1) (rd1q8 p2 p1 p0 p3 p4))) ((SM (D.ref N0 p4 N0)∧True)∧∃ (y:Nat × Nat × List UInt8),rd1q0 y.1 y.2.1 y.2.2 p3∧(10:Nat) - y.1 < (10:Nat) - p0∧(IntKind.wrap IntKind.i64 ((↑p0:Int) + Z1) = (NI y.1)∧rd1q5 p2 p1 p0 = (NI y.2.1)∧True)∧rd1q7 p4 p1 y.2.2))
end
theorem rnum_num (x:Nat) (l:List UInt8) (_hl:l.length ≤ 1099511627776):ACalls Try.prog 72 [.ref 0 x 0] (bS x l) (endP x (numP l) (.int .i64)) := by
  refine call_of (E := Ern x l) (eOk con0_ok rfl) Try.func72 rfl (by kernel_rfl) rfl (by simp [Ern,EC,E0]) ?_
  refine vc_eq (T :=
    (∃ (x_1:Nat × Nat × List UInt8),rd1q0 x_1.1 x_1.2.1 x_1.2.2 l∧(Z0 = (NI x_1.1)∧Z0 = (NI x_1.2.1)∧True)∧rd1q2 x l x_1.2.2)∧∀ (x_1:Nat × Nat × List UInt8),rd1q0 x_1.1 x_1.2.1 x_1.2.2 l→SM x∧ifB (decide (Z0 < (LI x_1.2.2))) (ifB (!decide ((NI x_1.1) < (10:Int))) (rd1q3 l x x_1.2.2) (True∧SM x∧side (Z0 ≤ Z0∧Z0 < (LI x_1.2.2)) (SM x∧side (Z0 ≤ Z1∧Z1 ≤ (LI x_1.2.2)∧(LI x_1.2.2) ≤ (LI x_1.2.2)) (SM x∧ifB (decide ((NI x_1.1) < (9:Int))) (rd1q10 x_1.1 x_1.2.2 x_1.2.1 l x) (ifB (!decide (rd1q4 x_1.2.2 < (2:Int))) (rd1q9 l x x_1.2.2) (rd1q10 x_1.1 x_1.2.2 x_1.2.1 l x)))))) (rd1q3 l x x_1.2.2)) (by kernel_rfl) ?_
  delta BI LI LN N0 N1 N2 NI SM TL U0 Z0 Z1 ZB rd1q0 rd1q1 rd1q10 rd1q2 rd1q3 rd1q4 rd1q5 rd1q6 rd1q7 rd1q8 rd1q9
  simp only [eq_self,ne_eq,Int.toNat_natCast,ifB_iff,side_iff,decide_eq_true_eq,decide_eq_false_iff_not,true_and,and_true,beq_iff_eq,beq_eq_false_iff_ne]
  refine ⟨⟨(0,0,l),⟨Nat.zero_le _,by simp,Nat.le_refl _,rfl⟩,⟨rfl,rfl⟩,rfl,fun _ _ => rfl⟩,?_⟩
  rintro ⟨i,u,l'⟩ ⟨hi,hu,hll,hu0⟩
  simp only at hi hu hll hu0 ⊢
  have hnone:uP i u l' = none→numP l = none := fun h => by unfold numP; rw [← hu0,h]
  have hsome:∀ y,uP i u l' = some y→numP l = some (unzig y.1,y.2) := fun y h => by unfold numP; rw [← hu0,h]
  cases l' with
  | nil =>
    refine ⟨fun h => ?_,fun _ => ⟨hnone rfl,[],rfl,fun _ h => absurd h (Nat.not_lt_zero _)⟩⟩
    simp at h
  | cons c r =>
    have hrow:∀ j,j < (c :: r).length - 1→[D.int .u8 (((c :: r).getD (1 + j) 0).toNat:Int)] = [D.int .u8 ((r.getD j 0).toNat:Int)] := fun j _ => by rw [Nat.add_comm 1 j]; rfl
    have hrow0:∀ j,j < (c :: r).length→[D.int .u8 (((c :: r).getD j 0).toNat:Int)] = [D.int .u8 (((c :: r).getD j 0).toNat:Int)] := fun j _ => rfl
    have hw7:i ≤ 9→IntKind.i64.wrap (7 * (i:Int)) = 7 * (i:Int) := fun h => wrap_i64' (by omega) (by omega)
    have fin : ∀ V : Nat, V < 2 ^ 64 → uP i u (c :: r) = some (V, r) →
        (andI .u64 (V:Int) 1 = 1→∃ y:Int × List UInt8,numP l = some y∧IntKind.i64.wrap (notI .u64 ((V:Int).fdiv 2)) = y.1∧(c :: r).length - 1 = y.2.length∧∀ j,j < (c :: r).length - 1→[D.int .u8 (((c :: r).getD (1 + j) 0).toNat:Int)] = [D.int .u8 ((y.2.getD j 0).toNat:Int)]) ∧
        (¬ andI .u64 (V:Int) 1 = 1→∃ y:Int × List UInt8,numP l = some y∧IntKind.i64.wrap ((V:Int).fdiv 2) = y.1∧(c :: r).length - 1 = y.2.length∧∀ j,j < (c :: r).length - 1→[D.int .u8 (((c :: r).getD (1 + j) 0).toNat:Int)] = [D.int .u8 ((y.2.getD j 0).toNat:Int)]) := by
      intro V hV hs
      have hb := low64 hV
      refine ⟨fun h => ⟨(unzig V,r),hsome _ hs,?_,rfl,hrow⟩,fun h => ⟨(unzig V,r),hsome _ hs,?_,rfl,hrow⟩⟩
      · have e:V % 2 = 1 := hb.1 h
        have e2:(V:Int).fdiv 2 = ((V / 2:Nat):Int) := fdiv_nat V 2
        rw [e2,not64 (by omega)]
        unfold unzig
        rw [if_pos e]
        simp only [IntKind.wrap_i64]
        omega
      · have e:¬ V % 2 = 1 := fun e => h (hb.2 e)
        have e2:(V:Int).fdiv 2 = ((V / 2:Nat):Int) := fdiv_nat V 2
        rw [e2]
        unfold unzig
        rw [if_neg e]
        exact wrap_i64' (by omega) (by omega)
    have c0:(c :: r).getD 0 0 = c := rfl
    simp only [c0]
    have hcl:((c :: r).length:Int) = r.length + 1 := by simp
    have hdone:i ≤ 9→(i = 9→c.toNat < 2)→c.toNat < 128→(c.toNat ≠ 0∨i = 0)→uP i u (c :: r) = some (u + c.toNat % 128 * 2 ^ (7 * i),r) := fun a1 a2 a3 a4 => by
      rw [uP,if_neg (by omega),if_pos a3,if_neg (by omega)]
    have hgo:i ≤ 9→(i = 9→c.toNat < 2)→¬ c.toNat < 128→uP i u (c :: r) = uP (i + 1) (u + c.toNat % 128 * 2 ^ (7 * i)) r := fun a1 a2 a3 => by
      rw [uP,if_neg (by omega),if_neg a3]
    have hbad:(10 ≤ i∨(i = 9∧2 ≤ c.toNat))→uP i u (c :: r) = none := fun a => by rw [uP,if_pos a]
    have hzero:c.toNat = 0→i ≠ 0→uP i u (c :: r) = none := fun a1 a2 => by
      rw [uP]; split
      · rfl
      · rw [if_pos (by omega),if_pos ⟨a1,a2⟩]
    have common : i ≤ 9 → (i = 9 → c.toNat < 2) → (0 ≤ IntKind.i64.wrap (7 * (i : Int)) ∧
        orI .u64 (u:Int) (IntKind.u64.wrap (IntKind.u64.wrap (andI .u8 (c.toNat:Int) 127) * 2 ^ min (IntKind.i64.wrap (7 * (i:Int))).toNat 64)) = ((u + c.toNat % 128 * 2 ^ (7 * i):Nat):Int))∧u + c.toNat % 128 * 2 ^ (7 * i) < 2 ^ 64∧u + c.toNat % 128 * 2 ^ (7 * i) < 2 ^ (7 * (i + 1)) := fun a1 a2 => by
      refine ⟨⟨by rw [hw7 a1]; omega,?_⟩,?_⟩
      · rw [hw7 a1]; exact accV a1 hu a2
      · exact acc_lt a1 hu a2
    refine ⟨fun hlen => ⟨fun h10 => ?_,fun h10 => ⟨by omega,by omega,fun h9 => ?_,fun h9 => ⟨fun h2 => ?_,fun h2 => ?_⟩⟩⟩,fun hlen => (hlen (by omega)).elim⟩
    · have h10:¬ (i:Int) < 10 := by simpa using h10
      exact ⟨hnone (hbad (by omega)),c :: r,rfl,hrow0⟩
    · obtain ⟨⟨q1,q2⟩,q3,q4⟩ := common (by omega) (by omega)
      rw [q2]
      refine ⟨q1,fun h128 => ⟨fun h0 => fin _ q3 (hdone (by omega) (by omega) (by omega) (by omega)),fun h0 => ⟨fun hi0 => ?_,fun hi0 => ?_⟩⟩,fun h128 => ⟨(i + 1,u + c.toNat % 128 * 2 ^ (7 * i),r),⟨by simp only; omega,q4,by simp only [List.length_cons] at hll ⊢; omega,by rw [← hu0,hgo (by omega) (by omega) (by omega)]⟩,by simp only; omega,⟨wrap_i64' (by omega) (by omega),rfl⟩,rfl,hrow⟩⟩
      · have hi0:i ≠ 0 := by simpa using hi0
        exact ⟨hnone (hzero (by omega) hi0),r,rfl,hrow⟩
      · have hi0:i = 0 := by simpa using hi0
        exact fin _ q3 (hdone (by omega) (by omega) (by omega) (by omega))
    · have h2:¬ (c.toNat:Int) < 2 := by simpa using h2
      have h10:(i:Int) < 10 := by simpa using h10
      exact ⟨hnone (hbad (by omega)),r,rfl,hrow⟩
    · have h2:(c.toNat:Int) < 2 := by simpa using h2
      have h10:(i:Int) < 10 := by simpa using h10
      obtain ⟨⟨q1,q2⟩,q3,q4⟩ := common (by omega) (by omega)
      rw [q2]
      refine ⟨q1,fun h128 => ⟨fun h0 => fin _ q3 (hdone (by omega) (by omega) (by omega) (by omega)),fun h0 => ⟨fun hi0 => ?_,fun hi0 => ?_⟩⟩,fun h128 => by omega⟩
      · have hi0:i ≠ 0 := by simpa using hi0
        exact ⟨hnone (hzero (by omega) hi0),r,rfl,hrow⟩
      · have hi0:i = 0 := by simpa using hi0
        exact fin _ q3 (hdone (by omega) (by omega) (by omega) (by omega))
end Go.Proofs.Ytoglbmhkfkghbaa
namespace Go.Proofs.Ytoglbmhkfkghbaa
open Go Go.Ab
structure I4 where
  (a b c d:Int)
  deriving Inhabited
structure I6 where
  (a b c d e f:Int)
  deriving Inhabited
def I4.row (x:I4):List D := [.int .i64 x.a,.int .i64 x.b,.int .i64 x.c,.int .i64 x.d]
def I6.row (x:I6):List D := [.int .i64 x.a,.int .i64 x.b,.int .i64 x.c,.int .i64 x.d,.int .i64 x.e,.int .i64 x.f]
def I4.ok (x:I4):Prop := inI64 x.a∧inI64 x.b∧inI64 x.c∧inI64 x.d
def I6.ok (x:I6):Prop := inI64 x.a∧inI64 x.b∧inI64 x.c∧inI64 x.d∧inI64 x.e∧inI64 x.f
def gsl {α:Type} [Inhabited α] (w:Nat) (g:α→List D) (l:List α):D := .sl w l.length (fun i => g (l.getD i default)) .any
structure FnD where
  slots:Int
  code:List I4
  deriving Inhabited
structure KeD where
  inputs:Int
  ops:List I4
  (reduce at_:Int)
  deriving Inhabited
structure LaD where
  regs:Int
  code:List I6
  deriving Inhabited
def FnD.row (f:FnD):List D := [.int .i64 f.slots,gsl 4 I4.row f.code]
def KeD.row (k:KeD):List D := [.int .i64 k.inputs,gsl 4 I4.row k.ops,.int .i64 k.reduce,.int .i64 k.at_]
def LaD.row (p:LaD):List D := [.int .i64 p.regs,gsl 6 I6.row p.code]
def FnD.ok (f:FnD):Prop := inI64 f.slots∧(∀ x ∈ f.code,x.ok)∧f.code.length ≤ maxLen
def KeD.ok (k:KeD):Prop := inI64 k.inputs∧(∀ x ∈ k.ops,x.ok)∧k.ops.length ≤ maxLen∧inI64 k.reduce∧inI64 k.at_
def LaD.ok (p:LaD):Prop := inI64 p.regs∧(∀ x ∈ p.code,x.ok)∧p.code.length ≤ maxLen
instance:Inhabited Arr := ⟨.mk 0 [] [] []⟩
structure CodD where
  consts:List Arr
  funs:List FnD
  kers:List KeD
  lanes:List LaD
def CodD.row (c:CodD):List D := [gsl 4 Arr.row c.consts,gsl 2 FnD.row c.funs,gsl 4 KeD.row c.kers,gsl 2 LaD.row c.lanes]
def CodD.ok (c:CodD):Prop := (∀ x ∈ c.consts,x.ok)∧(∀ x ∈ c.funs,x.ok)∧(∀ x ∈ c.kers,x.ok)∧(∀ x ∈ c.lanes,x.ok)∧c.consts.length ≤ maxLen∧c.funs.length ≤ maxLen∧c.kers.length ≤ maxLen∧c.lanes.length ≤ maxLen
def D4:I4 := I4.mk (0:Int) (0:Int) (0:Int) (0:Int)
def D6:I6 := I6.mk (0:Int) (0:Int) (0:Int) (0:Int) (0:Int) (0:Int)
def DF:FnD := FnD.mk (0:Int) []
def DK:KeD := KeD.mk (0:Int) [] (0:Int) (0:Int)
def DL:LaD := LaD.mk (0:Int) []
def DA:Arr := Arr.mk (0:Int) [] [] []
def GC (c:CodD) (i:Nat):Arr := List.getD (CodD.consts c) i (Arr.mk (0:Int) [] [] [])
def GF (c:CodD) (i:Nat):FnD := List.getD (CodD.funs c) i (FnD.mk (0:Int) [])
def GK (c:CodD) (i:Nat):KeD := List.getD (CodD.kers c) i (KeD.mk (0:Int) [] (0:Int) (0:Int))
def GL (c:CodD) (i:Nat):LaD := List.getD (CodD.lanes c) i (LaD.mk (0:Int) [])
def G4 (l:List I4) (i:Nat):I4 := List.getD l i (I4.mk (0:Int) (0:Int) (0:Int) (0:Int))
def G6 (l:List I6) (i:Nat):I6 := List.getD l i (I6.mk (0:Int) (0:Int) (0:Int) (0:Int) (0:Int) (0:Int))
def GA (l:List Arr) (i:Nat):Arr := List.getD l i (Arr.mk (0:Int) [] [] [])
def R4 (x:I4):List D := [D.int IntKind.i64 (I4.a x),D.int IntKind.i64 (I4.b x),D.int IntKind.i64 (I4.c x),D.int IntKind.i64 (I4.d x)]
def R6 (x:I6):List D := [D.int IntKind.i64 (I6.a x),D.int IntKind.i64 (I6.b x),D.int IntKind.i64 (I6.c x),D.int IntKind.i64 (I6.d x),D.int IntKind.i64 (I6.e x),D.int IntKind.i64 (I6.f x)]
end Go.Proofs.Ytoglbmhkfkghbaa
namespace Go.Proofs.Ytoglbmhkfkghbaa
open Go Go.Ab
def between (n lo hi:Int):Bool := decide (lo ≤ n) && decide (n ≤ hi)
def primB (n:Int):Bool := between n 1 55
abbrev Eff := List UInt8 × List UInt8
def gu (b:Bool) (e:Eff):Option Eff := if b then some e else none
def plainS (main:Bool) (op:Int):Option Eff :=
  if op = 13 then gu (!main) ([],[102])
  else if op = 14 then gu (!main) ([],[102])
  else if op = 15 then gu (!main) ([],[102])
  else if op = 3 then gu (!main) ([],[97])
  else if op = 4 then gu (!main) ([],[97])
  else if op = 2 then some ([],[97])
  else if op = 19 then some ([97],[102])
  else if op = 20 then some ([102,102],[102])
  else if op = 21 then some ([102,102,102],[102])
  else if op = 22 then some ([102,97],[97])
  else if op = 23 then some ([102,97,97],[97])
  else if op = 26 then some ([97],[])
  else if op = 25 then (if main then some ([],[]) else some ([97],[]))
  else none
def effS (nc nf:Nat) (slots:Int) (len:Nat) (ks:List KeD) (main:Bool) (x:I4):Option Eff :=
  if x.a = 1 then gu (between x.b 0 (nc - 1) && decide (x.c = 0)) ([],[97])
  else if x.a = 5 then gu (decide (0 ≤ x.b) && decide (0 ≤ x.c)) ([],[97])
  else if x.a = 12 then gu (decide (0 ≤ x.b) && decide (0 ≤ x.c)) ([],[102])
  else if x.a = 6 then gu (between x.b 0 (IntKind.i64.wrap (slots - 1)) && decide (x.c = 0)) ([42],[])
  else if x.a = 7 then gu (between x.b 2 1000 && decide (x.c = 0)) (Lib.repeatL [97] x.b.toNat,[97])
  else if x.a = 8 then gu (primB x.b && decide (x.c = 0)) ([97],[97])
  else if x.a = 9 then gu (primB x.b && decide (x.c = 0)) ([97,97],[97])
  else if x.a = 10 then gu (primB x.b && decide (x.c = 0)) ([],[102])
  else if x.a = 11 then gu (between x.b 1 (nf - 1) && decide (x.c = 0)) ([],[102])
  else if x.a = 16 then gu (between x.b 1 5 && decide (x.c = 0)) ([102],[102])
  else if x.a = 17 then (if x.b = 6∨x.b = 10∨x.b = 11 then gu (decide (x.c = 1)) ([102,102],[102]) else gu (between x.b 7 9 && decide (x.c = 0)) ([102,97],[102]))
  else if x.a = 18 then gu (between x.b 2 3 && decide (x.c = 0)) (Lib.repeatL [102] x.b.toNat,[102])
  else if x.a = 24 then gu (between x.b 0 (len - 1) && decide (x.c = 0)) ([97],[])
  else if x.a = 27 then (if between x.b 0 (ks.length - 1) then gu (between (ks.getD x.b.toNat default).inputs 1 16 && decide (x.c = 0)) (Lib.repeatL [97] (ks.getD x.b.toNat default).inputs.toNat,[97]) else none)
  else if x.b = 0∧x.c = 0 then plainS main x.a else none
def effC (c:CodD) (f:Nat) (x:I4):Option Eff := effS c.consts.length c.funs.length (c.funs.getD f default).slots (c.funs.getD f default).code.length c.kers (decide (f = 0)) x
end Go.Proofs.Ytoglbmhkfkghbaa
namespace Go.Proofs.Ytoglbmhkfkghbaa
open Go Go.Ab
theorem repeat_ok (s:List UInt8) (n:Int) (h0:0 ≤ n) (hn:n ≤ 9223372036854775807) (hl:s.length * n.toNat ≤ 140737488355328):ACalls Try.prog 94 [.str s,.int .i64 n] ⟨[],[]⟩ (SpecR (sC [.str s,.int .i64 n] (.str (Lib.repeatL s n.toNat))) ()) := by
  refine ACalls.of_shelf ⟨_,Try.func94,by kernel_rfl,by kernel_rfl⟩ fun C args w ha => ?_
  obtain ⟨u,v,e,hu,hv⟩ := repL_two' ha
  have e2:args = [u,v].toArray := by rw [← e]
  subst e2
  simp only [Rep] at hu hv; subst hu hv
  have := Try.strings_Repeat ⟨s.toArray⟩ n.toNat w (by omega) (by simpa [ByteArray.size] using hl)
  rw [show ((n.toNat:Nat):Int) = n by omega] at this
  exact this.mono fun e w' ⟨h1,h2⟩ => ⟨⟨_,h1,by simp [Rep]⟩,h2⟩
def conR:Con := fun k ds _ => match k with
  | 94 => match ds with
    | [.str s,.int .i64 n] => some (pC [.str s,.int .i64 n] (.str (Lib.repeatL s n.toNat)) (0 ≤ n∧n ≤ 9223372036854775807∧s.length * n.toNat ≤ 140737488355328))
    | _ => none
  | _ => none
theorem conR_ok:ConOk Try.prog conR := by
  intro k ds S A h
  unfold conR at h
  split at h
  · split at h
    · injection h with h; subst h
      exact pC_ok fun ⟨h1,h2,h3⟩ => ⟨weakL_refl _,repeat_ok _ _ h1 h2 h3⟩
    · cases h
  · cases h
theorem repeatL_snoc (s:List UInt8):∀ i,Lib.repeatL s i ++ s = Lib.repeatL s (i + 1)
  | 0 => by simp [Lib.repeatL]
  | i + 1 => by rw [Lib.repeatL,List.append_assoc,repeatL_snoc s i,← Lib.repeatL]
noncomputable def Ermany (s:List UInt8) (n:Nat):Senv := { EC con0 16 2 [4,5,6,9] (fun _ => ([],[])) with
  ann := fun b _ _ => match b with
    | 0 => some { slots := [5,6],keep := [0,1],α := Nat,st := fun i => ([.str (Lib.repeatL s i),.int .i64 i],⟨[],[]⟩),inv := fun i => i ≤ n,mu := fun i => n - i }
    | _ => none }
theorem rmany_ok (s:List UInt8) (n:Nat) (hn:n ≤ 1000) (hs:s.length = 1):ACalls Try.prog 89 [.str s,.int .i64 n] ⟨[],[]⟩ (SpecR (sC [.str s,.int .i64 n] (.str (Lib.repeatL s n))) ()) := by
  refine con_of (A := sC _ _) (x := ()) (E := Ermany s n) (eOk con0_ok rfl) Try.func89 rfl (by kernel_rfl) rfl (by simp [sC,Ermany,EC,E0]) ?_
  refine vc_eq (T :=
    (∃ (x:Nat),x ≤ n∧(eqOf (List UInt8) [] (Lib.repeatL s x)∧Z0 = (↑x:Int)∧True)∧True∧True)∧∀ (x:Nat),x ≤ n→ifB (decide ((↑x:Int) < (↑n:Int))) (side (LN (Lib.repeatL s x) + LN s ≤ (9223372036854775807:Nat)) ((SM (D.str s)∧SM (ZI (↑n:Int))∧True)∧∃ (y:Nat),y ≤ n∧n - y < n - x∧(Lib.repeatL s x ++ s = Lib.repeatL s y∧IntKind.wrap IntKind.i64 ((↑x:Int) + Z1) = (↑y:Int)∧True)∧True∧True)) (True∧∃ (y:Unit),True∧Lib.repeatL s x = Lib.repeatL s n∧True∧True)) (by kernel_rfl) ?_
  delta LN SM Z0 Z1 ZI
  simp only [ifB_iff,side_iff,decide_eq_true_eq,decide_eq_false_iff_not,true_and,and_true]
  refine ⟨⟨0,by omega,rfl,rfl⟩,fun i hi => ⟨fun h => ⟨?_,i + 1,by omega,by omega,repeatL_snoc s i,wrap_i64' (by omega) (by omega)⟩,fun h => ⟨(),?_⟩⟩⟩
  · rw [Lib.repeatL_length,hs]; omega
  · rw [show i = n by omega]
def conR2:Con := fun k ds S => match k with
  | 89 => match ds with
    | [.str s,.int .i64 n] => some (pC [.str s,.int .i64 n] (.str (Lib.repeatL s n.toNat)) (0 ≤ n∧n ≤ 1000∧s.length = 1))
    | _ => none
  | k => conR k ds S
theorem conR2_ok:ConOk Try.prog conR2 := by
  intro k ds S A h
  unfold conR2 at h
  split at h
  · split at h
    · rename_i s n
      injection h with h; subst h
      refine pC_ok fun ⟨h1,h2,h3⟩ => ⟨weakL_refl _,?_⟩
      obtain ⟨m,rfl⟩ := Int.eq_ofNat_of_zero_le h1
      exact rmany_ok s m (by omega) h3
    · cases h
  · exact conR_ok _ _ _ _ h
end Go.Proofs.Ytoglbmhkfkghbaa
namespace Go.Proofs.Ytoglbmhkfkghbaa
open Go Go.Ab
def offD (e:Option Eff) (y:Eff):D := .agg [.str y.1,.str y.2,.bool e.isSome]
def offQ (e:Option Eff) (y:Eff):Prop := ∀ e',e = some e'→y = e'
theorem off_leaf {e:Option Eff} {p q:List UInt8} {b:Bool} (h:(b = false∧e = none)∨(b = true∧e = some (p,q))):∃ y:Eff,offQ e y∧(p = y.1∧q = y.2∧b = e.isSome) := by
  rcases h with ⟨rfl,rfl⟩ | ⟨rfl,rfl⟩
  · exact ⟨(p,q),by simp [offQ],rfl,rfl,rfl⟩
  · exact ⟨(p,q),by simp [offQ],rfl,rfl,rfl⟩
def plainC (main:Bool) (x:I4):Option Eff := if x.b = 0∧x.c = 0 then plainS main x.a else none
noncomputable def Eplain:Senv := EC conR2 73 3 [4,5,15,16,18,20,22,25,27,29,31,33,35,37,39,67] (fun _ => ([],[]))
noncomputable section
def bc2q0 (p0:I4):Bool := bif I4.b p0 == Z0 then I4.c p0 == Z0 else false
def bc2q1 (p0:I4):Int := I4.a p0
def bc2q2 (p0:Nat):Prop := SM p0∧True
def bc2q3 (p0:Bool) (p1:I4) (p2:Eff):Prop := offQ (plainC p0 p1) p2
def bc2q4 (p0:List UInt8):Prop := eqOf (List UInt8) [] p0
def bc2q5 (p0:Bool) (p1:I4):Bool := Option.isSome (plainC p0 p1)
def bc2q6:Prop := True∧True
def bc2q7 (p0:Bool) (p1:I4):Prop := false = bc2q5 p0 p1∧True
def bc2q8 (p0:I4) (p1:Nat) (p2:Bool):Prop := ifB (bc2q0 p0) (SM p1∧bc2q2 p1∧∃ (y:Eff),bc2q3 p2 p0 y∧(bc2q4 y.1∧[(102:UInt8)] = y.2∧(!p2) = bc2q5 p2 p0∧True)∧bc2q6) (SM p1∧bc2q2 p1∧∃ (y:Eff),bc2q3 p2 p0 y∧(bc2q4 y.1∧[(102:UInt8)] = y.2∧bc2q7 p2 p0)∧bc2q6)
def bc2q9 (p0:I4) (p1:Nat) (p2:Bool):Prop := ifB (bc2q0 p0) (SM p1∧bc2q2 p1∧∃ (y:Eff),bc2q3 p2 p0 y∧(bc2q4 y.1∧[(97:UInt8)] = y.2∧(!p2) = bc2q5 p2 p0∧True)∧bc2q6) (SM p1∧bc2q2 p1∧∃ (y:Eff),bc2q3 p2 p0 y∧(bc2q4 y.1∧[(97:UInt8)] = y.2∧bc2q7 p2 p0)∧bc2q6)
def bc2q10 (p0:I4) (p1:Bool):Prop := bc2q0 p0 = bc2q5 p1 p0∧True
def bc2q11 (p0:List UInt8) (p1:I4) (p2:Bool):Prop := [(97:UInt8)] = p0∧bc2q10 p1 p2
def bc2q12 (p0:List UInt8) (p1:I4) (p2:Bool):Prop := [(102:UInt8)] = p0∧bc2q10 p1 p2
def bc2q13 (p0:List UInt8) (p1:I4) (p2:Bool):Prop := bc2q4 p0∧bc2q10 p1 p2
def bc2q14 (p0:Nat) (p1:Bool) (p2:I4):Prop := SM p0∧bc2q2 p0∧∃ (y:Eff),bc2q3 p1 p2 y∧([(97:UInt8)] = y.1∧bc2q13 y.2 p2 p1)∧bc2q6
def bc2q15 (p0:I4) (p1:Nat) (p2:Bool):Prop := ifB (bc2q1 p0 == (2:Int)) (SM p1∧bc2q2 p1∧∃ (y:Eff),bc2q3 p2 p0 y∧(bc2q4 y.1∧bc2q11 y.2 p0 p2)∧bc2q6) (ifB (bc2q1 p0 == (19:Int)) (SM p1∧bc2q2 p1∧∃ (y:Eff),bc2q3 p2 p0 y∧([(97:UInt8)] = y.1∧bc2q12 y.2 p0 p2)∧bc2q6) (ifB (bc2q1 p0 == (20:Int)) (SM p1∧bc2q2 p1∧∃ (y:Eff),bc2q3 p2 p0 y∧([(102:UInt8),(102:UInt8)] = y.1∧bc2q12 y.2 p0 p2)∧bc2q6) (ifB (bc2q1 p0 == (21:Int)) (SM p1∧bc2q2 p1∧∃ (y:Eff),bc2q3 p2 p0 y∧([(102:UInt8),(102:UInt8),(102:UInt8)] = y.1∧bc2q12 y.2 p0 p2)∧bc2q6) (ifB (bc2q1 p0 == (22:Int)) (SM p1∧bc2q2 p1∧∃ (y:Eff),bc2q3 p2 p0 y∧([(102:UInt8),(97:UInt8)] = y.1∧bc2q11 y.2 p0 p2)∧bc2q6) (ifB (bc2q1 p0 == (23:Int)) (SM p1∧bc2q2 p1∧∃ (y:Eff),bc2q3 p2 p0 y∧([(102:UInt8),(97:UInt8),(97:UInt8)] = y.1∧bc2q11 y.2 p0 p2)∧bc2q6) (ifB (bc2q1 p0 == (26:Int)) (bc2q14 p1 p2 p0) (ifB (bc2q1 p0 == (25:Int)) (ifB p2 (SM p1∧bc2q2 p1∧∃ (y:Eff),bc2q3 p2 p0 y∧(bc2q4 y.1∧bc2q13 y.2 p0 p2)∧bc2q6) (bc2q14 p1 p2 p0)) (SM p1∧bc2q2 p1∧∃ (y:Eff),bc2q3 p2 p0 y∧(bc2q4 y.1∧bc2q4 y.2∧bc2q7 p2 p0)∧bc2q6))))))))
end
theorem plain_ok (x:I4) (main:Bool):ACalls Try.prog 82 [.agg x.row,.bool main] ⟨[],[]⟩ (SpecR (pQ [.agg x.row,.bool main] (offD (plainC main x)) (offQ (plainC main x)) True) ()) := by
  refine con_of (A := pQ _ _ _ _) (x := ()) (E := Eplain) (eOk conR2_ok rfl) Try.func82 rfl (by kernel_rfl) rfl (by simp [pQ,Eplain,EC,E0]) ?_
  refine vc_eq (T :=
    ∀ (x_1:Nat),True→∀ (x_2:Nat),x_1 ≠ x_2∧True→(SM x_1∧ifB (I4.b x == Z0) (SM x_1∧(I4.c x == Z0) = bc2q0 x∧True) (false = bc2q0 x∧True))∧SM x_1∧ifB (bc2q1 x == (13:Int)) (bc2q8 x x_2 main) (ifB (bc2q1 x == (14:Int)) (bc2q8 x x_2 main) (ifB (bc2q1 x == (15:Int)) (bc2q8 x x_2 main) (ifB (bc2q1 x == (3:Int)) (ifB (bc2q1 x == (3:Int)) (bc2q9 x x_2 main) (bc2q15 x x_2 main)) (ifB (bc2q1 x == (4:Int)) (bc2q9 x x_2 main) (bc2q15 x x_2 main)))))) (by kernel_rfl) ?_
  delta SM Z0 bc2q0 bc2q1 bc2q10 bc2q11 bc2q12 bc2q13 bc2q14 bc2q15 bc2q2 bc2q3 bc2q4 bc2q5 bc2q6 bc2q7 bc2q8 bc2q9
  simp only [ifB_iff,true_and,and_true,beq_iff_eq,Bool.cond_false_right,Bool.and_eq_true,Bool.and_eq_false_iff,beq_eq_false_iff_ne,ne_eq]
  repeat' (first
    | refine off_leaf ?_
    | (refine And.intro ?_ ?_)
    | intro _)
  all_goals (first | (simp_all [plainC,plainS,gu]; done) | (cases main <;> simp_all [plainC,plainS,gu]; done) | grind [plainC,plainS,gu] | skip)
def derivedC (x:I4):Option Eff :=
  if x.a = 16 then gu (between x.b 1 5 && decide (x.c = 0)) ([102],[102])
  else if x.a = 18 then gu (between x.b 2 3 && decide (x.c = 0)) (Lib.repeatL [102] x.b.toNat,[102])
  else if x.b = 6∨x.b = 10∨x.b = 11 then gu (decide (x.c = 1)) ([102,102],[102])
  else gu (between x.b 7 9 && decide (x.c = 0)) ([102,97],[102])
noncomputable def Ederived:Senv := EC conR2 55 4 [7,8,22,37,38,46] (fun id => match id with | 6 => ([0,1,2,4,5,3,6,7,8,9,10,11,12,13],[3,6,13]) | _ => ([],[]))
noncomputable section
def bc2q16 (p0:I4):Int := I4.b p0
def bc2q17 (p0:I4) (p1:Eff):Prop := offQ (derivedC p0) p1
def bc2q18 (p0:I4):Bool := Option.isSome (derivedC p0)
def bc2q19 (p0:List UInt8) (p1:I4):Prop := [(102:UInt8)] = p0∧(I4.c p1 == Z0) = bc2q18 p1∧True
def bc2q20 (p0:I4):Prop := false = bc2q18 p0∧True
def bc2q21 (p0:List UInt8) (p1:I4):Prop := [(102:UInt8)] = p0∧bc2q20 p1
def bc2q22 (p0:Nat) (p1:I4):Prop := SM p0∧(SM p0∧True)∧∃ (y:Eff),bc2q17 p1 y∧([(102:UInt8)] = y.1∧bc2q21 y.2 p1)∧True∧True
def bc2q23 (p0:I4):Int := if (4:Int) < bc2q16 p0 then (4:Int) else bc2q16 p0
def bc2q24 (p0:I4):Int := if bc2q23 p0 < Z0 then Z0 else bc2q23 p0
def bc2q25 (p0:I4):Nat := Int.toNat (bc2q24 p0)
def bc2q26 (p0:I4):Bool := bif decide ((2:Int) ≤ bc2q16 p0) then decide (bc2q16 p0 ≤ (3:Int)) else false
def bc2q27 (p0:I4) (p1:List UInt8):Prop := Lib.repeatL [(102:UInt8)] (bc2q25 p0) = p1
def bc2q28 (p0 p1:Nat) (p2:I4):Prop := SM p0∧SM p1∧(SM p1∧True)∧∃ (y:Eff),bc2q17 p2 y∧([(102:UInt8),(102:UInt8)] = y.1∧[(102:UInt8)] = y.2∧(I4.c p2 == Z1) = bc2q18 p2∧True)∧True∧True
def bc2q29 (p0 p1:Nat) (p2:I4):Prop := SM p0∧SM p1∧(SM p1∧True)∧∃ (y:Eff),bc2q17 p2 y∧([(102:UInt8),(97:UInt8)] = y.1∧bc2q19 y.2 p2)∧True∧True
def bc2q30 (p0:Nat) (p1:I4):Prop := SM p0∧(SM p0∧True)∧∃ (y:Eff),bc2q17 p1 y∧(eqOf (List UInt8) [] y.1∧eqOf (List UInt8) [] y.2∧bc2q20 p1)∧True∧True
def bc2q31 (p0:I4) (p1 p2:Nat):Prop := ifB (bc2q16 p0 == (7:Int)) (ifB (bc2q16 p0 == (7:Int)) (bc2q29 p1 p2 p0) (bc2q30 p2 p0)) (ifB (bc2q16 p0 == (8:Int)) (ifB (bc2q16 p0 == (8:Int)) (bc2q29 p1 p2 p0) (bc2q30 p2 p0)) (ifB (bc2q16 p0 == (9:Int)) (bc2q29 p1 p2 p0) (bc2q30 p2 p0)))
end
theorem derived_ok (x:I4) (hb:inI64 x.b):ACalls Try.prog 80 [.agg x.row] ⟨[],[]⟩ (SpecR (pQ [.agg x.row] (offD (derivedC x)) (offQ (derivedC x)) True) ()) := by
  have hw:IntKind.i64.wrap x.b = x.b := wrap_i64' hb.1 hb.2
  refine con_of (A := pQ _ _ _ _) (x := ()) (E := Ederived) (eOk conR2_ok rfl) Try.func80 rfl (by kernel_rfl) rfl (by simp [pQ,Ederived,EC,E0]) ?_
  refine vc_eq (T :=
    ∀ (x_1:Nat),True→∀ (x_2:Nat),x_1 ≠ x_2∧True→SM x_1∧SM x_1∧ifB (I4.a x == (16:Int)) (ifB (decide (Z1 ≤ bc2q16 x)) (ifB (decide (bc2q16 x ≤ (5:Int))) (SM x_1∧SM x_2∧(SM x_2∧True)∧∃ (y:Eff),bc2q17 x y∧([(102:UInt8)] = y.1∧bc2q19 y.2 x)∧True∧True) (bc2q22 x_2 x)) (bc2q22 x_2 x)) (ifB (I4.a x == (18:Int)) (SM x_1∧SM x_1∧(Z0 ≤ bc2q24 x∧bc2q24 x ≤ (9223372036854775807:Int)∧N1 * bc2q25 x ≤ (140737488355328:Nat))∧∀ (y:Unit),True→True∧(SM x_1∧SM (ZI (bc2q16 x)))∧ifB (decide ((2:Int) ≤ bc2q16 x)) (decide (bc2q16 x ≤ (3:Int)) = bc2q26 x∧True) (false = bc2q26 x∧True)∧True∧ifB (bc2q26 x) (SM x_1∧SM x_2∧(SM x_2∧True)∧∃ (y:Eff),bc2q17 x y∧(bc2q27 x y.1∧bc2q19 y.2 x)∧True∧True) (SM x_2∧(SM x_2∧True)∧∃ (y:Eff),bc2q17 x y∧(bc2q27 x y.1∧bc2q21 y.2 x)∧True∧True)) (ifB (bc2q16 x == (6:Int)) (ifB (bc2q16 x == (6:Int)) (bc2q28 x_1 x_2 x) (bc2q31 x x_1 x_2)) (ifB (bc2q16 x == (10:Int)) (ifB (bc2q16 x == (10:Int)) (bc2q28 x_1 x_2 x) (bc2q31 x x_1 x_2)) (ifB (bc2q16 x == (11:Int)) (bc2q28 x_1 x_2 x) (bc2q31 x x_1 x_2)))))) (by kernel_rfl) ?_
  delta N1 SM Z0 Z1 ZI bc2q16 bc2q17 bc2q18 bc2q19 bc2q20 bc2q21 bc2q22 bc2q23 bc2q24 bc2q25 bc2q26 bc2q27 bc2q28 bc2q29 bc2q30 bc2q31
  simp only [ifB_iff,decide_eq_true_eq,decide_eq_false_iff_not,true_and,and_true,beq_iff_eq,Bool.cond_false_right,Bool.and_eq_true,Bool.and_eq_false_iff,beq_eq_false_iff_ne,ne_eq]
  repeat' (first
    | refine off_leaf ?_
    | (refine And.intro ?_ ?_)
    | intro _)
  all_goals (first | (simp_all [derivedC,between,gu]; done) | grind [derivedC,between,gu] | skip)
  all_goals trace_state
end Go.Proofs.Ytoglbmhkfkghbaa
namespace Go.Proofs.Ytoglbmhkfkghbaa
open Go Go.Ab
def conE:Con := fun k ds S => match k with
  | 82 => match ds with
    | [.agg [.int .i64 a,.int .i64 b,.int .i64 c,.int .i64 d],.bool m] => some (pQ [.agg (I4.row ⟨a,b,c,d⟩),.bool m] (offD (plainC m ⟨a,b,c,d⟩)) (offQ (plainC m ⟨a,b,c,d⟩)) True)
    | _ => none
  | 80 => match ds with
    | [.agg [.int .i64 a,.int .i64 b,.int .i64 c,.int .i64 d]] => some (pQ [.agg (I4.row ⟨a,b,c,d⟩)] (offD (derivedC ⟨a,b,c,d⟩)) (offQ (derivedC ⟨a,b,c,d⟩)) (inI64 b))
    | _ => none
  | k => conR2 k ds S
theorem conE_ok:ConOk Try.prog conE := by
  intro k ds S A h
  unfold conE at h
  split at h
  · split at h
    · injection h with h; subst h
      exact pQ_ok fun _ => ⟨weakL_refl _,plain_ok ⟨_,_,_,_⟩ _⟩
    · cases h
  · split at h
    · injection h with h; subst h
      exact pQ_ok fun hb => ⟨weakL_refl _,(derived_ok ⟨_,_,_,_⟩ hb).mono fun _ _ h => h⟩
    · cases h
  · exact conR2_ok _ _ _ _ h
theorem off_pass {e e':Option Eff} {y:Eff} (he:e = e') (hy:offQ e' y):(e'.isSome = false∧e = none)∨(e'.isSome = true∧e = some (y.1,y.2)) := by
  subst he
  cases e with
  | none => exact .inl ⟨rfl,rfl⟩
  | some e => exact .inr ⟨rfl,by rw [hy e rfl]⟩
theorem eff_derived (c:CodD) (f:Nat) (x:I4) (h:x.a = 16∨x.a = 17∨x.a = 18):effC c f x = derivedC x := by
  unfold effC effS derivedC
  rcases h with h | h | h <;> simp [h]
theorem eff_plain (c:CodD) (f:Nat) (x:I4) (h:∀ k ∈ ([1,5,12,6,7,8,9,10,11,16,17,18,24,27]:List Int),x.a ≠ k):effC c f x = plainC (decide (f = 0)) x := by
  simp only [List.mem_cons,List.not_mem_nil,or_false,forall_eq_or_imp,forall_eq,ne_eq] at h
  obtain ⟨a1,a2,a3,a4,a5,a6,a7,a8,a9,b1,b2,b3,b4,b5⟩ := h
  unfold effC effS plainC
  simp only [a1,a2,a3,a4,a5,a6,a7,a8,a9,b1,b2,b3,b4,b5,if_false]
noncomputable def Eof:Senv := EC conE 151 4 [5,6,7,8,10,11,22,33,40,45,55,68,78,84,90,96,106,120,128] (fun id => match id with | 16 => ([0,1,2,3,4,5,6,7,8,9,10,11],[9,11]) | 18 => ([0,1,2,4,5,3,6,7,8],[3,6,8]) | 28 => ([0,1,2,3,4,5,6,7,8,9,10,11,12],[10,12]) | _ => ([],[]))
theorem getD_ok {α:Type} [Inhabited α] {P:α→Prop} {l:List α} (h:∀ x ∈ l,P x) {i:Nat} (hi:i < l.length):P (l.getD i default) := by
  rw [List.getD_eq_getElem?_getD,List.getElem?_eq_getElem hi]; exact h _ (List.getElem_mem hi)
noncomputable section
def bc3q0 (p0:I4):Int := I4.a p0
def bc3q1 (p0:I4):Int := I4.b p0
def bc3q2 (p0:I4):Bool := decide (Z0 ≤ bc3q1 p0)
def bc3q3 (p0:Nat):Prop := SM p0∧True
def bc3q4 (p0:CodD) (p1:Nat) (p2:I4) (p3:Eff):Prop := offQ (effC p0 p1 p2) p3
def bc3q5 (p0:List UInt8):Prop := eqOf (List UInt8) [] p0
def bc3q6 (p0:CodD) (p1:Nat) (p2:I4):Bool := Option.isSome (effC p0 p1 p2)
def bc3q7 (p0:I4) (p1:CodD) (p2:Nat):Prop := decide (Z0 ≤ I4.c p0) = bc3q6 p1 p2 p0∧True
def bc3q8:Prop := True∧True
def bc3q9 (p0:CodD) (p1:Nat) (p2:I4):Prop := false = bc3q6 p0 p1 p2∧True
def bc3q10 (p0:List UInt8) (p1:CodD) (p2:Nat) (p3:I4):Prop := [(97:UInt8)] = p0∧bc3q9 p1 p2 p3
def bc3q11 (p0:Nat) (p1:CodD) (p2:Nat) (p3:I4):Prop := SM p0∧bc3q3 p0∧∃ (y:Eff),bc3q4 p1 p2 p3 y∧(bc3q5 y.1∧bc3q10 y.2 p1 p2 p3)∧bc3q8
def bc3q12 (p0:Nat) (p1:CodD) (p2:Nat) (p3:I4):Prop := SM p0∧bc3q3 p0∧∃ (y:Eff),bc3q4 p1 p2 p3 y∧(bc3q5 y.1∧[(102:UInt8)] = y.2∧bc3q9 p1 p2 p3)∧bc3q8
def bc3q13 (p0:I4):I4 := I4.mk (bc3q0 p0) (bc3q1 p0) (I4.c p0) (I4.d p0)
def bc3q14 (p0:I4):Option Eff := derivedC (bc3q13 p0)
def bc3q15 (p0:Nat) (p1:I4) (p2:Nat) (p3:CodD) (p4:Nat):Prop := SM p0∧inI64 (bc3q1 p1)∧∀ (y:Eff),offQ (bc3q14 p1) y→SM p2∧bc3q3 p2∧∃ (y_1:Eff),bc3q4 p3 p4 p1 y_1∧(y.1 = y_1.1∧y.2 = y_1.2∧Option.isSome (bc3q14 p1) = bc3q6 p3 p4 p1∧True)∧bc3q8
def bc3q16 (p0:I4) (p1:CodD):Bool := decide (bc3q1 p0 ≤ IntKind.wrap IntKind.i64 ((LI (CodD.consts p1)) - Z1))
def bc3q17 (p0:I4) (p1:CodD):Bool := bif bc3q2 p0 then bc3q16 p0 p1 else false
def bc3q18 (p0:I4) (p1:CodD) (p2:Nat):Prop := (I4.c p0 == Z0) = bc3q6 p1 p2 p0∧True
def bc3q19 (p0:List UInt8) (p1:I4) (p2:CodD) (p3:Nat):Prop := [(97:UInt8)] = p0∧bc3q18 p1 p2 p3
def bc3q20 (p0:CodD):Int := (LI (CodD.funs p0))
def bc3q21 (p0:CodD) (p1:Nat):FnD := GF p0 (Int.toNat (↑p1:Int))
def bc3q22 (p0:I4) (p1:CodD) (p2:Nat):Bool := decide (bc3q1 p0 ≤ IntKind.wrap IntKind.i64 (FnD.slots (bc3q21 p1 p2) - Z1))
def bc3q23 (p0:I4) (p1:CodD) (p2:Nat):Bool := bif bc3q2 p0 then bc3q22 p0 p1 p2 else false
def bc3q24 (p0:List UInt8) (p1:I4) (p2:CodD) (p3:Nat):Prop := bc3q5 p0∧bc3q18 p1 p2 p3
def bc3q25 (p0:List UInt8) (p1:CodD) (p2:Nat) (p3:I4):Prop := bc3q5 p0∧bc3q9 p1 p2 p3
def bc3q26 (p0:I4):Int := if (1000:Int) < bc3q1 p0 then (1000:Int) else bc3q1 p0
def bc3q27 (p0:I4):Int := if bc3q26 p0 < Z0 then Z0 else bc3q26 p0
def bc3q28 (p0:I4):Nat := Int.toNat (bc3q27 p0)
def bc3q29 (p0:I4):Bool := bif decide ((2:Int) ≤ bc3q1 p0) then decide (bc3q1 p0 ≤ (1000:Int)) else false
def bc3q30 (p0:I4) (p1:List UInt8):Prop := Lib.repeatL [(97:UInt8)] (bc3q28 p0) = p1
def bc3q31 (p0:I4):Bool := decide (Z1 ≤ bc3q1 p0)
def bc3q32 (p0:I4):Bool := bif bc3q31 p0 then decide (bc3q1 p0 ≤ (55:Int)) else false
def bc3q33 (p0:I4):Prop := ifB (bc3q31 p0) (decide (bc3q1 p0 ≤ (55:Int)) = bc3q32 p0∧True) (false = bc3q32 p0∧True)
def bc3q34 (p0 p1 p2:Nat) (p3:CodD) (p4:Nat) (p5:I4):Prop := SM p0∧SM p1∧SM p1∧SM p2∧bc3q3 p2∧∃ (y:Eff),bc3q4 p3 p4 p5 y∧(bc3q5 y.1∧[(102:UInt8)] = y.2∧bc3q18 p5 p3 p4)∧bc3q8
def bc3q35 (p0 p1:Nat) (p2:CodD) (p3:Nat) (p4:I4):Prop := SM p0∧SM p0∧bc3q12 p1 p2 p3 p4
def bc3q36 (p0:I4) (p1:CodD):Bool := decide (bc3q1 p0 ≤ IntKind.wrap IntKind.i64 (bc3q20 p1 - Z1))
def bc3q37 (p0:I4) (p1:CodD):Bool := bif bc3q31 p0 then bc3q36 p0 p1 else false
def bc3q38 (p0:I4) (p1:CodD) (p2:Nat):Bool := decide (bc3q1 p0 ≤ IntKind.wrap IntKind.i64 ((LI (FnD.code (bc3q21 p1 p2))) - Z1))
def bc3q39 (p0:I4) (p1:CodD) (p2:Nat):Bool := bif bc3q2 p0 then bc3q38 p0 p1 p2 else false
def bc3q40 (p0:I4) (p1:CodD):Bool := decide (bc3q1 p0 ≤ IntKind.wrap IntKind.i64 ((LI (CodD.kers p1)) - Z1))
def bc3q41 (p0:I4) (p1:CodD):Bool := bif bc3q2 p0 then bc3q40 p0 p1 else false
def bc3q42 (p0:CodD) (p1:I4):Int := KeD.inputs (GK p0 (Int.toNat (bc3q1 p1)))
def bc3q43 (p0:CodD) (p1:I4):Int := if (16:Int) < bc3q42 p0 p1 then (16:Int) else bc3q42 p0 p1
def bc3q44 (p0:CodD) (p1:I4):Int := if bc3q43 p0 p1 < Z0 then Z0 else bc3q43 p0 p1
def bc3q45 (p0:CodD) (p1:I4):Nat := Int.toNat (bc3q44 p0 p1)
def bc3q46 (p0:CodD) (p1:I4):Bool := decide (Z1 ≤ bc3q42 p0 p1)
def bc3q47 (p0:CodD) (p1:I4):Bool := decide (bc3q42 p0 p1 ≤ (16:Int))
def bc3q48 (p0:CodD) (p1:I4):Bool := bif bc3q46 p0 p1 then bc3q47 p0 p1 else false
def bc3q49 (p0:CodD) (p1:I4) (p2:List UInt8):Prop := Lib.repeatL [(97:UInt8)] (bc3q45 p0 p1) = p2
def bc3q50 (p0:Nat) (p1:I4):Option Eff := plainC ((↑p0:Int) == Z0) (bc3q13 p1)
def bc3q51 (p0 p1 p2:Nat) (p3:I4) (p4:CodD) (p5:Nat):Prop := ∀ (x:Nat),p0 ≠ x∧p1 ≠ x∧p2 ≠ x∧True→SM p1∧ifB (bc3q0 p3 == Z1) (SM p1∧SM p2∧ifB (bc3q2 p3) (bc3q16 p3 p4 = bc3q17 p3 p4∧True) (false = bc3q17 p3 p4∧True)∧True∧SM x∧SM x∧ifB (bc3q17 p3 p4) (SM p1∧SM x∧SM x∧SM p0∧bc3q3 p0∧∃ (y:Eff),bc3q4 p4 p5 p3 y∧(bc3q5 y.1∧bc3q19 y.2 p3 p4 p5)∧bc3q8) (SM x∧SM x∧bc3q11 p0 p4 p5 p3)) (ifB (bc3q0 p3 == (6:Int)) (SM p1∧SM p2∧side (Z0 ≤ (↑p5:Int)∧(↑p5:Int) < bc3q20 p4) (ifB (bc3q2 p3) (bc3q22 p3 p4 p5 = bc3q23 p3 p4 p5∧True) (false = bc3q23 p3 p4 p5∧True)∧True∧SM x∧SM x∧ifB (bc3q23 p3 p4 p5) (SM p1∧SM x∧SM x∧SM p0∧bc3q3 p0∧∃ (y:Eff),bc3q4 p4 p5 p3 y∧([(42:UInt8)] = y.1∧bc3q24 y.2 p3 p4 p5)∧bc3q8) (SM x∧SM x∧SM p0∧bc3q3 p0∧∃ (y:Eff),bc3q4 p4 p5 p3 y∧([(42:UInt8)] = y.1∧bc3q25 y.2 p4 p5 p3)∧bc3q8))) (ifB (bc3q0 p3 == (7:Int)) (SM p1∧SM p1∧(Z0 ≤ bc3q27 p3∧bc3q27 p3 ≤ (9223372036854775807:Int)∧N1 * bc3q28 p3 ≤ (140737488355328:Nat))∧∀ (_y:Unit),True→True∧(SM p1∧SM (ZI (bc3q1 p3)))∧ifB (decide ((2:Int) ≤ bc3q1 p3)) (decide (bc3q1 p3 ≤ (1000:Int)) = bc3q29 p3∧True) (false = bc3q29 p3∧True)∧True∧SM x∧SM x∧ifB (bc3q29 p3) (SM p1∧SM x∧SM x∧SM p0∧bc3q3 p0∧∃ (y:Eff),bc3q4 p4 p5 p3 y∧(bc3q30 p3 y.1∧bc3q19 y.2 p3 p4 p5)∧bc3q8) (SM x∧SM x∧SM p0∧bc3q3 p0∧∃ (y:Eff),bc3q4 p4 p5 p3 y∧(bc3q30 p3 y.1∧bc3q10 y.2 p4 p5 p3)∧bc3q8)) (ifB (bc3q0 p3 == (8:Int)) (SM p1∧bc3q33 p3∧True∧True∧SM x∧SM x∧ifB (bc3q32 p3) (SM p1∧SM x∧SM x∧SM p0∧bc3q3 p0∧∃ (y:Eff),bc3q4 p4 p5 p3 y∧([(97:UInt8)] = y.1∧bc3q19 y.2 p3 p4 p5)∧bc3q8) (SM x∧SM x∧SM p0∧bc3q3 p0∧∃ (y:Eff),bc3q4 p4 p5 p3 y∧([(97:UInt8)] = y.1∧bc3q10 y.2 p4 p5 p3)∧bc3q8)) (ifB (bc3q0 p3 == (9:Int)) (SM p1∧bc3q33 p3∧True∧True∧SM x∧SM x∧ifB (bc3q32 p3) (SM p1∧SM x∧SM x∧SM p0∧bc3q3 p0∧∃ (y:Eff),bc3q4 p4 p5 p3 y∧([(97:UInt8),(97:UInt8)] = y.1∧bc3q19 y.2 p3 p4 p5)∧bc3q8) (SM x∧SM x∧SM p0∧bc3q3 p0∧∃ (y:Eff),bc3q4 p4 p5 p3 y∧([(97:UInt8),(97:UInt8)] = y.1∧bc3q10 y.2 p4 p5 p3)∧bc3q8)) (ifB (bc3q0 p3 == (10:Int)) (SM p1∧bc3q33 p3∧True∧True∧SM x∧SM x∧ifB (bc3q32 p3) (bc3q34 p1 x p0 p4 p5 p3) (bc3q35 x p0 p4 p5 p3)) (ifB (bc3q0 p3 == (11:Int)) (SM p1∧SM p2∧ifB (bc3q31 p3) (bc3q36 p3 p4 = bc3q37 p3 p4∧True) (false = bc3q37 p3 p4∧True)∧True∧SM x∧SM x∧ifB (bc3q37 p3 p4) (bc3q34 p1 x p0 p4 p5 p3) (bc3q35 x p0 p4 p5 p3)) (ifB (bc3q0 p3 == (24:Int)) (SM p1∧SM p2∧side (Z0 ≤ (↑p5:Int)∧(↑p5:Int) < bc3q20 p4) (ifB (bc3q2 p3) (bc3q38 p3 p4 p5 = bc3q39 p3 p4 p5∧True) (false = bc3q39 p3 p4 p5∧True)∧True∧SM x∧SM x∧ifB (bc3q39 p3 p4 p5) (SM p1∧SM x∧SM x∧SM p0∧bc3q3 p0∧∃ (y:Eff),bc3q4 p4 p5 p3 y∧([(97:UInt8)] = y.1∧bc3q24 y.2 p3 p4 p5)∧bc3q8) (SM x∧SM x∧SM p0∧bc3q3 p0∧∃ (y:Eff),bc3q4 p4 p5 p3 y∧([(97:UInt8)] = y.1∧bc3q25 y.2 p4 p5 p3)∧bc3q8))) (ifB (bc3q0 p3 == (27:Int)) (SM p1∧SM p2∧ifB (bc3q2 p3) (bc3q40 p3 p4 = bc3q41 p3 p4∧True) (false = bc3q41 p3 p4∧True)∧True∧ifB (bc3q41 p3 p4) (SM p2∧SM p1∧side (Z0 ≤ bc3q1 p3∧bc3q1 p3 < (LI (CodD.kers p4))) ((Z0 ≤ bc3q44 p4 p3∧bc3q44 p4 p3 ≤ (9223372036854775807:Int)∧N1 * bc3q45 p4 p3 ≤ (140737488355328:Nat))∧∀ (_y:Unit),True→True∧ifB (bc3q46 p4 p3) (bc3q47 p4 p3 = bc3q48 p4 p3∧True) (false = bc3q48 p4 p3∧True)∧True∧SM x∧SM x∧ifB (bc3q48 p4 p3) (SM p1∧SM x∧SM x∧SM p0∧bc3q3 p0∧∃ (y:Eff),bc3q4 p4 p5 p3 y∧(bc3q49 p4 p3 y.1∧bc3q19 y.2 p3 p4 p5)∧bc3q8) (SM x∧SM x∧SM p0∧bc3q3 p0∧∃ (y:Eff),bc3q4 p4 p5 p3 y∧(bc3q49 p4 p3 y.1∧bc3q10 y.2 p4 p5 p3)∧bc3q8))) (SM x∧SM x∧SM x∧SM p0∧bc3q3 p0∧∃ (y:Eff),bc3q4 p4 p5 p3 y∧(bc3q5 y.1∧bc3q25 y.2 p4 p5 p3)∧bc3q8)) (SM p1∧True∧∀ (y:Eff),offQ (bc3q50 p5 p3) y→SM p0∧bc3q3 p0∧∃ (y_1:Eff),bc3q4 p4 p5 p3 y_1∧(y.1 = y_1.1∧y.2 = y_1.2∧Option.isSome (bc3q50 p5 p3) = bc3q6 p4 p5 p3∧True)∧bc3q8)))))))))
end
set_option maxHeartbeats 4000000 in
theorem of_ok (c:CodD) (f:Nat) (x:I4) (hf:f < c.funs.length) (hc:c.ok) (hx:x.ok):ACalls Try.prog 63 [.agg c.row,.int .i64 f,.agg x.row] ⟨[],[]⟩ (SpecR (pQ [.agg c.row,.int .i64 f,.agg x.row] (offD (effC c f x)) (offQ (effC c f x)) True) ()) := by
  refine con_of (A := pQ _ _ _ _) (x := ()) (E := Eof) (eOk conE_ok rfl) Try.func63 rfl (by kernel_rfl) rfl (by simp [pQ,Eof,EC,E0]) ?_
  have hm:∀ n:Nat,n ≤ maxLen→IntKind.i64.wrap ((n:Int) - 1) = (n:Int) - 1 := fun n hn => by simp only [maxLen] at hn; exact wrap_i64' (by omega) (by omega)
  obtain ⟨_,h2,h3,_,l1,l2,l3,_⟩ := hc
  have hfo := getD_ok h2 hf
  have w1 := hm _ l1
  have w2 := hm _ l2
  have w3 := hm _ l3
  have w4 := hm _ hfo.2.2
  have hk:∀ i:Nat,i < c.kers.length→inI64 (c.kers.getD i default).inputs := fun i hi => (getD_ok h3 hi).1
  have de:(default:FnD) = ⟨0,[]⟩ := rfl
  have dk:(default:KeD) = ⟨0,[],0,0⟩ := rfl
  have e0:((f:Int) == 0) = decide (f = 0) := by
    by_cases e:f = 0
    · subst e; rfl
    · simp [e]
  have wb:IntKind.i64.wrap x.b = x.b := wrap_i64' hx.2.1.1 hx.2.1.2
  refine vc_eq (T :=
    ∀ (x_1:Nat),True→∀ (x_2:Nat),x_1 ≠ x_2∧True→∀ (x_3:Nat),x_2 ≠ x_3∧x_1 ≠ x_3∧True→SM x_2∧ifB (bc3q0 x == (5:Int)) (SM x_2∧ifB (bc3q2 x) (SM x_2∧SM x_3∧bc3q3 x_3∧∃ (y:Eff),bc3q4 c f x y∧(bc3q5 y.1∧[(97:UInt8)] = y.2∧bc3q7 x c f)∧bc3q8) (bc3q11 x_3 c f x)) (ifB (bc3q0 x == (12:Int)) (SM x_2∧ifB (bc3q2 x) (SM x_2∧SM x_3∧bc3q3 x_3∧∃ (y:Eff),bc3q4 c f x y∧(bc3q5 y.1∧[(102:UInt8)] = y.2∧bc3q7 x c f)∧bc3q8) (bc3q12 x_3 c f x)) (ifB (bc3q0 x == (16:Int)) (ifB (bc3q0 x == (16:Int)) (bc3q15 x_2 x x_3 c f) (bc3q51 x_3 x_2 x_1 x c f)) (ifB (bc3q0 x == (17:Int)) (ifB (bc3q0 x == (17:Int)) (bc3q15 x_2 x x_3 c f) (bc3q51 x_3 x_2 x_1 x c f)) (ifB (bc3q0 x == (18:Int)) (bc3q15 x_2 x x_3 c f) (bc3q51 x_3 x_2 x_1 x c f)))))) (by kernel_rfl) ?_
  delta DF DK GF GK LI LN N1 SM Z0 Z1 ZI bc3q0 bc3q1 bc3q10 bc3q11 bc3q12 bc3q13 bc3q14 bc3q15 bc3q16 bc3q17 bc3q18 bc3q19 bc3q2 bc3q20 bc3q21 bc3q22 bc3q23 bc3q24 bc3q25 bc3q26 bc3q27 bc3q28 bc3q29 bc3q3 bc3q30 bc3q31 bc3q32 bc3q33 bc3q34 bc3q35 bc3q36 bc3q37 bc3q38 bc3q39 bc3q4 bc3q40 bc3q41 bc3q42 bc3q43 bc3q44 bc3q45 bc3q46 bc3q47 bc3q48 bc3q49 bc3q5 bc3q50 bc3q51 bc3q6 bc3q7 bc3q8 bc3q9
  simp only [← de,← dk,e0,w1,w2,w3,w4,Int.toNat_natCast,ifB_iff,side_iff,decide_eq_true_eq,decide_eq_false_iff_not,true_and,and_true,beq_iff_eq,Bool.cond_false_right,Bool.and_eq_true,Bool.and_eq_false_iff,beq_eq_false_iff_ne,ne_eq]
  repeat' (first
    | refine off_leaf ?_
    | (refine And.intro ?_ ?_)
    | intro _)
  all_goals (try first | exact hx.2.1.1 | exact hx.2.1.2 | exact off_pass (eff_derived c f x (by omega)) (by assumption) | exact off_pass (eff_plain c f x (by simp_all)) (by assumption))
  all_goals (first | (simp_all [effC,effS,between,primB,gu]; done) | grind [effC,effS,between,primB,gu] | skip)
end Go.Proofs.Ytoglbmhkfkghbaa
namespace Go.Proofs.Ytoglbmhkfkghbaa
open Go Go.Ab
noncomputable def Erplain:Senv := EC conR2 71 3 [4,5,15,16,20,29,39,43,47,51,55,59,63,65] (fun _ => ([],[]))
noncomputable section
def bc4q0 (p0:I4):Bool := bif I4.b p0 == Z0 then I4.c p0 == Z0 else false
def bc4q1 (p0:I4):Int := I4.a p0
def bc4q2 (p0:Nat):Prop := SM p0∧True
def bc4q3 (p0:Bool) (p1:I4) (p2:Eff):Prop := offQ (plainC p0 p1) p2
def bc4q4 (p0:List UInt8):Prop := eqOf (List UInt8) [] p0
def bc4q5 (p0:Bool) (p1:I4):Bool := Option.isSome (plainC p0 p1)
def bc4q6 (p0:I4) (p1:Bool):Prop := bc4q0 p0 = bc4q5 p1 p0∧True
def bc4q7 (p0:List UInt8) (p1:I4) (p2:Bool):Prop := [(97:UInt8)] = p0∧bc4q6 p1 p2
def bc4q8:Prop := True∧True
def bc4q9 (p0:Bool) (p1:I4):Prop := false = bc4q5 p0 p1∧True
def bc4q10 (p0:I4) (p1:Nat) (p2:Bool):Prop := ifB (bc4q0 p0) (SM p1∧bc4q2 p1∧∃ (y:Eff),bc4q3 p2 p0 y∧(bc4q4 y.1∧[(97:UInt8)] = y.2∧(!p2) = bc4q5 p2 p0∧True)∧bc4q8) (SM p1∧bc4q2 p1∧∃ (y:Eff),bc4q3 p2 p0 y∧(bc4q4 y.1∧[(97:UInt8)] = y.2∧bc4q9 p2 p0)∧bc4q8)
def bc4q11 (p0:I4) (p1:Nat) (p2:Bool):Prop := ifB (bc4q0 p0) (SM p1∧bc4q2 p1∧∃ (y:Eff),bc4q3 p2 p0 y∧(bc4q4 y.1∧[(102:UInt8)] = y.2∧(!p2) = bc4q5 p2 p0∧True)∧bc4q8) (SM p1∧bc4q2 p1∧∃ (y:Eff),bc4q3 p2 p0 y∧(bc4q4 y.1∧[(102:UInt8)] = y.2∧bc4q9 p2 p0)∧bc4q8)
def bc4q12 (p0:List UInt8) (p1:I4) (p2:Bool):Prop := [(102:UInt8)] = p0∧bc4q6 p1 p2
def bc4q13 (p0:List UInt8) (p1:I4) (p2:Bool):Prop := bc4q4 p0∧bc4q6 p1 p2
def bc4q14 (p0:Nat) (p1:Bool) (p2:I4):Prop := SM p0∧bc4q2 p0∧∃ (y:Eff),bc4q3 p1 p2 y∧([(97:UInt8)] = y.1∧bc4q13 y.2 p2 p1)∧bc4q8
def bc4q15 (p0:I4) (p1:Nat) (p2:Bool):Prop := ifB (bc4q1 p0 == (19:Int)) (SM p1∧bc4q2 p1∧∃ (y:Eff),bc4q3 p2 p0 y∧([(97:UInt8)] = y.1∧bc4q12 y.2 p0 p2)∧bc4q8) (ifB (bc4q1 p0 == (20:Int)) (SM p1∧bc4q2 p1∧∃ (y:Eff),bc4q3 p2 p0 y∧([(102:UInt8),(102:UInt8)] = y.1∧bc4q12 y.2 p0 p2)∧bc4q8) (ifB (bc4q1 p0 == (21:Int)) (SM p1∧bc4q2 p1∧∃ (y:Eff),bc4q3 p2 p0 y∧([(102:UInt8),(102:UInt8),(102:UInt8)] = y.1∧bc4q12 y.2 p0 p2)∧bc4q8) (ifB (bc4q1 p0 == (22:Int)) (SM p1∧bc4q2 p1∧∃ (y:Eff),bc4q3 p2 p0 y∧([(102:UInt8),(97:UInt8)] = y.1∧bc4q7 y.2 p0 p2)∧bc4q8) (ifB (bc4q1 p0 == (23:Int)) (SM p1∧bc4q2 p1∧∃ (y:Eff),bc4q3 p2 p0 y∧([(102:UInt8),(97:UInt8),(97:UInt8)] = y.1∧bc4q7 y.2 p0 p2)∧bc4q8) (ifB (bc4q1 p0 == (26:Int)) (bc4q14 p1 p2 p0) (ifB (bc4q1 p0 == (25:Int)) (ifB p2 (SM p1∧bc4q2 p1∧∃ (y:Eff),bc4q3 p2 p0 y∧(bc4q4 y.1∧bc4q13 y.2 p0 p2)∧bc4q8) (bc4q14 p1 p2 p0)) (SM p1∧bc4q2 p1∧∃ (y:Eff),bc4q3 p2 p0 y∧(bc4q4 y.1∧bc4q4 y.2∧bc4q9 p2 p0)∧bc4q8)))))))
def bc4q16 (p0:I4) (p1:Nat) (p2:Bool):Prop := ifB (bc4q1 p0 == (13:Int)) (ifB (bc4q1 p0 == (13:Int)) (bc4q11 p0 p1 p2) (bc4q15 p0 p1 p2)) (ifB (bc4q1 p0 == (14:Int)) (ifB (bc4q1 p0 == (14:Int)) (bc4q11 p0 p1 p2) (bc4q15 p0 p1 p2)) (ifB (bc4q1 p0 == (15:Int)) (bc4q11 p0 p1 p2) (bc4q15 p0 p1 p2)))
end
theorem rplain_ok (x:I4) (main:Bool):ACalls Try.prog 90 [.agg x.row,.bool main] ⟨[],[]⟩ (SpecR (pQ [.agg x.row,.bool main] (offD (plainC main x)) (offQ (plainC main x)) True) ()) := by
  refine con_of (A := pQ _ _ _ _) (x := ()) (E := Erplain) (eOk conR2_ok rfl) Try.func90 rfl (by kernel_rfl) rfl (by simp [pQ,Erplain,EC,E0]) ?_
  refine vc_eq (T :=
    ∀ (x_1:Nat),True→∀ (x_2:Nat),x_1 ≠ x_2∧True→(SM x_1∧ifB (I4.b x == Z0) (SM x_1∧(I4.c x == Z0) = bc4q0 x∧True) (false = bc4q0 x∧True))∧SM x_1∧ifB (bc4q1 x == (2:Int)) (SM x_2∧bc4q2 x_2∧∃ (y:Eff),bc4q3 main x y∧(bc4q4 y.1∧bc4q7 y.2 x main)∧bc4q8) (ifB (bc4q1 x == (3:Int)) (ifB (bc4q1 x == (3:Int)) (bc4q10 x x_2 main) (bc4q16 x x_2 main)) (ifB (bc4q1 x == (4:Int)) (bc4q10 x x_2 main) (bc4q16 x x_2 main)))) (by kernel_rfl) ?_
  delta SM Z0 bc4q0 bc4q1 bc4q10 bc4q11 bc4q12 bc4q13 bc4q14 bc4q15 bc4q16 bc4q2 bc4q3 bc4q4 bc4q5 bc4q6 bc4q7 bc4q8 bc4q9
  simp only [ifB_iff,true_and,and_true,beq_iff_eq,Bool.cond_false_right,Bool.and_eq_true,Bool.and_eq_false_iff,beq_eq_false_iff_ne,ne_eq]
  repeat' (first
    | refine off_leaf ?_
    | (refine And.intro ?_ ?_)
    | intro _)
  all_goals (first | (simp_all [plainC,plainS,gu]; done) | (cases main <;> simp_all [plainC,plainS,gu]; done) | grind [plainC,plainS,gu] | skip)
def conRE:Con := fun k ds S => match k with
  | 90 => match ds with
    | [.agg [.int .i64 a,.int .i64 b,.int .i64 c,.int .i64 d],.bool m] => some (pQ [.agg (I4.row ⟨a,b,c,d⟩),.bool m] (offD (plainC m ⟨a,b,c,d⟩)) (offQ (plainC m ⟨a,b,c,d⟩)) True)
    | _ => none
  | k => conR2 k ds S
theorem conRE_ok:ConOk Try.prog conRE := by
  intro k ds S A h
  unfold conRE at h
  split at h
  · split at h
    · injection h with h; subst h
      exact pQ_ok fun _ => ⟨weakL_refl _,rplain_ok ⟨_,_,_,_⟩ _⟩
    · cases h
  · exact conR2_ok _ _ _ _ h
noncomputable def Erof:Senv := EC conRE 242 4 [5,6,8,9,24,35,46,64,74,80,91,102,113,128,139,153,167,177,183,202,227] (fun id => match id with | 9 => ([0,1,2,3,4,5,6,7,8,9,10,11,12,13,14,15,16],[13,16]) | 33 => ([0,1,2,3,4,5,6,7,8,9,10,11,12,13,14,15,16,17],[14,17]) | _ => ([],[]))
noncomputable section
def bc4q17 (p0:I4):Int := I4.a p0
def bc4q18 (p0:I4):Int := I4.c p0
def bc4q19 (p0:I4):Bool := bc4q18 p0 == Z0
def bc4q20 (p0:I4):Int := I4.b p0
def bc4q21 (p0:I4):Bool := decide (Z0 ≤ bc4q20 p0)
def bc4q22 (p0:I4) (p1:CodD):Bool := decide (bc4q20 p0 ≤ IntKind.wrap IntKind.i64 ((LI (CodD.consts p1)) - Z1))
def bc4q23 (p0:I4) (p1:CodD):Bool := bif bc4q21 p0 then bc4q22 p0 p1 else false
def bc4q24 (p0:Nat):Prop := SM p0∧True
def bc4q25 (p0:CodD) (p1:Nat) (p2:I4) (p3:Eff):Prop := offQ (effC p0 p1 p2) p3
def bc4q26 (p0:List UInt8):Prop := eqOf (List UInt8) [] p0
def bc4q27 (p0:List UInt8):Prop := [(97:UInt8)] = p0
def bc4q28 (p0:CodD) (p1:Nat) (p2:I4):Bool := Option.isSome (effC p0 p1 p2)
def bc4q29:Prop := True∧True
def bc4q30 (p0:CodD) (p1:Nat) (p2:I4):Prop := false = bc4q28 p0 p1 p2∧True
def bc4q31 (p0:List UInt8) (p1:CodD) (p2:Nat) (p3:I4):Prop := bc4q27 p0∧bc4q30 p1 p2 p3
def bc4q32 (p0:Nat) (p1:CodD) (p2:Nat) (p3:I4):Prop := SM p0∧bc4q24 p0∧∃ (y:Eff),bc4q25 p1 p2 p3 y∧(bc4q26 y.1∧bc4q31 y.2 p1 p2 p3)∧bc4q29
def bc4q33 (p0:I4) (p1:CodD) (p2:Nat):Prop := decide (Z0 ≤ bc4q18 p0) = bc4q28 p1 p2 p0∧True
def bc4q34 (p0:List UInt8):Prop := [(102:UInt8)] = p0
def bc4q35 (p0:List UInt8) (p1:CodD) (p2:Nat) (p3:I4):Prop := bc4q34 p0∧bc4q30 p1 p2 p3
def bc4q36 (p0:Nat) (p1:CodD) (p2:Nat) (p3:I4):Prop := SM p0∧bc4q24 p0∧∃ (y:Eff),bc4q25 p1 p2 p3 y∧(bc4q26 y.1∧bc4q35 y.2 p1 p2 p3)∧bc4q29
def bc4q37 (p0:CodD):Int := (LI (CodD.funs p0))
def bc4q38 (p0:CodD) (p1:Nat):FnD := GF p0 (Int.toNat (↑p1:Int))
def bc4q39 (p0:I4) (p1:CodD) (p2:Nat):Bool := decide (bc4q20 p0 ≤ IntKind.wrap IntKind.i64 (FnD.slots (bc4q38 p1 p2) - Z1))
def bc4q40 (p0:I4) (p1:CodD) (p2:Nat):Bool := bif bc4q21 p0 then bc4q39 p0 p1 p2 else false
def bc4q41 (p0:List UInt8) (p1:CodD) (p2:Nat) (p3:I4):Prop := bc4q26 p0∧bc4q30 p1 p2 p3
def bc4q42 (p0:I4):Bool := bc4q18 p0 != Z0
def bc4q43 (p0:Nat) (p1:CodD) (p2:Nat) (p3:I4):Prop := SM p0∧bc4q24 p0∧∃ (y:Eff),bc4q25 p1 p2 p3 y∧(bc4q26 y.1∧bc4q41 y.2 p1 p2 p3)∧bc4q29
def bc4q44 (p0:I4):Bool := decide ((2:Int) ≤ bc4q20 p0)
def bc4q45 (p0:I4):Bool := bif bc4q44 p0 then decide (bc4q20 p0 ≤ (1000:Int)) else false
def bc4q46 (p0:I4):Prop := Z0 ≤ bc4q20 p0∧bc4q20 p0 ≤ (1000:Int)∧SM N1
def bc4q47 (p0:I4):Nat := Int.toNat (bc4q20 p0)
def bc4q48 (p0:I4):Bool := decide (Z1 ≤ bc4q20 p0)
def bc4q49 (p0:I4):Bool := bif bc4q48 p0 then decide (bc4q20 p0 ≤ (55:Int)) else false
def bc4q50 (p0:I4):Prop := ifB (bc4q48 p0) (decide (bc4q20 p0 ≤ (55:Int)) = bc4q49 p0∧True) (false = bc4q49 p0∧True)
def bc4q51 (p0:I4) (p1:CodD) (p2:Nat):Prop := bc4q49 p0 = bc4q28 p1 p2 p0∧True
def bc4q52 (p0:List UInt8) (p1:I4) (p2:CodD) (p3:Nat):Prop := bc4q27 p0∧bc4q51 p1 p2 p3
def bc4q53 (p0:I4) (p1:CodD):Bool := decide (bc4q20 p0 ≤ IntKind.wrap IntKind.i64 (bc4q37 p1 - Z1))
def bc4q54 (p0:I4) (p1:CodD):Bool := bif bc4q48 p0 then bc4q53 p0 p1 else false
def bc4q55 (p0:I4):Bool := bif bc4q48 p0 then decide (bc4q20 p0 ≤ (5:Int)) else false
def bc4q56 (p0:I4):Bool := bif bif bc4q20 p0 == (6:Int) then true else bc4q20 p0 == (10:Int) then true else bc4q20 p0 == (11:Int)
def bc4q57 (p0:I4):Prop := true = bc4q56 p0∧True
def bc4q58 (p0:I4):Bool := bif decide ((7:Int) ≤ bc4q20 p0) then decide (bc4q20 p0 ≤ (9:Int)) else false
def bc4q59 (p0:I4):Bool := bif bc4q44 p0 then decide (bc4q20 p0 ≤ (3:Int)) else false
def bc4q60 (p0:I4) (p1:CodD) (p2:Nat):Bool := decide (bc4q20 p0 ≤ IntKind.wrap IntKind.i64 ((LI (FnD.code (bc4q38 p1 p2))) - Z1))
def bc4q61 (p0:I4) (p1:CodD) (p2:Nat):Bool := bif bc4q21 p0 then bc4q60 p0 p1 p2 else false
def bc4q62 (p0:CodD):Int := (LI (CodD.kers p0))
def bc4q63 (p0:I4) (p1:CodD):Bool := decide (bc4q20 p0 ≤ IntKind.wrap IntKind.i64 (bc4q62 p1 - Z1))
def bc4q64 (p0:I4) (p1:CodD):Bool := bif bc4q21 p0 then bc4q63 p0 p1 else false
def bc4q65 (p0:CodD) (p1:I4):Int := KeD.inputs (GK p0 (bc4q47 p1))
def bc4q66 (p0:CodD) (p1:I4):Bool := decide (Z1 ≤ bc4q65 p0 p1)
def bc4q67 (p0:CodD) (p1:I4):Bool := decide (bc4q65 p0 p1 ≤ (16:Int))
def bc4q68 (p0:CodD) (p1:I4):Bool := bif bc4q66 p0 p1 then bc4q67 p0 p1 else false
def bc4q69 (p0:Nat) (p1:I4):Option Eff := plainC ((↑p0:Int) == Z0) (I4.mk (bc4q17 p1) (bc4q20 p1) (bc4q18 p1) (I4.d p1))
end
set_option maxHeartbeats 4000000 in
theorem rof_ok (c:CodD) (f:Nat) (x:I4) (hf:f < c.funs.length) (hc:c.ok) (hx:x.ok):ACalls Try.prog 69 [.agg c.row,.int .i64 f,.agg x.row] ⟨[],[]⟩ (SpecR (pQ [.agg c.row,.int .i64 f,.agg x.row] (offD (effC c f x)) (offQ (effC c f x)) True) ()) := by
  refine con_of (A := pQ _ _ _ _) (x := ()) (E := Erof) (eOk conRE_ok rfl) Try.func69 rfl (by kernel_rfl) rfl (by simp [pQ,Erof,EC,E0]) ?_
  have hm:∀ n:Nat,n ≤ maxLen→IntKind.i64.wrap ((n:Int) - 1) = (n:Int) - 1 := fun n hn => by simp only [maxLen] at hn; exact wrap_i64' (by omega) (by omega)
  obtain ⟨_,h2,h3,_,l1,l2,l3,_⟩ := hc
  have hfo := getD_ok h2 hf
  have w1 := hm _ l1
  have w2 := hm _ l2
  have w3 := hm _ l3
  have w4 := hm _ hfo.2.2
  have hk:∀ i:Nat,i < c.kers.length→inI64 (c.kers.getD i default).inputs := fun i hi => (getD_ok h3 hi).1
  have de:(default:FnD) = ⟨0,[]⟩ := rfl
  have dk:(default:KeD) = ⟨0,[],0,0⟩ := rfl
  have e0:((f:Int) == 0) = decide (f = 0) := by
    by_cases e:f = 0
    · subst e; rfl
    · simp [e]
  have wb:IntKind.i64.wrap x.b = x.b := wrap_i64' hx.2.1.1 hx.2.1.2
  refine vc_eq (T :=
    ∀ (x_1:Nat),True→∀ (x_2:Nat),x_1 ≠ x_2∧True→∀ (x_3:Nat),x_2 ≠ x_3∧x_1 ≠ x_3∧True→SM x_2∧ifB (bc4q17 x == Z1) (SM x_2∧ifB (bc4q19 x) (SM x_2∧SM x_1∧ifB (bc4q21 x) (bc4q22 x c = bc4q23 x c∧True) (false = bc4q23 x c∧True)∧True∧SM x_3∧bc4q24 x_3∧∃ (y:Eff),bc4q25 c f x y∧(bc4q26 y.1∧bc4q27 y.2∧bc4q23 x c = bc4q28 c f x∧True)∧bc4q29) (bc4q32 x_3 c f x)) (ifB (bc4q17 x == (5:Int)) (SM x_2∧ifB (bc4q21 x) (SM x_2∧SM x_3∧bc4q24 x_3∧∃ (y:Eff),bc4q25 c f x y∧(bc4q26 y.1∧bc4q27 y.2∧bc4q33 x c f)∧bc4q29) (bc4q32 x_3 c f x)) (ifB (bc4q17 x == (12:Int)) (SM x_2∧ifB (bc4q21 x) (SM x_2∧SM x_3∧bc4q24 x_3∧∃ (y:Eff),bc4q25 c f x y∧(bc4q26 y.1∧bc4q34 y.2∧bc4q33 x c f)∧bc4q29) (bc4q36 x_3 c f x)) (ifB (bc4q17 x == (6:Int)) (SM x_2∧ifB (bc4q19 x) (SM x_2∧SM x_1∧side (Z0 ≤ (↑f:Int)∧(↑f:Int) < bc4q37 c) (ifB (bc4q21 x) (bc4q39 x c f = bc4q40 x c f∧True) (false = bc4q40 x c f∧True)∧True∧SM x_3∧bc4q24 x_3∧∃ (y:Eff),bc4q25 c f x y∧([(42:UInt8)] = y.1∧bc4q26 y.2∧bc4q40 x c f = bc4q28 c f x∧True)∧bc4q29)) (SM x_3∧bc4q24 x_3∧∃ (y:Eff),bc4q25 c f x y∧([(42:UInt8)] = y.1∧bc4q41 y.2 c f x)∧bc4q29)) (ifB (bc4q17 x == (7:Int)) (SM x_2∧ifB (bc4q42 x) (bc4q43 x_3 c f x) (SM x_2∧ifB (bc4q44 x) (decide (bc4q20 x ≤ (1000:Int)) = bc4q45 x∧True) (false = bc4q45 x∧True)∧True∧ifB (!bc4q45 x) (bc4q43 x_3 c f x) (SM x_2∧bc4q46 x∧∀ (y:Unit),True→SM x_3∧bc4q24 x_3∧∃ (y:Eff),bc4q25 c f x y∧(Lib.repeatL [(97:UInt8)] (bc4q47 x) = y.1∧bc4q27 y.2∧true = bc4q28 c f x∧True)∧bc4q29))) (ifB (bc4q17 x == (8:Int)) (SM x_2∧ifB (bc4q19 x) (SM x_2∧bc4q50 x∧True∧True∧SM x_3∧bc4q24 x_3∧∃ (y:Eff),bc4q25 c f x y∧(bc4q27 y.1∧bc4q52 y.2 x c f)∧bc4q29) (SM x_3∧bc4q24 x_3∧∃ (y:Eff),bc4q25 c f x y∧(bc4q27 y.1∧bc4q31 y.2 c f x)∧bc4q29)) (ifB (bc4q17 x == (9:Int)) (SM x_2∧ifB (bc4q19 x) (SM x_2∧bc4q50 x∧True∧True∧SM x_3∧bc4q24 x_3∧∃ (y:Eff),bc4q25 c f x y∧([(97:UInt8),(97:UInt8)] = y.1∧bc4q52 y.2 x c f)∧bc4q29) (SM x_3∧bc4q24 x_3∧∃ (y:Eff),bc4q25 c f x y∧([(97:UInt8),(97:UInt8)] = y.1∧bc4q31 y.2 c f x)∧bc4q29)) (ifB (bc4q17 x == (10:Int)) (SM x_2∧ifB (bc4q19 x) (SM x_2∧bc4q50 x∧True∧True∧SM x_3∧bc4q24 x_3∧∃ (y:Eff),bc4q25 c f x y∧(bc4q26 y.1∧bc4q34 y.2∧bc4q51 x c f)∧bc4q29) (bc4q36 x_3 c f x)) (ifB (bc4q17 x == (11:Int)) (SM x_2∧ifB (bc4q19 x) (SM x_2∧SM x_1∧ifB (bc4q48 x) (bc4q53 x c = bc4q54 x c∧True) (false = bc4q54 x c∧True)∧True∧SM x_3∧bc4q24 x_3∧∃ (y:Eff),bc4q25 c f x y∧(bc4q26 y.1∧bc4q34 y.2∧bc4q54 x c = bc4q28 c f x∧True)∧bc4q29) (bc4q36 x_3 c f x)) (ifB (bc4q17 x == (16:Int)) (SM x_2∧ifB (bc4q19 x) (SM x_2∧ifB (bc4q48 x) (decide (bc4q20 x ≤ (5:Int)) = bc4q55 x∧True) (false = bc4q55 x∧True)∧True∧SM x_3∧bc4q24 x_3∧∃ (y:Eff),bc4q25 c f x y∧(bc4q34 y.1∧bc4q34 y.2∧bc4q55 x = bc4q28 c f x∧True)∧bc4q29) (SM x_3∧bc4q24 x_3∧∃ (y:Eff),bc4q25 c f x y∧(bc4q34 y.1∧bc4q35 y.2 c f x)∧bc4q29)) (ifB (bc4q17 x == (17:Int)) ((SM x_2∧ifB (bc4q20 x == (6:Int)) (bc4q57 x) (SM x_2∧ifB (bc4q20 x == (10:Int)) (bc4q57 x) (SM x_2∧(bc4q20 x == (11:Int)) = bc4q56 x∧True)))∧ifB (bc4q56 x) (SM x_2∧SM x_3∧bc4q24 x_3∧∃ (y:Eff),bc4q25 c f x y∧([(102:UInt8),(102:UInt8)] = y.1∧bc4q34 y.2∧(bc4q18 x == Z1) = bc4q28 c f x∧True)∧bc4q29) (SM x_2∧ifB (bc4q19 x) (SM x_2∧ifB (decide ((7:Int) ≤ bc4q20 x)) (decide (bc4q20 x ≤ (9:Int)) = bc4q58 x∧True) (false = bc4q58 x∧True)∧True∧SM x_3∧bc4q24 x_3∧∃ (y:Eff),bc4q25 c f x y∧([(102:UInt8),(97:UInt8)] = y.1∧bc4q34 y.2∧bc4q58 x = bc4q28 c f x∧True)∧bc4q29) (SM x_3∧bc4q24 x_3∧∃ (y:Eff),bc4q25 c f x y∧([(102:UInt8),(97:UInt8)] = y.1∧bc4q35 y.2 c f x)∧bc4q29))) (ifB (bc4q17 x == (18:Int)) (SM x_2∧ifB (bc4q42 x) (bc4q43 x_3 c f x) (SM x_2∧ifB (bc4q44 x) (decide (bc4q20 x ≤ (3:Int)) = bc4q59 x∧True) (false = bc4q59 x∧True)∧True∧ifB (!bc4q59 x) (bc4q43 x_3 c f x) (SM x_2∧bc4q46 x∧∀ (y:Unit),True→SM x_3∧bc4q24 x_3∧∃ (y:Eff),bc4q25 c f x y∧(Lib.repeatL [(102:UInt8)] (bc4q47 x) = y.1∧bc4q34 y.2∧true = bc4q28 c f x∧True)∧bc4q29))) (ifB (bc4q17 x == (24:Int)) (SM x_2∧ifB (bc4q19 x) (SM x_2∧SM x_1∧side (Z0 ≤ (↑f:Int)∧(↑f:Int) < bc4q37 c) (ifB (bc4q21 x) (bc4q60 x c f = bc4q61 x c f∧True) (false = bc4q61 x c f∧True)∧True∧SM x_3∧bc4q24 x_3∧∃ (y:Eff),bc4q25 c f x y∧(bc4q27 y.1∧bc4q26 y.2∧bc4q61 x c f = bc4q28 c f x∧True)∧bc4q29)) (SM x_3∧bc4q24 x_3∧∃ (y:Eff),bc4q25 c f x y∧(bc4q27 y.1∧bc4q41 y.2 c f x)∧bc4q29)) (ifB (bc4q17 x == (27:Int)) (SM x_2∧ifB (bc4q42 x) (bc4q43 x_3 c f x) (SM x_2∧SM x_1∧ifB (bc4q21 x) (bc4q63 x c = bc4q64 x c∧True) (false = bc4q64 x c∧True)∧True∧ifB (!bc4q64 x c) (bc4q43 x_3 c f x) (SM x_1∧SM x_2∧side (Z0 ≤ bc4q20 x∧bc4q20 x < bc4q62 c) (ifB (bc4q66 c x) (bc4q67 c x = bc4q68 c x∧True) (false = bc4q68 c x∧True)∧True∧ifB (!bc4q68 c x) (bc4q43 x_3 c f x) (SM x_1∧SM x_2∧side (Z0 ≤ bc4q20 x∧bc4q20 x < bc4q62 c) ((Z0 ≤ bc4q65 c x∧bc4q65 c x ≤ (1000:Int)∧SM N1)∧∀ (y:Unit),True→SM x_3∧bc4q24 x_3∧∃ (y:Eff),bc4q25 c f x y∧(Lib.repeatL [(97:UInt8)] (Int.toNat (bc4q65 c x)) = y.1∧bc4q27 y.2∧true = bc4q28 c f x∧True)∧bc4q29)))))) (SM x_2∧True∧∀ (y:Eff),offQ (bc4q69 f x) y→SM x_3∧bc4q24 x_3∧∃ (y_1:Eff),bc4q25 c f x y_1∧(y.1 = y_1.1∧y.2 = y_1.2∧Option.isSome (bc4q69 f x) = bc4q28 c f x∧True)∧bc4q29))))))))))))))) (by kernel_rfl) ?_
  delta DF DK GF GK LI LN N1 SM Z0 Z1 bc4q17 bc4q18 bc4q19 bc4q20 bc4q21 bc4q22 bc4q23 bc4q24 bc4q25 bc4q26 bc4q27 bc4q28 bc4q29 bc4q30 bc4q31 bc4q32 bc4q33 bc4q34 bc4q35 bc4q36 bc4q37 bc4q38 bc4q39 bc4q40 bc4q41 bc4q42 bc4q43 bc4q44 bc4q45 bc4q46 bc4q47 bc4q48 bc4q49 bc4q50 bc4q51 bc4q52 bc4q53 bc4q54 bc4q55 bc4q56 bc4q57 bc4q58 bc4q59 bc4q60 bc4q61 bc4q62 bc4q63 bc4q64 bc4q65 bc4q66 bc4q67 bc4q68 bc4q69
  simp only [← de,← dk,e0,w1,w2,w3,w4,Int.toNat_natCast,ifB_iff,side_iff,decide_eq_true_eq,decide_eq_false_iff_not,true_and,and_true,beq_iff_eq,Bool.cond_false_right,beq_eq_false_iff_ne,ne_eq]
  repeat' (first
    | refine off_leaf ?_
    | (refine And.intro ?_ ?_)
    | intro _)
  all_goals (try first | exact off_pass (eff_plain c f x (by simp_all)) (by assumption))
  all_goals (first | (simp_all [effC,effS,between,primB,gu]; done) | grind [effC,effS,between,primB,gu] | skip)
end Go.Proofs.Ytoglbmhkfkghbaa
namespace Go.Proofs.Ytoglbmhkfkghbaa
open Go Go.Ab
def brow (l:List UInt8):Nat→List D := fun i => [.int .u8 ((l.getD i 0).toNat:Int)]
def popB (st p:List UInt8) (j:Nat):Bool := p.getD j 0 == 42 || p.getD j 0 == st.getD (st.length - 1 - j) 0
def okA (st p:List UInt8) (r:Bool):Bool := r && decide (p.length ≤ st.length) && (List.range p.length).all (popB st p)
def newA (st p q:List UInt8):List UInt8 := st.take (st.length - p.length) ++ q
def nilB:D := .sl 1 0 (fun _ => []) .nil
def RnilA (p q:List UInt8) (r:Bool) (e:AEnd) (S:St):Prop :=
  (okA [] p r = true∧((q = []∧e = .ret (.tup [nilB,.bool true])∧S = ⟨[],[]⟩)∨(q ≠ []∧∃ k x cap,q.length ≤ cap∧e = .ret (.tup [.vs k x q.length cap 1,.bool true])∧S = ⟨[(k,x,.vec 1 q.length cap (brow q))],[]⟩))) ∨
  (okA [] p r = false∧e = .ret (.tup [nilB,.bool false])∧S = ⟨[],[]⟩)
def RvsA (st p q:List UInt8) (r:Bool) (e:AEnd) (S:St):Prop :=
  (okA st p r = true∧∃ x cap,(newA st p q).length ≤ cap∧e = .ret (.tup [.vs 0 x (newA st p q).length cap 1,.bool true])∧S = ⟨[(0,x,.vec 1 (newA st p q).length cap (brow (newA st p q)))],[]⟩) ∨
  (okA st p r = false∧e = .ret (.tup [nilB,.bool false])∧S = ⟨[],[]⟩)
theorem bne_and {a b c:Int} (h:¬ a = c):(a != b) = (a != c && a != b) := by simp [h]
theorem bne_and' {a b c:Int} (h:(a != c) = false):false = (a != c && a != b) := by simp [h]
theorem popB_of {st p:List UInt8} {j:Nat} (h:((p.getD j 0).toNat:Int) = 42∨((p.getD j 0).toNat:Int) = ((st.getD (st.length - 1 - j) 0).toNat:Int)):popB st p j = true := by
  unfold popB
  rw [Bool.or_eq_true,beq_iff_eq,beq_iff_eq]
  rcases h with h | h
  · left
    apply UInt8.toNat_inj.1
    show (p.getD j 0).toNat = 42
    omega
  · right
    apply UInt8.toNat_inj.1
    omega
theorem popB_not {st p:List UInt8} {j:Nat} (h1:¬ ((p.getD j 0).toNat:Int) = 42) (h2:¬ ((p.getD j 0).toNat:Int) = ((st.getD (st.length - 1 - j) 0).toNat:Int)):popB st p j = false := by
  unfold popB
  rw [Bool.or_eq_false_iff,beq_eq_false_iff_ne,beq_eq_false_iff_ne]
  refine ⟨fun e => h1 ?_,fun e => h2 ?_⟩
  · rw [e]; rfl
  · rw [e]
theorem okA_false {st p:List UInt8} {r:Bool} {j:Nat} (hj:j < p.length) (h:popB st p j = false):okA st p r = false := by
  have:(List.range p.length).all (popB st p) = false := by
    rw [List.all_eq_false]
    exact ⟨j,List.mem_range.2 hj,by simp [h]⟩
  simp [okA,this]
theorem okA_true {st p:List UInt8} {r:Bool} (hr:r = true) (hl:p.length ≤ st.length) (h:∀ j,j < p.length→popB st p j = true):okA st p r = true := by
  have:(List.range p.length).all (popB st p) = true := by
    rw [List.all_eq_true]
    exact fun j hj => h j (List.mem_range.1 hj)
  simp [okA,this,hr,hl]
theorem app_rows {st q:List UInt8} {a:Nat} (ha:a ≤ st.length) {i:Nat} (_hi:i < a + q.length):appF a (brow st) (brow q) i = brow (st.take a ++ q) i := by
  simp only [appF,brow]
  split
  · rename_i h
    simp [List.getD_eq_getElem?_getD,List.getElem?_append_left (show i < (st.take a).length by simp; omega),List.getElem?_take_of_lt h]
  · rename_i h
    have:(st.take a).length = a := by simp; omega
    simp [List.getD_eq_getElem?_getD,List.getElem?_append_right (show (st.take a).length ≤ i by omega),this]
def annA (st p q:List UInt8) (r:Bool) (os:List (Nat × Nat × AObj)) (k:Nat) (d:D):Option LoopAnn :=
  match d with
  | .ref _ xe _ => some { slots := [21],keep := [0,3,20],α := Nat,st := fun i => ([.int .i64 i],⟨(k,xe,.cells [.str p,.str q,.bool r]) :: os,[]⟩),inv := fun i => i ≤ p.length∧∀ j,j < i→popB st p j = true,mu := fun i => p.length - i }
  | _ => none
noncomputable def Eapp (own:Nat→Bool) (st p q:List UInt8) (r:Bool) (os:List (Nat × Nat × AObj)) (k:Nat):Senv := { EC con0 56 2 [3,4,5,6,17,20,21,22,43] (fun id => match id with | 6 => ([0,1,2,3,4,5,6,7,8,9,10,11,12,13,14,15,16,17,18,19],[]) | 9 => ([0,1,2,3,4,5,6,7,8,9,10,11,12],[10]) | _ => ([],[])) with
  own := own
  ann := fun b env _ => match b with
    | 0 => annA st p q r os k (Ab.look env 3)
    | _ => none }
noncomputable section
def bc5q0 (p0:Bool) (p1:Nat) (p2:List UInt8):Bool := bif !p0 then true else decide ((↑p1:Int) < (LI p2))
def bc5q1 (p0:List UInt8) (p1:Nat):List D := [ZB (BI p0 p1)]
def bc5q2 (p0:Nat) (p1 p2:List UInt8) (p3:Bool) (p4 p5 p6:Nat) (p7:List UInt8):Prop := True∧∃ (S':St),StTo (St.mk [(N1,p0,AObj.cells [D.str p1,D.str p2,D.bool p3]),(N0,p4,AObj.vec N1 p5 p6 fun (i:Nat) => bc5q1 p7 i)] []) S'∧RvsA p7 p1 p2 p3 (AEnd.ret (D.tup [D.sl N1 N0 (fun (_x:Nat) => []) Mode.nil,D.bool false])) S'
def bc5q3 (p0:Nat) (p1 p2:List UInt8):Prop := p0 ≤ LN p1∧∀ (j:Nat),j < p0→popB p2 p1 j = true
def bc5q4 (p0:Nat) (p1 p2:List UInt8) (p3:Bool) (p4 p5 p6:Nat) (p7:List UInt8):Prop := (SM p0∧(SM p1∧SM p2∧SM p3∧True)∧SM p4∧(SM p5∧SM p6∧∀ (i:Nat),i < p5→SM (bc5q1 p7 i))∧True)∧True
def bc5q5 (p0 p1:Nat):Int := IntKind.wrap IntKind.i64 (IntKind.wrap IntKind.i64 ((↑p0:Int) - Z1) - (↑p1:Int))
def bc5q6 (p0 p1:Nat):Nat := Int.toNat (bc5q5 p0 p1)
def bc5q7 (p0:List UInt8) (p1:Nat) (p2:List UInt8) (p3:Nat):Bool := (BI p0 (Int.toNat (↑p1:Int))) != (BI p2 (bc5q6 p3 p1))
def bc5q8 (p0:List UInt8) (p1:Nat) (p2:List UInt8) (p3:Nat):Bool := bif (BI p0 (Int.toNat (↑p1:Int))) != (42:Int) then bc5q7 p0 p1 p2 p3 else false
def bc5q9 (p0:Nat) (p1:List UInt8):Nat := Int.toNat (IntKind.wrap IntKind.i64 ((↑p0:Int) - (LI p1)))
def bc5q10 (p0:Nat) (p1 p2:List UInt8):Nat := bc5q9 p0 p1 + LN p2
end
theorem app_vs (x len cap : Nat) (st p q : List UInt8) (r : Bool) (hl : st.length = len) (hq : r = true → st.length + q.length ≤ 1000000 ∧ p.length ≤ 1000000) (hc : len ≤ cap) :
    ACalls Try.prog 64 [.vs 0 x len cap 1,.agg [.str p,.str q,.bool r]] ⟨[(0,x,.vec 1 len cap (brow st))],[]⟩ (fun e S => ∃ S',StTo S S'∧RvsA st p q r e S') := by
  refine call_of (E := Eapp (fun _ => false) st p q r [(0,x,.vec 1 len cap (brow st))] 1) (eOk con0_ok rfl) Try.func64 rfl (by kernel_rfl) rfl (by simp [Eapp,EC,E0]) ?_
  refine vc_eq (T :=
    ∀ (x_1:Nat),x ≠ x_1∧True→(SM x_1∧ifB (!r) (true = bc5q0 r len p∧True) (SM x_1∧decide ((↑len:Int) < (LI p)) = bc5q0 r len p∧True))∧ifB (bc5q0 r len p) (bc5q2 x_1 p q r x len cap st) (SM x_1∧(∃ (x_2:Nat),bc5q3 x_2 p st∧(Z0 = (↑x_2:Int)∧True)∧bc5q4 x_1 p q r x len cap st)∧∀ (x_2:Nat),bc5q3 x_2 p st→ifB (decide ((↑x_2:Int) < (LI p))) ((SM x_1∧side (Z0 ≤ (↑x_2:Int)∧(↑x_2:Int) < (LI p)) (ifB ((BI p (Int.toNat (↑x_2:Int))) != (42:Int)) (SM x_1∧side (Z0 ≤ (↑x_2:Int)∧(↑x_2:Int) < (LI p)) (side (Z0 ≤ bc5q5 len x_2∧bc5q5 len x_2 < (↑len:Int)) (SM x∧side (bc5q6 len x_2 < len) (bc5q7 p x_2 st len = bc5q8 p x_2 st len∧True)))) (false = bc5q8 p x_2 st len∧True)))∧ifB (bc5q8 p x_2 st len) (bc5q2 x_1 p q r x len cap st) ((SM (D.vs N0 x len cap N1)∧SM (D.ref N1 x_1 N0)∧SM (ZI (LI p))∧True)∧∃ (y:Nat),bc5q3 y p st∧LN p - y < LN p - x_2∧(IntKind.wrap IntKind.i64 ((↑x_2:Int) + Z1) = (↑y:Int)∧True)∧bc5q4 x_1 p q r x len cap st)) (SM x_1∧side (Z0 ≤ IntKind.wrap IntKind.i64 ((↑len:Int) - (LI p))∧IntKind.wrap IntKind.i64 ((↑len:Int) - (LI p)) ≤ (↑cap:Int)) (SM x_1∧SM x∧SM cap∧side (bc5q9 len p ≤ len∧bc5q10 len p q * N1 ≤ (140737488355328:Nat)∧bc5q10 len p q ≤ (9223372036854775807:Nat)) (∀ (y cap':Nat),bc5q10 len p q ≤ cap'→True∧∃ (S':St),StTo (St.mk [(N0,y,AObj.vec N1 (bc5q10 len p q) cap' (appF (bc5q9 len p) (fun (i:Nat) => bc5q1 st i) fun (i:Nat) => bc5q1 q i)),(N1,x_1,AObj.cells [D.str p,D.str q,D.bool r])] []) S'∧RvsA st p q r (AEnd.ret (D.tup [D.vs N0 y (bc5q10 len p q) cap' N1,D.bool true])) S'))))) (by kernel_rfl) ?_
  delta BI LI LN N0 N1 SM U0 Z0 Z1 ZB ZI bc5q0 bc5q1 bc5q10 bc5q2 bc5q3 bc5q4 bc5q5 bc5q6 bc5q7 bc5q8 bc5q9
  simp only [ifB_iff,side_iff,decide_eq_true_eq,decide_eq_false_iff_not,true_and,and_true,bne_iff_ne,Bool.cond_false_right,Bool.cond_true_left,Bool.and_eq_true,Bool.and_eq_false_iff,ne_eq]
  intro xe hne
  subst hl
  have fail:∀ S,okA st p r = false→∃ S',StTo S S'∧RvsA st p q r (AEnd.ret (D.tup [D.sl 1 0 (fun _ => []) Mode.nil,D.bool false])) S' := fun S h => ⟨⟨[],[]⟩,StTo.none _,.inr ⟨h,rfl,rfl⟩⟩
  refine ⟨⟨by cases r <;> simp,by cases r <;> simp⟩,fun h => fail _ ?_,fun h => ⟨⟨0,⟨by omega,fun j hj => absurd hj (Nat.not_lt_zero j)⟩,rfl,fun _ _ => trivial⟩,fun i hi => ⟨fun hlt => ?_,fun hge => ?_⟩⟩⟩
  · simp only [Bool.or_eq_true,Bool.not_eq_true',decide_eq_true_eq] at h
    rcases h with h | h
    · simp [okA,h]
    · have:¬ p.length ≤ st.length := by omega
      simp [okA,this]
  · simp only [Bool.or_eq_false_iff,Bool.not_eq_false',decide_eq_false_iff_not] at h
    obtain ⟨hq,hp⟩ := hq h.1
    have hlt':i < p.length := by omega
    have hw:IntKind.i64.wrap (IntKind.i64.wrap ((st.length:Int) - 1) - (i:Int)) = ((st.length - 1 - i:Nat):Int) := by
      rw [wrap_i64' (n := (st.length:Int) - 1) (by omega) (by omega),wrap_i64' (by omega) (by omega)]; omega
    simp only [hw,Int.toNat_natCast]
    refine ⟨⟨by omega,fun h42 => ⟨by omega,by omega,by omega,?_⟩,fun h42 => ?_⟩,fun hb => fail _ (okA_false hlt' (popB_not hb.1 hb.2)),fun hb => ⟨i + 1,⟨by omega,fun j hj => ?_⟩,by omega,wrap_i64' (by omega) (by omega),fun _ _ => trivial⟩⟩
    · exact bne_and h42
    · exact bne_and' h42
    · by_cases e:j = i
      · subst e
        refine popB_of (hb.imp (fun h => ?_) (fun h => ?_))
        · simpa using h
        · simpa using h
      · exact hi.2 j (by omega)
  · simp only [Bool.or_eq_false_iff,Bool.not_eq_false',decide_eq_false_iff_not] at h
    obtain ⟨hq,hp⟩ := hq h.1
    have hw:IntKind.i64.wrap ((st.length:Int) - (p.length:Int)) = ((st.length - p.length:Nat):Int) := by
      rw [wrap_i64' (by omega) (by omega)]; omega
    have hip:i = p.length := by omega
    subst hip
    simp only [hw,Int.toNat_natCast]
    refine ⟨by omega,by omega,fun y cap' hcap => ⟨_,leS_to ?_,.inl ⟨okA_true h.1 (by omega) hi.2,y,cap',?_,?_,rfl⟩⟩⟩
    · simp only [leS,chk_iff,leO,leT,getO,nodupB,List.map_cons,List.map_nil,weakO]
      refine ⟨by simp,⟨rfl,?_,trivial⟩,trivial⟩
      simp only []
      refine ⟨by simp,by simp [newA],trivial,fun j hj => app_rows (by omega) hj⟩
    · simp [newA]; omega
    · have:(newA st p q).length = st.length - p.length + q.length := by simp [newA]
      rw [this]
noncomputable section
def bc5q11 (p0:Bool) (p1:List UInt8):Bool := bif !p0 then true else decide ((NI N0) < (LI p1))
def bc5q12 (p0:Nat) (p1:List UInt8):Prop := p0 ≤ LN p1∧∀ (j:Nat),j < p0→popB [] p1 j = true
end
theorem app_nil (p q : List UInt8) (r : Bool) (hq : r = true → q.length ≤ 1000000 ∧ p.length ≤ 1000000) :
    ACalls Try.prog 64 [nilB,.agg [.str p,.str q,.bool r]] ⟨[],[]⟩ (fun e S => ∃ S',StTo S S'∧RnilA p q r e S') := by
  refine call_of (E := Eapp (fun k => Nat.beq k 22) [] p q r [] 0) (eOk con0_ok rfl) Try.func64 rfl (by kernel_rfl) rfl (by simp [Eapp,EC,E0]) ?_
  refine vc_eq (T :=
    ∀ (x:Nat),True→(SM x∧ifB (!r) (true = bc5q11 r p∧True) (SM x∧decide (Z0 < (LI p)) = bc5q11 r p∧True))∧ifB (bc5q11 r p) (True∧∃ (S':St),StTo (St.mk [(N0,x,AObj.cells [D.str p,D.str q,D.bool r])] []) S'∧RnilA p q r (AEnd.ret (D.tup [D.sl N1 N0 (fun (x:Nat) => []) Mode.nil,D.bool false])) S') (SM x∧(∃ (x_1:Nat),bc5q12 x_1 p∧(Z0 = (↑x_1:Int)∧True)∧(SM x∧(SM p∧SM q∧SM r∧True)∧True)∧True)∧∀ (x_1:Nat),bc5q12 x_1 p→ifB (decide ((↑x_1:Int) < (LI p))) ((SM x∧side (Z0 ≤ (↑x_1:Int)∧(↑x_1:Int) < (LI p)) (ifB ((BI p (Int.toNat (↑x_1:Int))) != (42:Int)) (SM x∧side (Z0 ≤ (↑x_1:Int)∧(↑x_1:Int) < (LI p)) (side (Z0 ≤ IntKind.wrap IntKind.i64 ((-1:Int) - (↑x_1:Int))∧IntKind.wrap IntKind.i64 ((-1:Int) - (↑x_1:Int)) < Z0) False)) (True∧True)))∧False) (SM x∧side (Z0 ≤ Z0∧Z0 ≤ IntKind.wrap IntKind.i64 (Z0 - (LI p))∧IntKind.wrap IntKind.i64 (Z0 - (LI p)) ≤ Z0) (SM x∧side (LN q * N1 ≤ (140737488355328:Nat)∧LN q ≤ (9223372036854775807:Nat)) (ifB (Nat.beq (LN q) N0) (True∧∃ (S':St),StTo (St.mk [(N0,x,AObj.cells [D.str p,D.str q,D.bool r])] []) S'∧RnilA p q r (AEnd.ret (D.tup [D.sl N1 N0 (fun (x:Nat) => []) Mode.nil,D.bool true])) S') (∀ (y cap':Nat),x ≠ y∧True→LN q ≤ cap'→True∧∃ (S':St),StTo (St.mk [((11:Nat),y,AObj.vec N1 (LN q) cap' fun (i:Nat) => [ZB (BI q i)]),(N0,x,AObj.cells [D.str p,D.str q,D.bool r])] []) S'∧RnilA p q r (AEnd.ret (D.tup [D.vs (11:Nat) y (LN q) cap' N1,D.bool true])) S')))))) (by kernel_rfl) ?_
  delta BI LI LN N0 N1 NI SM U0 Z0 ZB bc5q11 bc5q12
  simp only [ifB_iff,side_iff,decide_eq_true_eq,decide_eq_false_iff_not,true_and,and_true,bne_iff_ne,Bool.cond_true_left,ne_eq]
  intro xe _
  have fail:∀ S,okA [] p r = false→∃ S',StTo S S'∧RnilA p q r (AEnd.ret (D.tup [D.sl 1 0 (fun _ => []) Mode.nil,D.bool false])) S' := fun S h => ⟨⟨[],[]⟩,StTo.none _,.inr ⟨h,rfl,rfl⟩⟩
  refine ⟨⟨by cases r <;> simp,by cases r <;> simp⟩,fun h => fail _ ?_,fun h => ⟨⟨0,⟨by omega,fun j hj => absurd hj (Nat.not_lt_zero j)⟩,rfl⟩,fun i hi => ?_⟩⟩
  · simp only [Bool.or_eq_true,Bool.not_eq_true',decide_eq_true_eq] at h
    rcases h with h | h
    · simp [okA,h]
    · have:p ≠ [] := by rintro rfl; simp at h
      simp [okA,this]
  · simp only [Bool.or_eq_false_iff,Bool.not_eq_false',decide_eq_false_iff_not] at h
    obtain ⟨hq,hp⟩ := hq h.1
    have hp0:p = [] := List.eq_nil_of_length_eq_zero (by omega)
    subst hp0
    have hi0:i = 0 := by simpa using hi.1
    subst hi0
    refine ⟨fun hlt => by simp at hlt,fun _ => ?_⟩
    have hw:IntKind.i64.wrap (0 - (([]:List UInt8).length:Int)) = 0 := by rw [wrap_i64'] <;> simp
    have hok:okA [] [] r = true := by simp [okA,h.1]
    refine ⟨by rw [hw]; omega,by omega,fun hz => ?_,fun hz y cap' _ hcap => ?_⟩
    · have hq0:q = [] := List.eq_nil_of_length_eq_zero (Nat.eq_of_beq_eq_true hz)
      exact ⟨⟨[],[]⟩,StTo.none _,.inl ⟨hok,.inl ⟨hq0,rfl,rfl⟩⟩⟩
    · have hq0:q ≠ [] := by rintro rfl; simp at hz
      refine ⟨_,leS_to ?_,.inl ⟨hok,.inr ⟨hq0,_,y,cap',hcap,rfl,rfl⟩⟩⟩
      simp only [leS,chk_iff,leO,leT,getO,nodupB,List.map_cons,List.map_nil,weakO]
      exact ⟨by simp,⟨by simp,by simp [brow],trivial⟩,trivial⟩
end Go.Proofs.Ytoglbmhkfkghbaa
namespace Go.Proofs.Ytoglbmhkfkghbaa
open Go Go.Ab
abbrev stT (k x len cap:Nat) (l:List UInt8):St := ⟨[(k,x,.vec 1 len cap (brow l))],[]⟩
def _root_.Go.Ab.inlA (k:Nat) (ds:List D) (S:St) (R:AEnd→St→Prop):Prop :=
  match k with
  | 64 => match ds with
    | [.sl 1 0 _ .nil, .agg [.str p, .str q, .bool r]] => (r = true → q.length ≤ 1000000 ∧ p.length ≤ 1000000) ∧ ifB (okA [] p r)
        (ifB q.isEmpty (R (.ret (.tup [nilB,.bool true])) S) (∀ x cap,q.length ≤ cap→R (.ret (.tup [.vs (nextTag S.objs) x q.length cap 1,.bool true])) (S.new x (.vec 1 q.length cap (brow q)))))
        (R (.ret (.tup [nilB,.bool false])) S)
    | [.vs k x len cap 1, .agg [.str p, .str q, .bool r]] => ∃ st : List UInt8, (st.length = len ∧ len ≤ cap ∧ (r = true → st.length + q.length ≤ 1000000 ∧ p.length ≤ 1000000) ∧ leS ⟨[(k, x, .vec 1 len cap (brow st))], []⟩ S) ∧ ifB (okA st p r)
        (∀ x' cap',(newA st p q).length ≤ cap'→R (.ret (.tup [.vs k x' (newA st p q).length cap' 1,.bool true])) ((⟨[(k,x',.vec 1 (newA st p q).length cap' (brow (newA st p q)))],[]⟩:St).add (S.less ⟨[(k,x,.vec 1 len cap (brow st))],[]⟩)))
        (R (.ret (.tup [nilB,.bool false])) (S.less ⟨[(k,x,.vec 1 len cap (brow st))],[]⟩))
    | _ => False
  | _ => False
theorem StTo.pos {S S':St} (h:posS S S'):StTo S S' := fun _ _ _ H => H.pos h
theorem StTo.frame {S S':St} (h:StTo S S') (G:St):StTo (S.add G) (S'.add G) := fun C F w H => by
  rw [St.add_assoc] at H ⊢
  exact h C (G.add F) w H
theorem posO_refl:∀ (l:List (Nat × Nat × AObj)),posO l l
  | [] => trivial
  | (_,x,o) :: l => ⟨rfl,by cases o <;> simp [weakO,weakL_refl,chk_iff,kEq],posO_refl l⟩
theorem posT_refl:∀ (l:List (Nat × Nat)),posT l l
  | [] => trivial
  | (_,_x) :: l => ⟨rfl,posT_refl l⟩
theorem wEnd (d:D):weakEnd (.ret d) (.ret d) := weakD_refl d
theorem ifB_true {b:Bool} {X Y:Prop} (h:ifB b X Y) (hb:b = true):X := by subst hb; exact h
theorem ifB_false {b:Bool} {X Y:Prop} (h:ifB b X Y) (hb:b = false):Y := by subst hb; exact h
theorem inlA_ok (k:Nat) (ds:List D) (S:St) (R:AEnd→St→Prop) (h:inlA k ds S R):ACalls Try.prog k ds S R := by
  unfold inlA at h
  split at h
  · split at h
    · rename_i f p q r
      obtain ⟨h1,h3⟩ := h
      have hc := ((app_nil p q r h1).frame S).from (S := S) (fun C F w H => by simpa [St.add] using H)
      have hc := ACalls.weakArgs (ds := [.sl 1 0 f .nil,.agg [.str p,.str q,.bool r]]) hc ⟨by simp [nilB,weakD,chk_iff,weakM],weakL_refl _⟩
      refine hc.weaken ?_
      rintro e S2 ⟨S0,⟨S0',hs,hR⟩,rfl⟩
      rcases hR with ⟨ho,⟨hq,rfl,rfl⟩ | ⟨hq,k,x,cap,hcap,rfl,rfl⟩⟩ | ⟨ho,rfl,rfl⟩
      · subst hq
        exact ⟨_,S,wEnd _,fun C F w H => by simpa [St.add] using StTo.frame (S := S0) hs S C F w H,ifB_true (ifB_true h3 ho) rfl⟩
      · refine ⟨_,_,?_,(StTo.frame (S := S0) hs S).trans (StTo.pos (S' := S.new x (.vec 1 q.length cap (brow q))) ?_),ifB_false (ifB_true h3 ho) (by cases q <;> simp_all) x cap hcap⟩
        · simp [weakEnd,weakD,weakL,chk_iff]
        · exact ⟨⟨rfl,by simp [weakO,chk_iff],posO_refl _⟩,posT_refl _⟩
      · exact ⟨_,S,wEnd _,fun C F w H => by simpa [St.add] using StTo.frame (S := S0) hs S C F w H,ifB_false h3 ho⟩
    · rename_i k x len cap p q r
      obtain ⟨st,⟨h1,h2,h3,h5⟩,h6⟩ := h
      have hc := ((app_vs x len cap st p q r h1 h3 h2).frame (S.less (stT k x len cap st))).from (S := S) (fun C F w H => (StTo.frame (StTo.pos (S := stT k x len cap st) (S' := stT 0 x len cap st) ⟨⟨rfl,by simp [weakO,chk_iff],trivial⟩,trivial⟩) _) C F w (H.split h5))
      have hc := ACalls.weakArgs (ds := [.vs k x len cap 1,.agg [.str p,.str q,.bool r]]) hc ⟨by simp [weakD,chk_iff],weakL_refl _⟩
      refine hc.weaken ?_
      rintro e S2 ⟨S0,⟨S0',hs,hR⟩,rfl⟩
      rcases hR with ⟨ho,x',cap',hcap,rfl,rfl⟩ | ⟨ho,rfl,rfl⟩
      · refine ⟨_,_,?_,(StTo.frame (S := S0) hs _).trans (StTo.pos ?_),ifB_true h6 ho x' cap' hcap⟩
        · simp [weakEnd,weakD,weakL,chk_iff]
        · exact ⟨⟨rfl,by simp [weakO,chk_iff],posO_refl _⟩,posT_refl _⟩
      · exact ⟨_,S.less (stT k x len cap st),wEnd _,fun C F w H => by simpa [St.add] using StTo.frame (S := S0) hs _ C F w H,ifB_false h6 ho⟩
    · exact h.elim
  · exact h.elim
end Go.Proofs.Ytoglbmhkfkghbaa
namespace Go.Proofs.Ytoglbmhkfkghbaa
open Go Go.Ab
def intD:List D→Int
  | [.int _ z] => z
  | _ => 0
def intsD (n:Nat) (f:Nat→List D):List Int := (List.range n).map fun i => intD (f i)
theorem intsD_isl (l:List Int):intsD l.length (fun i => [D.int .i64 (l.getD i 0)]) = l := by
  apply List.ext_getElem
  · simp [intsD]
  · intro i h1 h2
    simp [intsD,intD,List.getD_eq_getElem?_getD,h2]
def IntsP (n:Nat) (f:Nat→List D):Prop := ∀ i,i < n→f i = [.int .i64 (intD (f i))]
theorem isl_weak {n:Nat} {f:Nat→List D} {m:Ab.Mode} (h:IntsP n f):weakL [.sl 1 n f m] [isl (intsD n f) .any] := by
  simp only [isl,weakL,weakD,chk_iff]
  refine ⟨⟨by simp,by simp [intsD],fun i hi => ?_,by simp [weakM]⟩,trivial⟩
  have e:(intsD n f).getD i 0 = intD (f i) := by simp [intsD,List.getD_eq_getElem?_getD,hi]
  rw [e]
  exact h i hi
def goO:List Int→Int→Option Int
  | [],p => some p
  | d :: r,p => if d < 0∨65536 < d then none else if d = 0 then goO r p else if 65536 < p * d then none else goO r (p * d)
def rightS (s:List Int):Bool := decide (s.length ≤ 8) && (goO s 1).isSome
def sizeS (s:List Int):Int := if s.contains 0 then 0 else (goO s 1).getD 0
structure GoHead (l:List Int) (i:Nat) (p:Int):Prop where
  hi:i ≤ l.length
  h1:1 ≤ p
  h2:p ≤ 65536
  hg:goO (l.drop i) p = goO l 1
theorem GoHead.init (l:List Int):GoHead l 0 1 := ⟨Nat.zero_le _,by omega,by omega,by simp⟩
theorem drop_stepI {l:List Int} {i:Nat} (h:i < l.length):l.drop i = l.getD i 0 :: l.drop (i + 1) := drop_step h
theorem GoHead.step {l : List Int} {i : Nat} {p : Int} (h : GoHead l i p) (hlt : i < l.length) :
    (l.getD i 0 < 0→goO l 1 = none)∧(65536 < l.getD i 0→goO l 1 = none)∧(l.getD i 0 = 0→GoHead l (i + 1) p) ∧
    (¬ l.getD i 0 < 0→¬ 65536 < l.getD i 0→0 ≤ p * l.getD i 0∧p * l.getD i 0 ≤ 4294967296∧(65536 < p * l.getD i 0→l.getD i 0 ≠ 0→goO l 1 = none)∧(¬ 65536 < p * l.getD i 0→l.getD i 0 ≠ 0→GoHead l (i + 1) (p * l.getD i 0))) := by
  have hg := h.hg
  rw [drop_stepI hlt,goO] at hg
  generalize l.getD i 0 = d at *
  refine ⟨fun h0 => ?_,fun h0 => ?_,fun h0 => ?_,fun h0 h3 => ?_⟩
  · rw [if_pos (.inl h0)] at hg; exact hg.symm
  · rw [if_pos (.inr h0)] at hg; exact hg.symm
  · subst h0
    simp at hg
    exact ⟨by omega,h.h1,h.h2,hg⟩
  · have b1:0 ≤ p * d := Int.mul_nonneg (by have := h.h1; omega) (by omega)
    have b2:p * d ≤ 65536 * 65536 := Int.mul_le_mul h.h2 (by omega) (by omega) (by omega)
    refine ⟨b1,by omega,fun h4 h5 => ?_,fun h4 h5 => ?_⟩
    · rw [if_neg (by omega),if_neg h5,if_pos h4] at hg; exact hg.symm
    · rw [if_neg (by omega),if_neg h5,if_neg h4] at hg
      refine ⟨by omega,?_,by omega,hg⟩
      have:0 < p * d := Int.mul_pos (by have := h.h1; omega) (by omega)
      omega
theorem GoHead.done {l:List Int} {i:Nat} {p:Int} (h:GoHead l i p) (hge:¬ (i:Int) < l.length):goO l 1 = some p := by
  have hg := h.hg
  have:i = l.length := by have := h.hi; omega
  rw [this,List.drop_length,goO] at hg
  exact hg.symm
noncomputable def Eright (l:List Int):Senv := { EC con0 31 1 [2,3,5,8,9,10,11,12,15,22,29] (fun _ => ([],[])) with
  ann := fun b _ _ => match b with
    | 0 => some { slots := [11,3],keep := [9,10],α := Nat × Int,st := fun y => ([.int .i64 y.1,.int .i64 y.2],⟨[],[]⟩),inv := fun y => GoHead l y.1 y.2,mu := fun y => l.length - y.1 }
    | _ => none }
noncomputable section
def shq0 (p0:List Int):Prop := True∧∃ (_y:Unit),True∧false = rightS p0∧True∧True
def shq1 (p0:List Int) (p1:Nat):Int := GI p0 (Int.toNat (↑p1:Int))
def shq2 (p0:List Int) (p1:Nat):Bool := bif decide (shq1 p0 p1 < Z0) then true else decide ((65536:Int) < shq1 p0 p1)
def shq3 (p0:List Int):D := SI p0
def shq4 (p0:List Int):Prop := SM (shq3 p0)∧SM (ZI (LI p0))∧True
end
theorem right_ok (l:List Int):ACalls Try.prog 78 [isl l .any] ⟨[],[]⟩ (SpecR (sC [isl l .any] (.bool (rightS l))) ()) := by
  refine con_of (A := sC _ _) (x := ()) (E := Eright l) (eOk con0_ok rfl) Try.func78 rfl (by kernel_rfl) rfl (by simp [sC,Eright,EC,E0]) ?_
  refine vc_eq (T :=
    ifB (decide ((8:Int) < (LI l))) (shq0 l) ((∃ (x:Nat × Int),GoHead l x.1 x.2∧(Z0 = (NI x.1)∧Z1 = x.2∧True)∧True∧True)∧∀ (x:Nat × Int),GoHead l x.1 x.2→ifB (decide ((NI x.1) < (LI l))) (side (Z0 ≤ (NI x.1)∧(NI x.1) < (LI l)) (ifB (decide (shq1 l x.1 < Z0)) (true = shq2 l x.1∧True) (decide ((65536:Int) < shq1 l x.1) = shq2 l x.1∧True)∧ifB (shq2 l x.1) (shq0 l) (ifB (shq1 l x.1 == Z0) (shq4 l∧∃ (y:Nat × Int),GoHead l y.1 y.2∧LN l - y.1 < LN l - x.1∧(IntKind.wrap IntKind.i64 ((NI x.1) + Z1) = (NI y.1)∧x.2 = y.2∧True)∧True∧True) (ifB (decide ((65536:Int) < IntKind.wrap IntKind.i64 (x.2 * shq1 l x.1))) (shq0 l) (shq4 l∧∃ (y:Nat × Int),GoHead l y.1 y.2∧LN l - y.1 < LN l - x.1∧(IntKind.wrap IntKind.i64 ((NI x.1) + Z1) = (NI y.1)∧IntKind.wrap IntKind.i64 (x.2 * shq1 l x.1) = y.2∧True)∧True∧True))))) (True∧∃ (y:Unit),True∧true = rightS l∧True∧True))) (by kernel_rfl) ?_
  delta GI LI LN N1 NI SI SM Z0 Z1 ZI shq0 shq1 shq2 shq3 shq4
  simp only [Int.toNat_natCast,ifB_iff,side_iff,decide_eq_true_eq,decide_eq_false_iff_not,true_and,and_true,beq_iff_eq,Bool.cond_true_left,beq_eq_false_iff_ne,ne_eq,exists_const]
  have no:goO l 1 = none→false = rightS l := fun h => by simp [rightS,h]
  refine ⟨fun h => ?_,fun h8 => ⟨⟨(0,1),GoHead.init l,rfl,rfl⟩,?_⟩⟩
  · have:¬ l.length ≤ 8 := by omega
    simp [rightS,this]
  rintro ⟨i,p⟩ hh
  simp only at hh ⊢
  refine ⟨fun hlt => ?_,fun hge => ?_⟩
  rotate_left
  · have:l.length ≤ 8 := by omega
    simp [rightS,hh.done hge,this]
  have hlt':i < l.length := by omega
  obtain ⟨s1,s2,s3,s4⟩ := hh.step hlt'
  refine ⟨by omega,⟨fun h => by rw [decide_eq_true h]; rfl,fun h => by rw [decide_eq_false h]; rfl⟩,fun h => no ?_,fun h => ?_⟩
  · rw [Bool.or_eq_true,decide_eq_true_eq,decide_eq_true_eq] at h
    exact h.elim s1 s2
  · rw [Bool.or_eq_false_iff,decide_eq_false_iff_not,decide_eq_false_iff_not] at h
    obtain ⟨b1,b2,s5,s6⟩ := s4 h.1 h.2
    have hw:IntKind.i64.wrap (p * l.getD i 0) = p * l.getD i 0 := wrap_i64' (by omega) (by omega)
    rw [hw]
    exact ⟨fun hd => ⟨(i + 1,p),s3 hd,by simp only; omega,wrap_i64' (by omega) (by omega),rfl⟩,fun hd => ⟨fun h4 => no (s5 h4 hd),fun h4 => ⟨(i + 1,p * l.getD i 0),s6 h4 hd,by simp only; omega,wrap_i64' (by omega) (by omega),rfl⟩⟩⟩
noncomputable def Erright (l:List Int):Senv := { EC con0 39 1 [2,3,4,7,11,25,30,38] (fun _ => ([],[])) with
  ann := fun b _ _ => match b with
    | 0 => some { slots := [4,3],keep := [0],α := Nat × Int,st := fun y => ([.int .i64 y.1,.int .i64 y.2],⟨[],[]⟩),inv := fun y => GoHead l y.1 y.2,mu := fun y => l.length - y.1 }
    | _ => none }
noncomputable section
def shq5 (p0:List Int):Prop := True∧∃ (_y:Unit),True∧false = rightS p0∧True∧True
def shq6 (p0:List Int) (p1:Nat):Int := GI p0 (Int.toNat (↑p1:Int))
def shq7 (p0:List Int) (p1:Nat):Bool := bif decide (shq6 p0 p1 < Z0) then true else decide ((65536:Int) < shq6 p0 p1)
def shq8 (p0:List Int):D := SI p0
def shq9 (p0:List Int):Prop := SM (shq8 p0)∧True
end
theorem rright_ok (l:List Int):ACalls Try.prog 74 [isl l .any] ⟨[],[]⟩ (SpecR (sC [isl l .any] (.bool (rightS l))) ()) := by
  refine con_of (A := sC _ _) (x := ()) (E := Erright l) (eOk con0_ok rfl) Try.func74 rfl (by kernel_rfl) rfl (by simp [sC,Erright,EC,E0]) ?_
  refine vc_eq (T :=
    ifB (decide ((8:Int) < (LI l))) (shq5 l) ((∃ (x:Nat × Int),GoHead l x.1 x.2∧(Z0 = (NI x.1)∧Z1 = x.2∧True)∧True∧True)∧∀ (x:Nat × Int),GoHead l x.1 x.2→ifB (decide ((NI x.1) < (LI l))) (side (Z0 ≤ (NI x.1)∧(NI x.1) < (LI l)) (ifB (decide (shq6 l x.1 < Z0)) (true = shq7 l x.1∧True) (side (Z0 ≤ (NI x.1)∧(NI x.1) < (LI l)) (decide ((65536:Int) < shq6 l x.1) = shq7 l x.1∧True)))∧ifB (shq7 l x.1) (shq5 l) (side (Z0 ≤ (NI x.1)∧(NI x.1) < (LI l)) (ifB (decide (Z0 < shq6 l x.1)) (side (Z0 ≤ (NI x.1)∧(NI x.1) < (LI l)) (ifB (decide ((65536:Int) < IntKind.wrap IntKind.i64 (x.2 * shq6 l x.1))) (shq5 l) (shq9 l∧∃ (y:Nat × Int),GoHead l y.1 y.2∧LN l - y.1 < LN l - x.1∧(IntKind.wrap IntKind.i64 ((NI x.1) + Z1) = (NI y.1)∧IntKind.wrap IntKind.i64 (x.2 * shq6 l x.1) = y.2∧True)∧True∧True))) (ifB (decide ((65536:Int) < x.2)) (shq5 l) (shq9 l∧∃ (y:Nat × Int),GoHead l y.1 y.2∧LN l - y.1 < LN l - x.1∧(IntKind.wrap IntKind.i64 ((NI x.1) + Z1) = (NI y.1)∧x.2 = y.2∧True)∧True∧True))))) (True∧∃ (y:Unit),True∧true = rightS l∧True∧True))) (by kernel_rfl) ?_
  delta GI LI LN N1 NI SI SM Z0 Z1 ZI shq5 shq6 shq7 shq8 shq9
  simp only [Int.toNat_natCast,ifB_iff,side_iff,decide_eq_true_eq,decide_eq_false_iff_not,true_and,and_true,Bool.cond_true_left,exists_const]
  have no:goO l 1 = none→false = rightS l := fun h => by simp [rightS,h]
  refine ⟨fun h => ?_,fun h8 => ⟨⟨(0,1),GoHead.init l,rfl,rfl⟩,?_⟩⟩
  · have:¬ l.length ≤ 8 := by omega
    simp [rightS,this]
  rintro ⟨i,p⟩ hh
  simp only at hh ⊢
  refine ⟨fun hlt => ?_,fun hge => ?_⟩
  rotate_left
  · have:l.length ≤ 8 := by omega
    simp [rightS,hh.done hge,this]
  have hlt':i < l.length := by omega
  obtain ⟨s1,s2,s3,s4⟩ := hh.step hlt'
  refine ⟨⟨by omega,fun h => by rw [decide_eq_true h]; rfl,fun h => ⟨by omega,by rw [decide_eq_false h]; rfl⟩⟩,fun h => no ?_,fun h => ⟨by omega,?_⟩⟩
  · rw [Bool.or_eq_true,decide_eq_true_eq,decide_eq_true_eq] at h
    exact h.elim s1 s2
  · rw [Bool.or_eq_false_iff,decide_eq_false_iff_not,decide_eq_false_iff_not] at h
    obtain ⟨b1,b2,s5,s6⟩ := s4 h.1 h.2
    have hw:IntKind.i64.wrap (p * l.getD i 0) = p * l.getD i 0 := wrap_i64' (by omega) (by omega)
    rw [hw]
    refine ⟨fun hd => ⟨by omega,fun h4 => no (s5 h4 (by omega)),fun h4 => ⟨(i + 1,p * l.getD i 0),s6 h4 (by omega),by simp only; omega,wrap_i64' (by omega) (by omega),rfl⟩⟩,fun hd => ⟨fun h4 => absurd h4 (by have := hh.h2; omega),fun _ => ⟨(i + 1,p),s3 (by omega),by simp only; omega,wrap_i64' (by omega) (by omega),rfl⟩⟩⟩
noncomputable def Erprod (l:List Int):Senv := { EC con0 30 1 [2,3,4,8,15,20,28] (fun _ => ([],[])) with
  ann := fun b _ _ => match b with
    | 0 => some { slots := [4,3],keep := [0],α := Nat × Int,st := fun y => ([.int .i64 y.1,.int .i64 y.2],⟨[],[]⟩),inv := fun y => GoHead l y.1 y.2,mu := fun y => l.length - y.1 }
    | _ => none }
noncomputable section
def shq10 (p0:List Int):Prop := True∧∃ (_y:Unit),True∧(65537:Int) = Option.getD (goO p0 Z1) (65537:Int)∧True∧True
def shq11 (p0:List Int):D := SI p0
def shq12 (p0:List Int):Prop := SM (shq11 p0)∧True
end
theorem rprod_ok (l:List Int) (h0:∀ z ∈ l,0 ≤ z) (hl:l.length ≤ maxLen):ACalls Try.prog 95 [isl l .any] ⟨[],[]⟩ (SpecR (sC [isl l .any] (.int .i64 ((goO l 1).getD 65537))) ()) := by
  refine con_of (A := sC _ _) (x := ()) (E := Erprod l) (eOk con0_ok rfl) Try.func95 rfl (by kernel_rfl) rfl (by simp [sC,Erprod,EC,E0]) ?_
  refine vc_eq (T :=
    (∃ (x:Nat × Int),GoHead l x.1 x.2∧(Z0 = (NI x.1)∧Z1 = x.2∧True)∧True∧True)∧∀ (x:Nat × Int),GoHead l x.1 x.2→ifB (decide ((NI x.1) < (LI l))) (side (Z0 ≤ (NI x.1)∧(NI x.1) < (LI l)) (ifB (decide ((65536:Int) < GI l (TN x.1))) (shq10 l) (side (Z0 ≤ (NI x.1)∧(NI x.1) < (LI l)) (ifB (decide (Z0 < GI l (TN x.1))) (side (Z0 ≤ (NI x.1)∧(NI x.1) < (LI l)) (ifB (decide ((65536:Int) < IntKind.wrap IntKind.i64 (x.2 * GI l (TN x.1)))) (shq10 l) (shq12 l∧∃ (y:Nat × Int),GoHead l y.1 y.2∧LN l - y.1 < LN l - x.1∧(IntKind.wrap IntKind.i64 ((NI x.1) + Z1) = (NI y.1)∧IntKind.wrap IntKind.i64 (x.2 * GI l (TN x.1)) = y.2∧True)∧True∧True))) (ifB (decide ((65536:Int) < x.2)) (shq10 l) (shq12 l∧∃ (y:Nat × Int),GoHead l y.1 y.2∧LN l - y.1 < LN l - x.1∧(IntKind.wrap IntKind.i64 ((NI x.1) + Z1) = (NI y.1)∧x.2 = y.2∧True)∧True∧True)))))) (True∧∃ (y:Unit),True∧x.2 = Option.getD (goO l Z1) (65537:Int)∧True∧True)) (by kernel_rfl) ?_
  delta GI LI LN N1 NI SI SM TN Z0 Z1 ZI shq10 shq11 shq12
  simp only [Int.toNat_natCast,ifB_iff,side_iff,decide_eq_true_eq,decide_eq_false_iff_not,true_and,and_true,exists_const]
  have no:goO l 1 = none→(65537:Int) = (goO l 1).getD 65537 := fun h => by simp [h]
  refine ⟨⟨(0,1),GoHead.init l,rfl,rfl⟩,?_⟩
  rintro ⟨i,p⟩ hh
  simp only at hh ⊢
  refine ⟨fun hlt => ?_,fun hge => by simp [hh.done hge]⟩
  have hlt':i < l.length := by omega
  obtain ⟨s1,s2,s3,s4⟩ := hh.step hlt'
  have hd0:0 ≤ l.getD i 0 := h0 _ (by rw [List.getD_eq_getElem?_getD,List.getElem?_eq_getElem hlt']; exact List.getElem_mem hlt')
  simp only [maxLen] at hl
  refine ⟨by omega,fun h => no (s2 h),fun h => ⟨by omega,?_⟩⟩
  obtain ⟨b1,b2,s5,s6⟩ := s4 (by omega) h
  have hw:IntKind.i64.wrap (p * l.getD i 0) = p * l.getD i 0 := wrap_i64' (by omega) (by omega)
  rw [hw]
  refine ⟨fun hd => ⟨by omega,fun h4 => no (s5 h4 (by omega)),fun h4 => ⟨(i + 1,p * l.getD i 0),s6 h4 (by omega),by simp only; omega,wrap_i64' (by omega) (by omega),rfl⟩⟩,fun hd => ⟨fun h4 => absurd h4 (by have := hh.h2; omega),fun _ => ⟨(i + 1,p),s3 (by omega),by simp only; omega,wrap_i64' (by omega) (by omega),rfl⟩⟩⟩
end Go.Proofs.Ytoglbmhkfkghbaa
namespace Go.Proofs.Ytoglbmhkfkghbaa
open Go Go.Ab
def idxB (p:Int→Bool):List Int→Nat→Int
  | [],_ => -1
  | d :: r,i => if p d then (i:Int) else idxB p r (i + 1)
theorem idxB_any (p:Int→Bool):∀ (l:List Int) (i:Nat),decide (0 ≤ idxB p l i) = l.any p
  | [],i => rfl
  | d :: r,i => by
    rw [idxB,List.any_cons]
    split
    · rename_i h; rw [h]; simp
    · rename_i h
      rw [idxB_any p r (i + 1)]
      simp [h]
structure IdxHead (p:Int→Bool) (l:List Int) (i:Nat):Prop where
  hi:i ≤ l.length
  hg:idxB p (l.drop i) i = idxB p l 0
theorem IdxHead.step {p:Int→Bool} {l:List Int} {i:Nat} (h:IdxHead p l i) (hlt:i < l.length):(p (l.getD i 0) = true→idxB p l 0 = i)∧(p (l.getD i 0) = false→IdxHead p l (i + 1)) := by
  have hg := h.hg
  rw [drop_stepI hlt,idxB] at hg
  refine ⟨fun e => ?_,fun e => ?_⟩
  · rw [if_pos e] at hg; exact hg.symm
  · rw [if_neg (by rw [e]; exact Bool.false_ne_true)] at hg; exact ⟨by omega,hg⟩
theorem IdxHead.done {p:Int→Bool} {l:List Int} {i:Nat} (h:IdxHead p l i) (hge:¬ (i:Int) < l.length):idxB p l 0 = -1 := by
  have hg := h.hg
  have:i = l.length := by have := h.hi; omega
  rw [this,List.drop_length,idxB] at hg
  exact hg.symm
def annI (p:Int→Bool) (l:List Int) (keep:List Nat):LoopAnn := { slots := [8],keep := keep,α := Nat,st := fun i => ([.int .i64 i],⟨[],[]⟩),inv := fun i => IdxHead p l i,mu := fun i => l.length - i }
noncomputable def Eidx (l:List Int) (v:Int):Senv := { EC con0 19 2 [4,5,7,8,9,16] (fun _ => ([],[])) with
  ann := fun b _ _ => match b with
    | 0 => some (annI (fun d => v == d) l [0,1,6,7])
    | _ => none }
noncomputable section
def sh2q0 (p0:Int) (p1:List Int) (p2:Nat):Prop := IdxHead (fun (d:Int) => p0 == d) p1 p2
def sh2q1 (p0:List Int):D := SI p0
end
theorem idx_ok (l:List Int) (v:Int) (hl:l.length ≤ maxLen):ACalls Try.prog 103 [isl l .any,.int .i64 v] ⟨[],[]⟩ (SpecR (sC [isl l .any,.int .i64 v] (.int .i64 (idxB (fun d => v == d) l 0))) ()) := by
  refine con_of (A := sC _ _) (x := ()) (E := Eidx l v) (eOk con0_ok rfl) Try.func103 rfl (by kernel_rfl) rfl (by simp [sC,Eidx,EC,E0]) ?_
  refine vc_eq (T :=
    (∃ (x:Nat),sh2q0 v l x∧(Z0 = (↑x:Int)∧True)∧True∧True)∧∀ (x:Nat),sh2q0 v l x→ifB (decide ((↑x:Int) < (LI l))) (side (Z0 ≤ (↑x:Int)∧(↑x:Int) < (LI l)) (ifB (v == GI l (Int.toNat (↑x:Int))) (True∧∃ (y:Unit),True∧(↑x:Int) = idxB (fun (d:Int) => v == d) l N0∧True∧True) ((SM (sh2q1 l)∧SM (ZI v)∧SM D.unk∧SM (ZI (LI l))∧True)∧∃ (y:Nat),sh2q0 v l y∧LN l - y < LN l - x∧(IntKind.wrap IntKind.i64 ((↑x:Int) + Z1) = (↑y:Int)∧True)∧True∧True))) (True∧∃ (y:Unit),True∧(-1:Int) = idxB (fun (d:Int) => v == d) l N0∧True∧True)) (by kernel_rfl) ?_
  delta GI LI LN N0 N1 SI SM Z0 Z1 ZI sh2q0 sh2q1
  simp only [Int.toNat_natCast,ifB_iff,side_iff,decide_eq_true_eq,decide_eq_false_iff_not,true_and,and_true,exists_const]
  simp only [maxLen] at hl
  refine ⟨⟨0,⟨Nat.zero_le _,by simp⟩,rfl⟩,fun i hh => ⟨fun hlt => ?_,fun hge => (hh.done hge).symm⟩⟩
  have hlt':i < l.length := by omega
  obtain ⟨s1,s2⟩ := hh.step hlt'
  exact ⟨by omega,fun h => (s1 h).symm,fun h => ⟨i + 1,s2 h,by omega,wrap_i64' (by omega) (by omega)⟩⟩
noncomputable def Eneg (l:List Int):Senv := { EC con0 19 2 [4,5,7,8,9,16] (fun _ => ([],[])) with
  ann := fun b _ _ => match b with
    | 0 => some (annI (fun d => decide (d < 0)) l [0,1,6,7])
    | _ => none }
noncomputable section
def sh2q2 (p0:List Int) (p1:Nat):Prop := IdxHead (fun (d:Int) => decide (d < Z0)) p0 p1
def sh2q3 (p0:List Int):Int := idxB (fun (d:Int) => decide (d < Z0)) p0 N0
def sh2q4 (p0:List Int):D := SI p0
end
theorem neg_ok (l:List Int) (hl:l.length ≤ maxLen):ACalls Try.prog 92 [isl l .any,.fn (.func 77) [] []] ⟨[],[]⟩ (SpecR (sC [isl l .any,.fn (.func 77) [] []] (.int .i64 (idxB (fun d => decide (d < 0)) l 0))) ()) := by
  refine con_of (A := sC _ _) (x := ()) (E := Eneg l) (eOk con0_ok rfl) Try.func92 rfl (by kernel_rfl) rfl (by simp [sC,Eneg,EC,E0]) ?_
  refine vc_eq (T :=
    (∃ (x:Nat),sh2q2 l x∧(Z0 = (↑x:Int)∧True)∧True∧True)∧∀ (x:Nat),sh2q2 l x→ifB (decide ((↑x:Int) < (LI l))) (side (Z0 ≤ (↑x:Int)∧(↑x:Int) < (LI l)) (True∧ifB (decide (GI l (Int.toNat (↑x:Int)) < Z0)) (True∧∃ (y:Unit),True∧(↑x:Int) = sh2q3 l∧True∧True) ((SM (sh2q4 l)∧SM (D.fn (Fn.func (77:Nat)) [] [])∧SM D.unk∧SM (ZI (LI l))∧True)∧∃ (y:Nat),sh2q2 l y∧LN l - y < LN l - x∧(IntKind.wrap IntKind.i64 ((↑x:Int) + Z1) = (↑y:Int)∧True)∧True∧True))) (True∧∃ (y:Unit),True∧(-1:Int) = sh2q3 l∧True∧True)) (by kernel_rfl) ?_
  delta GI LI LN N0 N1 SI SM Z0 Z1 ZI sh2q2 sh2q3 sh2q4
  simp only [Int.toNat_natCast,ifB_iff,side_iff,decide_eq_true_eq,decide_eq_false_iff_not,true_and,and_true,exists_const]
  simp only [maxLen] at hl
  refine ⟨⟨0,⟨Nat.zero_le _,by simp⟩,rfl⟩,fun i hh => ⟨fun hlt => ?_,fun hge => (hh.done hge).symm⟩⟩
  have hlt':i < l.length := by omega
  obtain ⟨s1,s2⟩ := hh.step hlt'
  exact ⟨by omega,fun h => (s1 (decide_eq_true h)).symm,fun h => ⟨i + 1,s2 (decide_eq_false h),by omega,wrap_i64' (by omega) (by omega)⟩⟩
theorem intsP_isl (l:List Int):IntsP l.length (fun i => [D.int .i64 (l.getD i 0)]) := fun _ _ => rfl
def conSh:Con := fun k ds S => match k with
  | 103 => match ds with
    | [.sl 1 n f _,.int .i64 v] => some (pC ds (.int .i64 (idxB (fun d => v == d) (intsD n f) 0)) (IntsP n f∧n ≤ maxLen))
    | _ => none
  | 92 => match ds with
    | [.sl 1 n f _,.fn (.func 77) [] []] => some (pC ds (.int .i64 (idxB (fun d => decide (d < 0)) (intsD n f) 0)) (IntsP n f∧n ≤ maxLen))
    | _ => none
  | 78 => match ds with
    | [.sl 1 n f _] => some (pC ds (.bool (rightS (intsD n f))) (IntsP n f))
    | _ => none
  | 74 => match ds with
    | [.sl 1 n f _] => some (pC ds (.bool (rightS (intsD n f))) (IntsP n f))
    | _ => none
  | 95 => match ds with
    | [.sl 1 n f _] => some (pC ds (.int .i64 ((goO (intsD n f) 1).getD 65537)) (IntsP n f∧(∀ z ∈ intsD n f,0 ≤ z)∧n ≤ maxLen))
    | _ => none
  | k => conR2 k ds S
theorem intsD_len (n:Nat) (f:Nat→List D):(intsD n f).length = n := by simp [intsD]
theorem sC_weak {k:Nat} {ds us:List D} {d:D} (hw:weakL ds us) (h:ACalls Try.prog k us ⟨[],[]⟩ (SpecR (sC us d) ())):ACalls Try.prog k ds ⟨[],[]⟩ (SpecR (sC ds d) ()) :=
  (ACalls.weakArgs h hw).mono fun _ _ ⟨_,_h1,h2,h3⟩ => ⟨(),trivial,h2,h3⟩
theorem conSh_ok:ConOk Try.prog conSh := by
  intro k ds S A h
  unfold conSh at h
  split at h
  · split at h
    · injection h with h; subst h
      exact pC_ok fun ⟨h1,h2⟩ => ⟨weakL_refl _,sC_weak (us := [isl (intsD _ _) .any,_]) ⟨(isl_weak h1).1,weakD_refl _,trivial⟩ (idx_ok _ _ (by rw [intsD_len]; exact h2))⟩
    · cases h
  · split at h
    · injection h with h; subst h
      exact pC_ok fun ⟨h1,h2⟩ => ⟨weakL_refl _,sC_weak (us := [isl (intsD _ _) .any,_]) ⟨(isl_weak h1).1,weakD_refl _,trivial⟩ (neg_ok _ (by rw [intsD_len]; exact h2))⟩
    · cases h
  · split at h
    · injection h with h; subst h
      exact pC_ok fun h1 => ⟨weakL_refl _,sC_weak (isl_weak h1) (right_ok _)⟩
    · cases h
  · split at h
    · injection h with h; subst h
      exact pC_ok fun h1 => ⟨weakL_refl _,sC_weak (isl_weak h1) (rright_ok _)⟩
    · cases h
  · split at h
    · injection h with h; subst h
      exact pC_ok fun ⟨h1,h2,h3⟩ => ⟨weakL_refl _,sC_weak (isl_weak h1) (rprod_ok _ h2 (by rw [intsD_len]; exact h3))⟩
    · cases h
  · exact conR2_ok _ _ _ _ h
noncomputable def Eprod (l:List Int):Senv := { EC conSh 19 1 [2,3,5,7,8,9,10,11] (fun _ => ([],[])) with
  ann := fun b _ _ => match b with
    | 0 => some { slots := [10,3],keep := [8,9],α := Nat × Int,st := fun y => ([.int .i64 y.1,.int .i64 y.2],⟨[],[]⟩),inv := fun y => GoHead l y.1 y.2,mu := fun y => l.length - y.1 }
    | _ => none }
noncomputable section
def sh2q5 (p0:List Int):D := SI p0
end
theorem prod_ok (l:List Int) (h:rightS l = true):ACalls Try.prog 93 [isl l .any] ⟨[],[]⟩ (SpecR (sC [isl l .any] (.int .i64 (sizeS l))) ()) := by
  refine con_of (A := sC _ _) (x := ()) (E := Eprod l) (eOk conSh_ok rfl) Try.func93 rfl (by kernel_rfl) rfl (by simp [sC,Eprod,EC,E0]) ?_
  refine vc_eq (T :=
    ((IntsP (LN l) fun (i:Nat) => [ZI (GI l i)])∧LN l ≤ (9223372036854775807:Nat))∧∀ (y:Unit),True→True∧ifB (decide (Z0 ≤ idxB (fun (d:Int) => Z0 == d) (intsD (LN l) fun (i:Nat) => [ZI (GI l i)]) N0)) (True∧∃ (y:Unit),True∧Z0 = sizeS l∧True∧True) ((∃ (x:Nat × Int),GoHead l x.1 x.2∧(Z0 = (NI x.1)∧Z1 = x.2∧True)∧True∧True)∧∀ (x:Nat × Int),GoHead l x.1 x.2→ifB (decide ((NI x.1) < (LI l))) (side (Z0 ≤ (NI x.1)∧(NI x.1) < (LI l)) ((SM (sh2q5 l)∧SM (ZI (LI l))∧True)∧∃ (y:Nat × Int),GoHead l y.1 y.2∧LN l - y.1 < LN l - x.1∧(IntKind.wrap IntKind.i64 ((NI x.1) + Z1) = (NI y.1)∧IntKind.wrap IntKind.i64 (x.2 * GI l (TN x.1)) = y.2∧True)∧True∧True)) (True∧∃ (y:Unit),True∧x.2 = sizeS l∧True∧True))) (by kernel_rfl) ?_
  delta GI LI LN N0 N1 NI SI SM TN Z0 Z1 ZI sh2q5
  simp only [intsD_isl,idxB_any,Int.toNat_natCast,ifB_iff,side_iff,decide_eq_true_eq,decide_eq_false_iff_not,true_and,and_true,exists_const]
  simp only [rightS,Bool.and_eq_true,decide_eq_true_eq] at h
  have hcon:(l.any fun d => 0 == d) = l.contains 0 := by
    rw [Bool.eq_iff_iff,List.contains_iff_mem,List.any_eq_true]
    constructor
    · rintro ⟨z,hz,e⟩
      have e:0 = z := by simpa using e
      rw [e]; exact hz
    · exact fun hm => ⟨0,hm,rfl⟩
  rw [hcon]
  refine ⟨⟨intsP_isl l,by omega⟩,fun _ _ => ⟨fun hz => by rw [sizeS,if_pos hz],fun hz => ⟨⟨(0,1),GoHead.init l,rfl,rfl⟩,?_⟩⟩⟩
  rintro ⟨i,p⟩ hh
  simp only at hh ⊢
  refine ⟨fun hlt => ?_,fun hge => by rw [sizeS,if_neg (by rw [hz]; exact Bool.false_ne_true),hh.done hge]; rfl⟩
  have hlt':i < l.length := by omega
  obtain ⟨s1,s2,s3,s4⟩ := hh.step hlt'
  have hne:l.getD i 0 ≠ 0 := by
    intro e
    have:l.contains 0 = true := by
      rw [List.contains_iff_mem,← e,List.getD_eq_getElem?_getD,List.getElem?_eq_getElem hlt']; exact List.getElem_mem hlt'
    rw [this] at hz; cases hz
  have n1:¬ l.getD i 0 < 0 := fun e => by rw [s1 e] at h; exact absurd h.2 (by simp)
  have n2:¬ 65536 < l.getD i 0 := fun e => by rw [s2 e] at h; exact absurd h.2 (by simp)
  obtain ⟨b1,b2,s5,s6⟩ := s4 n1 n2
  have n3:¬ 65536 < p * l.getD i 0 := fun e => by rw [s5 e hne] at h; exact absurd h.2 (by simp)
  exact ⟨by omega,(i + 1,p * l.getD i 0),s6 n3 hne,by simp only; omega,wrap_i64' (by omega) (by omega),wrap_i64' (by omega) (by omega)⟩
noncomputable def Edims (l:List Int):Senv := { EC conSh 21 1 [2,3,6,10,17,20] (fun _ => ([],[])) with
  ann := fun b _ _ => match b with
    | 0 => some { slots := [3],keep := [0],α := Nat,st := fun i => ([.int .i64 i],⟨[],[]⟩),inv := fun i => i ≤ l.length∧∀ z ∈ l.take i,0 ≤ z,mu := fun i => l.length - i }
    | _ => none }
theorem goO_le:∀ (l:List Int) (p:Int),p ≤ 65536→∀ q,goO l p = some q→q ≤ 65536
  | [],p,hp,q,h => by rw [goO] at h; injection h with h; omega
  | d :: r,p,hp,q,h => by
    rw [goO] at h
    split at h
    · cases h
    · split at h
      · exact goO_le r p hp q h
      · split at h
        · cases h
        · exact goO_le r _ (by omega) q h
def dimsS (s:List Int):Int := if 8 < s.length then 15 else if s.any (fun d => decide (d < 0)) then 16 else if (goO s 1).isSome then 0 else 21
noncomputable section
def sh2q6 (p0:List Int):Int := dimsS p0
def sh2q7 (p0:Nat) (p1:List Int):Prop := p0 ≤ LN p1∧∀ (z:Int),z ∈ List.take p0 p1→Z0 ≤ z
def sh2q8 (p0:List Int):D := SI p0
def sh2q9 (p0:List Int):List Int := intsD (LN p0) fun (i:Nat) => [ZI (GI p0 i)]
end
theorem dims_ok (l:List Int):ACalls Try.prog 83 [isl l .any] ⟨[],[]⟩ (SpecR (sC [isl l .any] (.int .i64 (dimsS l))) ()) := by
  refine con_of (A := sC _ _) (x := ()) (E := Edims l) (eOk conSh_ok rfl) Try.func83 rfl (by kernel_rfl) rfl (by simp [sC,Edims,EC,E0]) ?_
  refine vc_eq (T :=
    ifB (decide ((8:Int) < (LI l))) (True∧∃ (y:Unit),True∧(15:Int) = sh2q6 l∧True∧True) ((∃ (x:Nat),sh2q7 x l∧(Z0 = (↑x:Int)∧True)∧True∧True)∧∀ (x:Nat),sh2q7 x l→ifB (decide ((↑x:Int) < (LI l))) (side (Z0 ≤ (↑x:Int)∧(↑x:Int) < (LI l)) (ifB (decide (GI l (Int.toNat (↑x:Int)) < Z0)) (True∧∃ (y:Unit),True∧(16:Int) = sh2q6 l∧True∧True) ((SM (sh2q8 l)∧True)∧∃ (y:Nat),sh2q7 y l∧LN l - y < LN l - x∧(IntKind.wrap IntKind.i64 ((↑x:Int) + Z1) = (↑y:Int)∧True)∧True∧True))) (((IntsP (LN l) fun (i:Nat) => [ZI (GI l i)])∧(∀ (z:Int),z ∈ sh2q9 l→Z0 ≤ z)∧LN l ≤ (9223372036854775807:Nat))∧∀ (y:Unit),True→ifB (decide ((65536:Int) < Option.getD (goO (sh2q9 l) Z1) (65537:Int))) (True∧∃ (y:Unit),True∧(21:Int) = sh2q6 l∧True∧True) (True∧∃ (y:Unit),True∧Z0 = sh2q6 l∧True∧True)))) (by kernel_rfl) ?_
  delta GI LI LN N1 SI SM Z0 Z1 ZI sh2q6 sh2q7 sh2q8 sh2q9
  simp only [intsD_isl,Int.toNat_natCast,ifB_iff,side_iff,decide_eq_true_eq,decide_eq_false_iff_not,true_and,and_true,exists_const]
  have tk:∀ i,i < l.length→∀ P:Int→Prop,(∀ z ∈ l.take i,P z)→P (l.getD i 0)→∀ z ∈ l.take (i + 1),P z := fun i hi P h1 h2 z hz => by
    rw [List.take_add_one,List.mem_append] at hz
    rcases hz with hz | hz
    · exact h1 z hz
    · rw [List.getElem?_eq_getElem hi] at hz
      simp at hz
      rw [hz]
      simpa [List.getD_eq_getElem?_getD,hi] using h2
  refine ⟨fun h => ?_,fun h8 => ⟨⟨0,⟨Nat.zero_le _,by simp⟩,rfl⟩,fun i hh => ⟨fun hlt => ?_,fun hge => ?_⟩⟩⟩
  · have:8 < l.length := by omega
    simp [dimsS,this]
  · have hlt':i < l.length := by omega
    have h8':¬ 8 < l.length := by omega
    refine ⟨by omega,fun h => ?_,fun h => ⟨i + 1,⟨by omega,tk i hlt' _ hh.2 (by omega)⟩,by omega,wrap_i64' (by omega) (by omega)⟩⟩
    have:l.any (fun d => decide (d < 0)) = true := by
      rw [List.any_eq_true]
      refine ⟨l.getD i 0,?_,decide_eq_true h⟩
      rw [List.getD_eq_getElem?_getD,List.getElem?_eq_getElem hlt']; exact List.getElem_mem hlt'
    rw [dimsS,if_neg h8',if_pos this]
  · have hi:i = l.length := by omega
    rw [hi,List.take_length] at hh
    have h8':¬ 8 < l.length := by omega
    have hnn:¬ l.any (fun d => decide (d < 0)) = true := by
      rw [List.any_eq_true]
      rintro ⟨z,hz,h⟩
      have := hh.2 z hz
      simp at h
      omega
    refine ⟨⟨intsP_isl l,hh.2,by omega⟩,fun _ _ => ?_⟩
    rw [dimsS,if_neg h8',if_neg hnn]
    have hb := goO_le l 1 (by omega)
    cases hg:goO l 1 with
    | none => simp
    | some p => have := hb p hg; simp; omega
noncomputable def Ecount (l:List Int):Senv := { EC conSh 17 1 [2,3,7,14] (fun _ => ([],[])) with
  ann := fun b _ _ => match b with
    | 0 => some { slots := [3],keep := [0],α := Nat,st := fun i => ([.int .i64 i],⟨[],[]⟩),inv := fun i => i ≤ l.length∧∀ z ∈ l.take i,z ≠ 0,mu := fun i => l.length - i }
    | _ => none }
noncomputable section
def sh2q10 (p0:Nat) (p1:List Int):Prop := p0 ≤ LN p1∧∀ (z:Int),z ∈ List.take p0 p1→z ≠ Z0
def sh2q11 (p0:List Int):D := SI p0
def sh2q12 (p0:List Int):List Int := intsD (LN p0) fun (i:Nat) => [ZI (GI p0 i)]
end
theorem count_ok (l:List Int) (h:dimsS l = 0):ACalls Try.prog 85 [isl l .any] ⟨[],[]⟩ (SpecR (sC [isl l .any] (.int .i64 (sizeS l))) ()) := by
  refine con_of (A := sC _ _) (x := ()) (E := Ecount l) (eOk conSh_ok rfl) Try.func85 rfl (by kernel_rfl) rfl (by simp [sC,Ecount,EC,E0]) ?_
  refine vc_eq (T :=
    (∃ (x:Nat),sh2q10 x l∧(Z0 = (↑x:Int)∧True)∧True∧True)∧∀ (x:Nat),sh2q10 x l→ifB (decide ((↑x:Int) < (LI l))) (side (Z0 ≤ (↑x:Int)∧(↑x:Int) < (LI l)) (ifB (GI l (Int.toNat (↑x:Int)) == Z0) (True∧∃ (y:Unit),True∧Z0 = sizeS l∧True∧True) ((SM (sh2q11 l)∧True)∧∃ (y:Nat),sh2q10 y l∧LN l - y < LN l - x∧(IntKind.wrap IntKind.i64 ((↑x:Int) + Z1) = (↑y:Int)∧True)∧True∧True))) (((IntsP (LN l) fun (i:Nat) => [ZI (GI l i)])∧(∀ (z:Int),z ∈ sh2q12 l→Z0 ≤ z)∧LN l ≤ (9223372036854775807:Nat))∧∀ (y:Unit),True→True∧∃ (y:Unit),True∧Option.getD (goO (sh2q12 l) Z1) (65537:Int) = sizeS l∧True∧True)) (by kernel_rfl) ?_
  delta GI LI LN N1 SI SM Z0 Z1 ZI sh2q10 sh2q11 sh2q12
  simp only [intsD_isl,Int.toNat_natCast,ifB_iff,side_iff,decide_eq_true_eq,decide_eq_false_iff_not,true_and,and_true,exists_const]
  have tk:∀ i,i < l.length→∀ P:Int→Prop,(∀ z ∈ l.take i,P z)→P (l.getD i 0)→∀ z ∈ l.take (i + 1),P z := fun i hi P h1 h2 z hz => by
    rw [List.take_add_one,List.mem_append] at hz
    rcases hz with hz | hz
    · exact h1 z hz
    · rw [List.getElem?_eq_getElem hi] at hz
      simp at hz
      rw [hz]
      simpa [List.getD_eq_getElem?_getD,hi] using h2
  have hl8:l.length ≤ 8 := by
    unfold dimsS at h
    split at h
    · cases h
    · omega
  have hnn:∀ z ∈ l,0 ≤ z := by
    intro z hz
    unfold dimsS at h
    split at h
    · cases h
    · split at h
      · cases h
      · rename_i hn
        rw [List.any_eq_true] at hn
        by_cases h0:z < 0
        · exact (hn ⟨z,hz,decide_eq_true h0⟩).elim
        · omega
  have hg:(goO l 1).isSome = true := by
    unfold dimsS at h
    (repeat' split at h) <;> first | assumption | (cases h; done)
  refine ⟨⟨0,⟨Nat.zero_le _,by simp⟩,rfl⟩,fun i hh => ⟨fun hlt => ?_,fun hge => ?_⟩⟩
  · have hlt':i < l.length := by omega
    refine ⟨by omega,fun h => ?_,fun h => ⟨i + 1,⟨by omega,tk i hlt' _ hh.2 (by simpa using h)⟩,by omega,wrap_i64' (by omega) (by omega)⟩⟩
    have h0:l.getD i 0 = 0 := by simpa using h
    have:l.contains 0 = true := by
      rw [List.contains_iff_mem,← h0,List.getD_eq_getElem?_getD,List.getElem?_eq_getElem hlt']; exact List.getElem_mem hlt'
    rw [sizeS,if_pos this]
  · have hi:i = l.length := by omega
    rw [hi,List.take_length] at hh
    refine ⟨⟨intsP_isl l,hnn,by omega⟩,fun _ _ => ?_⟩
    have:¬ l.contains 0 = true := by
      rw [List.contains_iff_mem]
      exact fun hm => hh.2 0 hm rfl
    rw [sizeS,if_neg this]
    cases hgo:goO l 1 with
    | none => rw [hgo] at hg; cases hg
    | some p => rfl
end Go.Proofs.Ytoglbmhkfkghbaa
namespace Go.Proofs.Ytoglbmhkfkghbaa
open Go Go.Ab
def formS (k:Int) (s:List Int) (nn ni:Nat):Int :=
  if k = 1∨k = 2∨k = 3 then
    if dimsS s ≠ 0 then dimsS s
    else if ((if k = 3 then (ni:Int) else nn) ≠ sizeS s)∨((if k = 3 then (nn:Int) else ni) ≠ 0) then 16 else 0
  else 14
def conAr:Con := fun k ds S => match k with
  | 93 => match ds with
    | [.sl 1 n f _] => some (pC ds (.int .i64 (sizeS (intsD n f))) (IntsP n f∧rightS (intsD n f) = true))
    | _ => none
  | 83 => match ds with
    | [.sl 1 n f _] => some (pC ds (.int .i64 (dimsS (intsD n f))) (IntsP n f))
    | _ => none
  | 85 => match ds with
    | [.sl 1 n f _] => some (pC ds (.int .i64 (sizeS (intsD n f))) (IntsP n f∧dimsS (intsD n f) = 0))
    | _ => none
  | k => conSh k ds S
theorem conAr_ok:ConOk Try.prog conAr := by
  intro k ds S A h
  unfold conAr at h
  split at h
  · split at h
    · injection h with h; subst h
      exact pC_ok fun ⟨h1,h2⟩ => ⟨weakL_refl _,sC_weak (isl_weak h1) (prod_ok _ h2)⟩
    · cases h
  · split at h
    · injection h with h; subst h
      exact pC_ok fun h1 => ⟨weakL_refl _,sC_weak (isl_weak h1) (dims_ok _)⟩
    · cases h
  · split at h
    · injection h with h; subst h
      exact pC_ok fun ⟨h1,h2⟩ => ⟨weakL_refl _,sC_weak (isl_weak h1) (count_ok _ h2)⟩
    · cases h
  · exact conSh_ok _ _ _ _ h
noncomputable def Eform:Senv := EC conAr 44 5 [12,13,16,20,25,29,34] (fun id => match id with | 1 => ([0,1,2,3,4,5,6,7],[]) | _ => ([],[]))
noncomputable section
def ar1q0 (p0:List Int):Prop := IntsP (LN p0) fun (i:Nat) => [ZI (GI p0 i)]
def ar1q1 (p0:List Int):Prop := ar1q0 p0∧LN p0 ≤ (9223372036854775807:Nat)
def ar1q2 (p0:List Int):List Int := intsD (LN p0) fun (i:Nat) => [ZI (GI p0 i)]
def ar1q3 (p0:List Int):Bool := decide (Z0 ≤ idxB (fun (d:Int) => decide (d < Z0)) (ar1q2 p0) N0)
def ar1q4 (p0:Int) (p1:List Int) (p2 p3:Nat):Prop := True∧∃ (y:Unit),True∧(16:Int) = formS p0 p1 p2 p3∧True∧True
def ar1q5 (p0:List Int):Bool := rightS (ar1q2 p0)
def ar1q6 (p0:List Int):Bool := !ar1q5 p0
def ar1q7 (p0:Int) (p1:List Int) (p2 p3:Nat):Prop := True∧ar1q4 p0 p1 p2 p3
def ar1q8 (p0:List Int):Prop := ar1q0 p0∧ar1q5 p0 = true
def ar1q9 (p0:Nat) (p1:List Int):Bool := (↑p0:Int) != sizeS (ar1q2 p1)
def ar1q10 (p0:Nat) (p1:List Int) (p2:Int) (p3 p4:Nat):Prop := SM p0∧ifB (decide ((8:Int) < (LI p1))) (True∧∃ (y:Unit),True∧(15:Int) = formS p2 p1 p3 p4∧True∧True) (SM p0∧ar1q1 p1∧∀ (y:Unit),True→True∧ifB (ar1q3 p1) (ar1q4 p2 p1 p3 p4) (SM p0∧ar1q0 p1∧∀ (y:Unit),True→ifB (ar1q6 p1) (True∧∃ (y:Unit),True∧(21:Int) = formS p2 p1 p3 p4∧True∧True) (SM p0∧ar1q0 p1∧∀ (y:Unit),True→ifB (ar1q6 p1) (ar1q7 p2 p1 p3 p4) (ar1q8 p1∧∀ (y:Unit),True→True∧ifB (ar1q9 p3 p1) (ar1q4 p2 p1 p3 p4) (ifB ((↑p4:Int) != Z0) (ar1q4 p2 p1 p3 p4) (True∧∃ (y:Unit),True∧Z0 = formS p2 p1 p3 p4∧True∧True))))))
def ar1q11 (p0:Int) (p1:Nat) (p2:List Int) (p3 p4:Nat):Prop := ifB (p0 == (3:Int)) (SM p1∧ifB (decide ((8:Int) < (LI p2))) (True∧∃ (y:Unit),True∧(15:Int) = formS p0 p2 p3 p4∧True∧True) (SM p1∧ar1q1 p2∧∀ (y:Unit),True→True∧ifB (ar1q3 p2) (ar1q4 p0 p2 p3 p4) (SM p1∧ar1q0 p2∧∀ (y:Unit),True→ifB (ar1q6 p2) (True∧∃ (y:Unit),True∧(21:Int) = formS p0 p2 p3 p4∧True∧True) (SM p1∧ar1q0 p2∧∀ (y:Unit),True→ifB (ar1q6 p2) (ar1q7 p0 p2 p3 p4) (ar1q8 p2∧∀ (y:Unit),True→True∧ifB (ar1q9 p4 p2) (ar1q4 p0 p2 p3 p4) (ifB ((↑p3:Int) != Z0) (ar1q4 p0 p2 p3 p4) (True∧∃ (y:Unit),True∧Z0 = formS p0 p2 p3 p4∧True∧True))))))) (True∧∃ (y:Unit),True∧(14:Int) = formS p0 p2 p3 p4∧True∧True)
end
theorem form_ok (k : Int) (s : List Int) (nn ni : Nat) (g h : Nat → List D) (hs : s.length ≤ maxLen) (hn : nn ≤ maxLen) (hi : ni ≤ maxLen) :
    ACalls Try.prog 57 [.agg [.int .i64 k,isl s .any,.sl 1 nn g .any,.sl 4 ni h .any]] ⟨[],[]⟩ (SpecR (sC [.agg [.int .i64 k,isl s .any,.sl 1 nn g .any,.sl 4 ni h .any]] (.int .i64 (formS k s nn ni))) ()) := by
  refine con_of (A := sC _ _) (x := ()) (E := Eform) (eOk conAr_ok rfl) Try.func57 rfl (by kernel_rfl) rfl (by simp [sC,Eform,EC,E0]) ?_
  refine vc_eq (T :=
    ∀ (x:Nat),True→SM x∧SM x∧SM x∧ifB (k == Z1) (ifB (k == Z1) (ar1q10 x s k nn ni) (ar1q11 k x s nn ni)) (ifB (k == (2:Int)) (ar1q10 x s k nn ni) (ar1q11 k x s nn ni))) (by kernel_rfl) ?_
  delta GI LI LN N0 SM Z0 Z1 ZI ar1q0 ar1q1 ar1q10 ar1q11 ar1q2 ar1q3 ar1q4 ar1q5 ar1q6 ar1q7 ar1q8 ar1q9
  simp only [intsD_isl,idxB_any,Int.toNat_natCast,ifB_iff,side_iff,decide_eq_true_eq,decide_eq_false_iff_not,true_and,and_true,beq_iff_eq,bne_iff_ne,Bool.cond_false_right,Bool.cond_true_left,Bool.and_eq_true,Bool.and_eq_false_iff,beq_eq_false_iff_ne,ne_eq,exists_const,forall_const]
  simp only [maxLen] at hs hn hi
  have n8:(8 < (s.length:Int))↔8 < s.length := by omega
  simp only [n8]
  repeat' (first
    | exact intsP_isl s
    | refine And.intro ?_ ?_
    | intro _)
  all_goals first
    | omega
    | (simp_all [formS,dimsS,rightS]; done)
    | grind [formS,dimsS,rightS]
    | skip
  all_goals trace_state
end Go.Proofs.Ytoglbmhkfkghbaa
namespace Go.Proofs.Ytoglbmhkfkghbaa
open Go Go.Ab
def Arr.k:Arr→Int | .mk k _ _ _ => k
def Arr.sh:Arr→List Int | .mk _ s _ _ => s
def Arr.nu:Arr→List Int | .mk _ _ n _ => n
def Arr.it:Arr→List Arr | .mk _ _ _ i => i
def Arr.row1 (a:Arr):List D := [.int .i64 a.k,isl a.sh .any,isl a.nu .any,gsl 4 Arr.row a.it]
def Arr.row2 (a:Arr):List D := [.int .i64 a.k,isl a.sh .any,isl a.nu .any,gsl 4 Arr.row1 a.it]
theorem row_len (l:List Arr):(rowsL l).length = l.length := by rw [rowsL_map]; simp
theorem row_wk (a:Arr):wkL a.row a.row1 := by
  cases a with
  | mk k s n is =>
    simp only [Arr.row,Arr.row1,Arr.k,Arr.sh,Arr.nu,Arr.it,gsl,isl,wkL,wkD,weakD,chk_iff]
    refine ⟨⟨by simp [kEq],trivial⟩,⟨by simp,trivial,fun i _ => by simp [kEq],by simp [weakM]⟩,⟨by simp,trivial,fun i _ => by simp [kEq],by simp [weakM]⟩,⟨by simp,row_len is,fun i hi => ?_,by simp [weakM]⟩,trivial⟩
    rw [row_len] at hi
    have:(rowsL is).getD i [] = (is.getD i default).row := by
      rw [rowsL_map]; simp [List.getD_eq_getElem?_getD,hi]
    rw [this]
    exact wkL_refl _
theorem row1_wk (a:Arr):wkL a.row1 a.row2 := by
  simp only [Arr.row1,Arr.row2,gsl,isl,wkL,wkD,weakD,chk_iff]
  exact ⟨⟨by simp [kEq],trivial⟩,⟨by simp,trivial,fun i _ => by simp [kEq],by simp [weakM]⟩,⟨by simp,trivial,fun i _ => by simp [kEq],by simp [weakM]⟩,⟨by simp,trivial,fun i _ => row_wk _,by simp [weakM]⟩,trivial⟩
def numB (z:Int):Bool := decide (-4611686018427387903 ≤ z) && decide (z ≤ 4611686018427387903)
def chrB (z:Int):Bool := decide (0 ≤ z) && decide (z ≤ 1114111) && (decide (z < 55296) || decide (57343 < z))
def badK (k z:Int):Bool := (k == 1 && !numB z) || (k == 2 && !chrB z)
mutual
def chkA:Arr→Int × Int × Int
  | .mk k s n is =>
    if formS k s n.length is.length ≠ 0 then (formS k s n.length is.length,0,0)
    else if n.any (badK k) then (17,0,0)
    else match chkL is 0 ((n.length:Int) + is.length) with
      | none => (17,0,0)
      | some r => if 16 < r.1∨262144 < r.2 then (21,0,0) else (0,r.1,r.2)
def chkL:List Arr→Int→Int→Option (Int × Int)
  | [],d,w => some (d,w)
  | x :: r,d,w => if (chkA x).1 ≠ 0 then none else chkL r (if d < (chkA x).2.1 + 1 then (chkA x).2.1 + 1 else d) (if 262145 < w + (chkA x).2.2 then 262145 else w + (chkA x).2.2)
end
theorem chkL_pos:∀ (l:List Arr) (d w d' w':Int),chkL l d w = some (d',w')→0 ≤ d→0 ≤ w→(∀ x ∈ l,(chkA x).1 = 0→0 ≤ (chkA x).2.1∧0 ≤ (chkA x).2.2)→0 ≤ d'∧0 ≤ w'
  | [],d,w,d',w',h,h1,h2,_ => by
    rw [chkL] at h; injection h with h; injection h with e1 e2; omega
  | x :: r,d,w,d',w',h,h1,h2,h3 => by
    rw [chkL] at h
    split at h
    · cases h
    · rename_i hx
      have hx:(chkA x).1 = 0 := by simpa using hx
      have := h3 x (by simp) hx
      refine chkL_pos r _ _ d' w' h ?_ ?_ fun y hy => h3 y (by simp [hy])
      · split <;> omega
      · split <;> omega
theorem chkA_bounds:∀ (a:Arr),(0 ≤ (chkA a).2.1∧(chkA a).2.1 ≤ 16)∧0 ≤ (chkA a).2.2∧(chkA a).2.2 ≤ 262144
  | .mk k s n is => by
    rw [chkA]
    split
    · simp
    · split
      · simp
      · split
        · simp
        · rename_i r hr
          split
          · simp
          · rename_i hb
            have := chkL_pos is 0 _ r.1 r.2 hr (by omega) (by omega) fun x hx _ => by
              have := chkA_bounds x
              omega
            simp only
            omega
termination_by a => SizeOf.sizeOf a
decreasing_by
  have := List.sizeOf_lt_of_mem hx
  simp; omega
end Go.Proofs.Ytoglbmhkfkghbaa
