/- Functions of the given program and what each of them computes: lemmas towards the statement, their conditions stated with each of them. -/
import Derived.Test.YtnlplccjbojloaaGreatDoorAb2
import Derived.KernelRfl
import Derived.Shelf.Strings.Builder1
import Derived.Shelf.Strings.Builder2
import Derived.Shelf.Strings.OnBuilder
import Derived.Shelf.Small.Strs
import Derived.Shelf.Strings.BuilderF
import Derived.Shelf.Strconv.Itoa0
import Derived.Shelf.Strconv.Itoa1
import Derived.Shelf.LaysM
import Derived.Shelf.Strconv.Itoa2
import Derived.Shelf.Strconv.Itoa3
import Derived.Shelf.Strconv.Itoa4
import Derived.Shelf.Strings.Search1
import Derived.Shelf.Strings.Prefix
import Derived.Shelf.Bits.Mul64
import Derived.Shelf.Strings.Repeat
import Derived.Lib.AppendIntMem
import Derived.Lib.ItoaLen
import Derived.Test.YtnlplccjbojloaaGreatDoorRows
import Derived.Lib.Join
import Derived.Lib.Builder
import Derived.Lib.UnsafeStr
import Derived.Test.YtnlplccjbojloaaGreatDoorCards
import Derived.Test.YtnlplccjbojloaaGreatDoorTie
import Derived.Deep.DeepHandedRow
import Derived.Stop.LaidErr
import Derived.Lib.Bytealg
namespace Go.Proofs.YtnlplccjbojloaaGreatDoor
open Go Go.Ab
noncomputable def tab:List (Nat×TI):=[
 (0,⟨TypeDesc.tuple #[],1,0,[.unk]⟩),
 (1,⟨TypeDesc.func #[] #[] false,1,8,[.nilf]⟩),
 (2,⟨TypeDesc.int .i64,1,8,[.int .i64 0]⟩),
 (3,⟨TypeDesc.int .i64,1,8,[.int .i64 0]⟩),
 (4,⟨TypeDesc.bool,1,1,[.bool false]⟩),
 (5,⟨TypeDesc.int .u8,1,1,[.int .u8 0]⟩),
 (9,⟨TypeDesc.string,1,16,[.str []]⟩),
 (20,⟨TypeDesc.interface #[],1,16,[.nili]⟩),
 (21,⟨TypeDesc.int .i32,1,4,[.int .i32 0]⟩),
 (22,⟨TypeDesc.slice 44,1,24,[.sl 1 0 (fun _=>[]) .nil]⟩),
 (23,⟨Tryz.t23.desc,1,24,[.sl 1 0 (fun _=>[]) .nil]⟩),
 (24,⟨Tryz.t23.desc,1,24,[.sl 1 0 (fun _=>[]) .nil]⟩),
 (25,⟨TypeDesc.func #[24] #[4] false,1,8,[.nilf]⟩),
 (26,⟨TypeDesc.func #[] #[4] false,1,8,[.nilf]⟩),
 (27,⟨TypeDesc.func #[24] #[9] false,1,8,[.nilf]⟩),
 (28,⟨TypeDesc.func #[22,3] #[3] false,1,8,[.nilf]⟩),
 (29,⟨TypeDesc.int .i64,1,8,[.int .i64 0]⟩),
 (30,⟨TypeDesc.int .i64,1,8,[.int .i64 0]⟩),
 (31,⟨TypeDesc.int .i64,1,8,[.int .i64 0]⟩),
 (32,⟨TypeDesc.int .i64,1,8,[.int .i64 0]⟩),
 (33,⟨TypeDesc.int .i64,1,8,[.int .i64 0]⟩),
 (34,⟨TypeDesc.slice 3,1,24,[.sl 1 0 (fun _=>[]) .nil]⟩),
 (35,⟨TypeDesc.slice 37,1,24,[.sl 1 0 (fun _=>[]) .nil]⟩),
 (36,⟨Tryz.t36.desc,4,80,[.int .i64 0,.sl 1 0 (fun _=>[]) .nil,.sl 1 0 (fun _=>[]) .nil,.sl 1 0 (fun _=>[]) .nil]⟩),
 (37,⟨Tryz.t36.desc,4,80,[.int .i64 0,.sl 1 0 (fun _=>[]) .nil,.sl 1 0 (fun _=>[]) .nil,.sl 1 0 (fun _=>[]) .nil]⟩),
 (38,⟨TypeDesc.slice 40,1,24,[.sl 1 0 (fun _=>[]) .nil]⟩),
 (39,⟨Tryz.t39.desc,15,208,[.int .i64 0,.int .i64 0,.int .i64 0,.str [],.int .i64 0,.int .i64 0,.int .i64 0,.sl 1 0 (fun _=>[]) .nil,.sl 1 0 (fun _=>[]) .nil,.sl 1 0 (fun _=>[]) .nil,.sl 1 0 (fun _=>[]) .nil,.sl 1 0 (fun _=>[]) .nil,.int .i64 0,.int .i64 0,.int .i64 0]⟩),
 (40,⟨Tryz.t39.desc,15,208,[.int .i64 0,.int .i64 0,.int .i64 0,.str [],.int .i64 0,.int .i64 0,.int .i64 0,.sl 1 0 (fun _=>[]) .nil,.sl 1 0 (fun _=>[]) .nil,.sl 1 0 (fun _=>[]) .nil,.sl 1 0 (fun _=>[]) .nil,.sl 1 0 (fun _=>[]) .nil,.int .i64 0,.int .i64 0,.int .i64 0]⟩),
 (41,⟨TypeDesc.func #[32] #[40] false,1,8,[.nilf]⟩),
 (42,⟨TypeDesc.int .i64,1,8,[.int .i64 0]⟩),
 (43,⟨Tryz.t43.desc,34,456,[.int .i64 0,.int .i64 0,.str [],.int .i64 0,.int .i64 0,.int .i64 0,.int .i64 0,.str [],.int .i64 0,.int .i64 0,.int .i64 0,.sl 1 0 (fun _=>[]) .nil,.sl 1 0 (fun _=>[]) .nil,.sl 1 0 (fun _=>[]) .nil,.sl 1 0 (fun _=>[]) .nil,.sl 1 0 (fun _=>[]) .nil,.int .i64 0,.int .i64 0,.int .i64 0,.int .i64 0,.int .i64 0,.int .i64 0,.str [],.int .i64 0,.int .i64 0,.int .i64 0,.sl 1 0 (fun _=>[]) .nil,.sl 1 0 (fun _=>[]) .nil,.sl 1 0 (fun _=>[]) .nil,.sl 1 0 (fun _=>[]) .nil,.sl 1 0 (fun _=>[]) .nil,.int .i64 0,.int .i64 0,.int .i64 0]⟩),
 (44,⟨Tryz.t43.desc,34,456,[.int .i64 0,.int .i64 0,.str [],.int .i64 0,.int .i64 0,.int .i64 0,.int .i64 0,.str [],.int .i64 0,.int .i64 0,.int .i64 0,.sl 1 0 (fun _=>[]) .nil,.sl 1 0 (fun _=>[]) .nil,.sl 1 0 (fun _=>[]) .nil,.sl 1 0 (fun _=>[]) .nil,.sl 1 0 (fun _=>[]) .nil,.int .i64 0,.int .i64 0,.int .i64 0,.int .i64 0,.int .i64 0,.int .i64 0,.str [],.int .i64 0,.int .i64 0,.int .i64 0,.sl 1 0 (fun _=>[]) .nil,.sl 1 0 (fun _=>[]) .nil,.sl 1 0 (fun _=>[]) .nil,.sl 1 0 (fun _=>[]) .nil,.sl 1 0 (fun _=>[]) .nil,.int .i64 0,.int .i64 0,.int .i64 0]⟩),
 (45,⟨TypeDesc.int .i64,1,8,[.int .i64 0]⟩),
 (46,⟨TypeDesc.func #[24] #[45] false,1,8,[.nilf]⟩),
 (47,⟨TypeDesc.pointer 50,1,8,[.nilp]⟩),
 (48,⟨TypeDesc.slice 5,1,24,[.sl 1 0 (fun _=>[]) .nil]⟩),
 (49,⟨Tryz.t49.desc,2,32,[.nilp,.sl 1 0 (fun _=>[]) .nil]⟩),
 (50,⟨Tryz.t49.desc,2,32,[.nilp,.sl 1 0 (fun _=>[]) .nil]⟩),
 (51,⟨Tryz.t51.desc,4,56,[.nilp,.sl 1 0 (fun _=>[]) .nil,.str [],.int .i64 0]⟩),
 (52,⟨Tryz.t51.desc,4,56,[.nilp,.sl 1 0 (fun _=>[]) .nil,.str [],.int .i64 0]⟩),
 (53,⟨TypeDesc.slice 9,1,24,[.sl 1 0 (fun _=>[]) .nil]⟩),
 (54,⟨TypeDesc.func #[24] #[53] false,1,8,[.nilf]⟩),
 (55,⟨TypeDesc.func #[9,56,58] #[] false,1,8,[.nilf]⟩),
 (56,⟨TypeDesc.func #[9,9] #[4] false,1,8,[.nilf]⟩),
 (57,⟨TypeDesc.func #[9,3] #[9] false,1,8,[.nilf]⟩),
 (58,⟨TypeDesc.func #[3] #[9] false,1,8,[.nilf]⟩),
 (59, ⟨TypeDesc.interface #[("Error", 62)], 1, 16, [.nili]⟩),
 (60, ⟨TypeDesc.interface #[("Error", 62)], 1, 16, [.nili]⟩),
 (61,⟨TypeDesc.func #[5] #[60] false,1,8,[.nilf]⟩),
 (62,⟨TypeDesc.func #[] #[9] false,1,8,[.nilf]⟩),
 (63,⟨TypeDesc.func #[22,3] #[53] false,1,8,[.nilf]⟩),
 (64,⟨TypeDesc.func #[9] #[4] false,1,8,[.nilf]⟩),
 (65,⟨TypeDesc.func #[5] #[4] false,1,8,[.nilf]⟩),
 (66,⟨TypeDesc.func #[40,3] #[3] false,1,8,[.nilf]⟩),
 (67,⟨TypeDesc.func #[44] #[38] false,1,8,[.nilf]⟩),
 (68,⟨TypeDesc.func #[40,3] #[4] false,1,8,[.nilf]⟩),
 (69,⟨TypeDesc.func #[40] #[3] false,1,8,[.nilf]⟩),
 (70,⟨TypeDesc.func #[22,4] #[4] false,1,8,[.nilf]⟩),
 (71,⟨TypeDesc.func #[22] #[4] false,1,8,[.nilf]⟩),
 (72,⟨TypeDesc.func #[40] #[53] false,1,8,[.nilf]⟩),
 (73,⟨TypeDesc.pointer 52,1,8,[.nilp]⟩),
 (74,⟨TypeDesc.tuple #[3,60],1,0,[.unk]⟩),
 (75,⟨TypeDesc.func #[9] #[3,60] false,1,8,[.nilf]⟩),
 (76,⟨TypeDesc.int .u64,1,8,[.int .u64 0]⟩),
 (77,⟨TypeDesc.tuple #[76,76],1,0,[.unk]⟩),
 (78,⟨TypeDesc.func #[76,76] #[76,76] false,1,8,[.nilf]⟩),
 (79,⟨TypeDesc.func #[3] #[] false,1,8,[.nilf]⟩),
 (80,⟨TypeDesc.func #[] #[3] false,1,8,[.nilf]⟩),
 (81,⟨TypeDesc.pointer 5,1,8,[.nilp]⟩),
 (82,⟨TypeDesc.func #[53,40,89,3] #[53] false,1,8,[.nilf]⟩),
 (83,⟨TypeDesc.func #[38,85] #[4] false,1,8,[.nilf]⟩),
 (84,⟨TypeDesc.func #[40] #[38] false,1,8,[.nilf]⟩),
 (85,⟨TypeDesc.func #[40] #[4] false,1,8,[.nilf]⟩),
 (86,⟨TypeDesc.func #[40] #[] false,1,8,[.nilf]⟩),
 (87,⟨TypeDesc.map 9 3,1,8,[.nmap]⟩),
 (88,⟨TypeDesc.func #[89,91] #[4] false,1,8,[.nilf]⟩),
 (89,⟨TypeDesc.slice 29,1,24,[.sl 1 0 (fun _=>[]) .nil]⟩),
 (90,⟨TypeDesc.func #[22,29] #[4] false,1,8,[.nilf]⟩),
 (91,⟨TypeDesc.func #[29] #[4] false,1,8,[.nilf]⟩),
 (92,⟨TypeDesc.func #[40] #[9] false,1,8,[.nilf]⟩),
 (93,⟨TypeDesc.func #[9,3] #[3] false,1,8,[.nilf]⟩),
 (94,⟨TypeDesc.int .u32,1,4,[.int .u32 0]⟩),
 (95,⟨TypeDesc.tuple #[94,94],1,0,[.unk]⟩),
 (96,⟨TypeDesc.func #[94,94] #[94,94] false,1,8,[.nilf]⟩),
 (97,⟨TypeDesc.int .u64,1,8,[.int .u64 0]⟩),
 (98,⟨TypeDesc.tuple #[97,97],1,0,[.unk]⟩),
 (99,⟨TypeDesc.func #[97,97] #[97,97] false,1,8,[.nilf]⟩),
 (100,⟨TypeDesc.unsafePointer,1,8,[.nilp]⟩),
 (101,⟨TypeDesc.func #[100] #[100] false,1,8,[.nilf]⟩),
 (102,⟨TypeDesc.func #[40,3] #[53] false,1,8,[.nilf]⟩),
 (103,⟨TypeDesc.func #[38,85] #[3] false,1,8,[.nilf]⟩),
 (104,⟨TypeDesc.func #[40,29] #[4] false,1,8,[.nilf]⟩),
 (105,⟨TypeDesc.func #[32] #[9] false,1,8,[.nilf]⟩),
 (106,⟨TypeDesc.func #[31] #[9] false,1,8,[.nilf]⟩),
 (107,⟨TypeDesc.func #[89,91] #[3] false,1,8,[.nilf]⟩),
 (108,⟨TypeDesc.func #[22,109] #[4] false,1,8,[.nilf]⟩),
 (109,⟨TypeDesc.func #[44] #[4] false,1,8,[.nilf]⟩),
 (110,⟨TypeDesc.func #[40] #[45] false,1,8,[.nilf]⟩),
 (111,⟨TypeDesc.func #[9,5] #[3] false,1,8,[.nilf]⟩),
 (112,⟨TypeDesc.func #[3] #[48] false,1,8,[.nilf]⟩),
 (113,⟨TypeDesc.func #[40,40] #[4] false,1,8,[.nilf]⟩),
 (114,⟨TypeDesc.func #[37] #[4] false,1,8,[.nilf]⟩),
 (115,⟨TypeDesc.func #[37] #[45] false,1,8,[.nilf]⟩),
 (116,⟨TypeDesc.func #[40,117] #[4] true,1,8,[.nilf]⟩),
 (117,⟨TypeDesc.slice 30,1,24,[.sl 1 0 (fun _=>[]) .nil]⟩),
 (118,⟨TypeDesc.func #[117,3] #[117] false,1,8,[.nilf]⟩),
 (119,⟨TypeDesc.array 56 9,56,896,[.str [],.str [],.str [],.str [],.str [],.str [],.str [],.str [],.str [],.str [],.str [],.str [],.str [],.str [],.str [],.str [],.str [],.str [],.str [],.str [],.str [],.str [],.str [],.str [],.str [],.str [],.str [],.str [],.str [],.str [],.str [],.str [],.str [],.str [],.str [],.str [],.str [],.str [],.str [],.str [],.str [],.str [],.str [],.str [],.str [],.str [],.str [],.str [],.str [],.str [],.str [],.str [],.str [],.str [],.str [],.str []]⟩),
 (120,⟨TypeDesc.array 12 9,12,192,[.str [],.str [],.str [],.str [],.str [],.str [],.str [],.str [],.str [],.str [],.str [],.str []]⟩),
 (121,⟨TypeDesc.func #[22,109] #[3] false,1,8,[.nilf]⟩),
 (122,⟨TypeDesc.func #[37] #[9] false,1,8,[.nilf]⟩),
 (123,⟨TypeDesc.func #[38,89] #[9] true,1,8,[.nilf]⟩),
 (124,⟨TypeDesc.func #[40,89] #[9] true,1,8,[.nilf]⟩),
 (125,⟨TypeDesc.func #[44] #[9] false,1,8,[.nilf]⟩),
 (126,⟨TypeDesc.func #[53,9] #[9] false,1,8,[.nilf]⟩),
 (127,⟨TypeDesc.func #[40,4,4,4,4,4,4] #[4] false,1,8,[.nilf]⟩),
 (128,⟨TypeDesc.func #[31] #[30] false,1,8,[.nilf]⟩),
 (129,⟨TypeDesc.func #[37,37] #[4] false,1,8,[.nilf]⟩),
 (130,⟨TypeDesc.func #[22,22] #[4] false,1,8,[.nilf]⟩),
 (131,⟨TypeDesc.func #[37] #[45,3,3] false,1,8,[.nilf]⟩),
 (132,⟨TypeDesc.func #[3] #[4] false,1,8,[.nilf]⟩),
 (133,⟨TypeDesc.tuple #[45,3,3],1,0,[.unk]⟩),
 (134,⟨TypeDesc.func #[38,117,135] #[4] false,1,8,[.nilf]⟩),
 (135,⟨TypeDesc.func #[40,30] #[4] false,1,8,[.nilf]⟩),
 (136,⟨TypeDesc.func #[89,29] #[4] false,1,8,[.nilf]⟩),
 (137,⟨TypeDesc.tuple #[45,3],1,0,[.unk]⟩),
 (138,⟨TypeDesc.func #[37] #[45,3] false,1,8,[.nilf]⟩),
 (139,⟨TypeDesc.func #[34,34] #[4] false,1,8,[.nilf]⟩),
 (140,⟨TypeDesc.func #[38,89] #[9] false,1,8,[.nilf]⟩),
 (141,⟨TypeDesc.func #[40,4] #[9] false,1,8,[.nilf]⟩),
 (142,⟨TypeDesc.func #[40,89] #[4] false,1,8,[.nilf]⟩),
 (143,⟨TypeDesc.func #[22,9] #[9] false,1,8,[.nilf]⟩),
 (144,⟨TypeDesc.func #[34,132] #[4] false,1,8,[.nilf]⟩),
 (145,⟨TypeDesc.func #[34] #[4] false,1,8,[.nilf]⟩),
 (146,⟨TypeDesc.func #[34] #[3] false,1,8,[.nilf]⟩),
 (147,⟨TypeDesc.func #[21,34] #[9] true,1,8,[.nilf]⟩),
 (148,⟨TypeDesc.func #[53] #[9] true,1,8,[.nilf]⟩),
 (149,⟨TypeDesc.func #[37] #[37] false,1,8,[.nilf]⟩),
 (150,⟨TypeDesc.func #[37,3] #[37] false,1,8,[.nilf]⟩),
 (151,⟨TypeDesc.func #[34] #[9] false,1,8,[.nilf]⟩),
 (152,⟨TypeDesc.func #[89,29] #[3] false,1,8,[.nilf]⟩),
 (153,⟨TypeDesc.func #[34] #[45] false,1,8,[.nilf]⟩),
 (154,⟨TypeDesc.func #[37] #[3] false,1,8,[.nilf]⟩),
 (155,⟨TypeDesc.func #[34,132] #[3] false,1,8,[.nilf]⟩),
 (156,⟨TypeDesc.func #[21,21] #[9] false,1,8,[.nilf]⟩),
 (157,⟨TypeDesc.func #[34,3] #[4] false,1,8,[.nilf]⟩),
 (158,⟨TypeDesc.func #[2,3] #[9] false,1,8,[.nilf]⟩),
 (159,⟨TypeDesc.func #[34,3] #[3] false,1,8,[.nilf]⟩),
 (160,⟨TypeDesc.func #[3,3] #[9] false,1,8,[.nilf]⟩),
 (161,⟨TypeDesc.array 24 5,24,24,[.int .u8 0,.int .u8 0,.int .u8 0,.int .u8 0,.int .u8 0,.int .u8 0,.int .u8 0,.int .u8 0,.int .u8 0,.int .u8 0,.int .u8 0,.int .u8 0,.int .u8 0,.int .u8 0,.int .u8 0,.int .u8 0,.int .u8 0,.int .u8 0,.int .u8 0,.int .u8 0,.int .u8 0,.int .u8 0,.int .u8 0,.int .u8 0]⟩),
 (162,⟨TypeDesc.func #[97] #[3] false,1,8,[.nilf]⟩),
 (163,⟨TypeDesc.func #[48,97] #[] false,1,8,[.nilf]⟩),
 (164,⟨TypeDesc.tuple #[48,9],1,0,[.unk]⟩),
 (165,⟨TypeDesc.func #[48,97,3,4,4] #[48,9] false,1,8,[.nilf]⟩),
 (166,⟨TypeDesc.func #[3] #[3] false,1,8,[.nilf]⟩),
 (167,⟨TypeDesc.func #[4] #[3] false,1,8,[.nilf]⟩),
 (168,⟨TypeDesc.array 20 97,20,160,[.int .u64 0,.int .u64 0,.int .u64 0,.int .u64 0,.int .u64 0,.int .u64 0,.int .u64 0,.int .u64 0,.int .u64 0,.int .u64 0,.int .u64 0,.int .u64 0,.int .u64 0,.int .u64 0,.int .u64 0,.int .u64 0,.int .u64 0,.int .u64 0,.int .u64 0,.int .u64 0]⟩),
 (169,⟨TypeDesc.array 65 5,65,65,List.replicate 65 (.int .u8 0)⟩),
 (170,⟨TypeDesc.func #[76] #[3] false,1,8,[.nilf]⟩),
 (171,⟨TypeDesc.func #[94] #[3] false,1,8,[.nilf]⟩),
 (172,⟨TypeDesc.array 32 5,32,32,[.int .u8 0,.int .u8 0,.int .u8 0,.int .u8 0,.int .u8 0,.int .u8 0,.int .u8 0,.int .u8 0,.int .u8 0,.int .u8 0,.int .u8 0,.int .u8 0,.int .u8 0,.int .u8 0,.int .u8 0,.int .u8 0,.int .u8 0,.int .u8 0,.int .u8 0,.int .u8 0,.int .u8 0,.int .u8 0,.int .u8 0,.int .u8 0,.int .u8 0,.int .u8 0,.int .u8 0,.int .u8 0,.int .u8 0,.int .u8 0,.int .u8 0,.int .u8 0]⟩),
 (173,⟨TypeDesc.array 64 5,64,64,[.int .u8 0,.int .u8 0,.int .u8 0,.int .u8 0,.int .u8 0,.int .u8 0,.int .u8 0,.int .u8 0,.int .u8 0,.int .u8 0,.int .u8 0,.int .u8 0,.int .u8 0,.int .u8 0,.int .u8 0,.int .u8 0,.int .u8 0,.int .u8 0,.int .u8 0,.int .u8 0,.int .u8 0,.int .u8 0,.int .u8 0,.int .u8 0,.int .u8 0,.int .u8 0,.int .u8 0,.int .u8 0,.int .u8 0,.int .u8 0,.int .u8 0,.int .u8 0,.int .u8 0,.int .u8 0,.int .u8 0,.int .u8 0,.int .u8 0,.int .u8 0,.int .u8 0,.int .u8 0,.int .u8 0,.int .u8 0,.int .u8 0,.int .u8 0,.int .u8 0,.int .u8 0,.int .u8 0,.int .u8 0,.int .u8 0,.int .u8 0,.int .u8 0,.int .u8 0,.int .u8 0,.int .u8 0,.int .u8 0,.int .u8 0,.int .u8 0,.int .u8 0,.int .u8 0,.int .u8 0,.int .u8 0,.int .u8 0,.int .u8 0,.int .u8 0]⟩),
 (181,⟨TypeDesc.func #[100,100] #[4] false,1,8,[.nilf]⟩)]
theorem tc{P:Program}{l:List (Nat×TI)}{t:Nat}{d:TypeDesc}{a b:Nat}{z:List D}(h1:P.underlying t=some d)(h:TabOk P (IH l))(h2:(P.info? t).map (fun i=>(i.size,i.bytes,i.zero.map fun z=>(z.cells.size,z.cells.toList.map Uf)))=some (a,b,some (a,z)):=by kernel_rfl):TabOk P (IH ((t,⟨d,a,b,z⟩)::l)):=TabOk.cons (ti:=⟨d,a,b,z⟩) h1 h2 h
theorem Bec:TabOk Tryz.prog (IH tab) :=
 tc Tryz.underlying0 <|
 tc Tryz.underlying1 <|
 tc Tryz.underlying2 <|
 tc Tryz.underlying3 <|
 tc Tryz.underlying4 <|
 tc Tryz.underlying5 <|
 tc Tryz.underlying9 <|
 tc Tryz.underlying20 <|
 tc Tryz.underlying21 <|
 tc Tryz.underlying22 <|
 tc Tryz.underlying23 <|
 tc Tryz.underlying24 <|
 tc Tryz.underlying25 <|
 tc Tryz.underlying26 <|
 tc Tryz.underlying27 <|
 tc Tryz.underlying28 <|
 tc Tryz.underlying29 <|
 tc Tryz.underlying30 <|
 tc Tryz.underlying31 <|
 tc Tryz.underlying32 <|
 tc Tryz.underlying33 <|
 tc Tryz.underlying34 <|
 tc Tryz.underlying35 <|
 tc Tryz.underlying36 <|
 tc Tryz.underlying37 <|
 tc Tryz.underlying38 <|
 tc Tryz.underlying39 <|
 tc Tryz.underlying40 <|
 tc Tryz.underlying41 <|
 tc Tryz.underlying42 <|
 tc Tryz.underlying43 <|
 tc Tryz.underlying44 <|
 tc Tryz.underlying45 <|
 tc Tryz.underlying46 <|
 tc Tryz.underlying47 <|
 tc Tryz.underlying48 <|
 tc Tryz.underlying49 <|
 tc Tryz.underlying50 <|
 tc Tryz.underlying51 <|
 tc Tryz.underlying52 <|
 tc Tryz.underlying53 <|
 tc Tryz.underlying54 <|
 tc Tryz.underlying55 <|
 tc Tryz.underlying56 <|
 tc Tryz.underlying57 <|
 tc Tryz.underlying58 <|
 tc Tryz.underlying59 <|
 tc Tryz.underlying60 <|
 tc Tryz.underlying61 <|
 tc Tryz.underlying62 <|
 tc Tryz.underlying63 <|
 tc Tryz.underlying64 <|
 tc Tryz.underlying65 <|
 tc Tryz.underlying66 <|
 tc Tryz.underlying67 <|
 tc Tryz.underlying68 <|
 tc Tryz.underlying69 <|
 tc Tryz.underlying70 <|
 tc Tryz.underlying71 <|
 tc Tryz.underlying72 <|
 tc Tryz.underlying73 <|
 tc Tryz.underlying74 <|
 tc Tryz.underlying75 <|
 tc Tryz.underlying76 <|
 tc Tryz.underlying77 <|
 tc Tryz.underlying78 <|
 tc Tryz.underlying79 <|
 tc Tryz.underlying80 <|
 tc Tryz.underlying81 <|
 tc Tryz.underlying82 <|
 tc Tryz.underlying83 <|
 tc Tryz.underlying84 <|
 tc Tryz.underlying85 <|
 tc Tryz.underlying86 <|
 tc Tryz.underlying87 <|
 tc Tryz.underlying88 <|
 tc Tryz.underlying89 <|
 tc Tryz.underlying90 <|
 tc Tryz.underlying91 <|
 tc Tryz.underlying92 <|
 tc Tryz.underlying93 <|
 tc Tryz.underlying94 <|
 tc Tryz.underlying95 <|
 tc Tryz.underlying96 <|
 tc Tryz.underlying97 <|
 tc Tryz.underlying98 <|
 tc Tryz.underlying99 <|
 tc Tryz.underlying100 <|
 tc Tryz.underlying101 <|
 tc Tryz.underlying102 <|
 tc Tryz.underlying103 <|
 tc Tryz.underlying104 <|
 tc Tryz.underlying105 <|
 tc Tryz.underlying106 <|
 tc Tryz.underlying107 <|
 tc Tryz.underlying108 <|
 tc Tryz.underlying109 <|
 tc Tryz.underlying110 <|
 tc Tryz.underlying111 <|
 tc Tryz.underlying112 <|
 tc Tryz.underlying113 <|
 tc Tryz.underlying114 <|
 tc Tryz.underlying115 <|
 tc Tryz.underlying116 <|
 tc Tryz.underlying117 <|
 tc Tryz.underlying118 <|
 tc Tryz.underlying119 <|
 tc Tryz.underlying120 <|
 tc Tryz.underlying121 <|
 tc Tryz.underlying122 <|
 tc Tryz.underlying123 <|
 tc Tryz.underlying124 <|
 tc Tryz.underlying125 <|
 tc Tryz.underlying126 <|
 tc Tryz.underlying127 <|
 tc Tryz.underlying128 <|
 tc Tryz.underlying129 <|
 tc Tryz.underlying130 <|
 tc Tryz.underlying131 <|
 tc Tryz.underlying132 <|
 tc Tryz.underlying133 <|
 tc Tryz.underlying134 <|
 tc Tryz.underlying135 <|
 tc Tryz.underlying136 <|
 tc Tryz.underlying137 <|
 tc Tryz.underlying138 <|
 tc Tryz.underlying139 <|
 tc Tryz.underlying140 <|
 tc Tryz.underlying141 <|
 tc Tryz.underlying142 <|
 tc Tryz.underlying143 <|
 tc Tryz.underlying144 <|
 tc Tryz.underlying145 <|
 tc Tryz.underlying146 <|
 tc Tryz.underlying147 <|
 tc Tryz.underlying148 <|
 tc Tryz.underlying149 <|
 tc Tryz.underlying150 <|
 tc Tryz.underlying151 <|
 tc Tryz.underlying152 <|
 tc Tryz.underlying153 <|
 tc Tryz.underlying154 <|
 tc Tryz.underlying155 <|
 tc Tryz.underlying156 <|
 tc Tryz.underlying157 <|
 tc Tryz.underlying158 <|
 tc Tryz.underlying159 <|
 tc Tryz.underlying160 <|
 tc Tryz.underlying161 <|
 tc Tryz.underlying162 <|
 tc Tryz.underlying163 <|
 tc Tryz.underlying164 <|
 tc Tryz.underlying165 <|
 tc Tryz.underlying166 <|
 tc Tryz.underlying167 <|
 tc Tryz.underlying168 <|
 tc Tryz.underlying169 <|
 tc Tryz.underlying170 <|
 tc Tryz.underlying171 <|
 tc Tryz.underlying172 <|
 tc Tryz.underlying173 <|
 tc Tryz.underlying181 <|
 TabOk.nil _
noncomputable def Bkl:List (Nat×Frm):=[
 (37,{ fn:=Tryz.f37,n:=8,V:=2,cross:=[4],ord:=fun _=>([],[]) }),
 (38,{ fn:=Tryz.f38,n:=25,V:=2,cross:=[7,21],ord:=fun id=>match id with | 3=>([0,1,2,3,5,6,7,8,9,11,4,10,12],[4]) | _=>([],[]) }),
 (39,{ fn:=Tryz.f39,n:=8,V:=1,cross:=[2],ord:=fun _=>([],[]) }),
 (60,{ fn:=Tryz.f60,n:=17,V:=2,cross:=[4,5,6],ord:=fun _=>([],[]) }),
 (61,{ fn:=Tryz.f61,n:=51,V:=2,cross:=[4,5,6,7,8,9,10,11,12,13],ord:=fun _=>([],[]) }),
 (62,{ fn:=Tryz.f62,n:=18,V:=2,cross:=[4],ord:=fun _=>([],[]) }),
 (63,{ fn:=Tryz.f63,n:=30,V:=2,cross:=[4],ord:=fun id=>match id with | 0=>([0,1,2,3,6,9,10,11,12,13,4,5,7,8,14,15],[4,8]) | _=>([],[]) }),
 (120,{ fn:=Tryz.f120,n:=9,V:=3,cross:=[4],ord:=fun _=>([],[]) }),
 (131,{ fn:=Tryz.f131,n:=9,V:=2,cross:=[4],ord:=fun _=>([],[]) }),
 (132,{ fn:=Tryz.f132,n:=5,V:=1,cross:=[2],ord:=fun _=>([],[]) }),
 (134,{ fn:=Tryz.f134,n:=8,V:=1,cross:=[2,5],ord:=fun _=>([],[]) }),
 (156,{ fn:=Tryz.f156,n:=16,V:=3,cross:=[4,5,11],ord:=fun _=>([],[]) }),
 (160,{ fn:=Tryz.f160,n:=9,V:=2,cross:=[4],ord:=fun _=>([],[]) }),
 (161,{ fn:=Tryz.f161,n:=5,V:=1,cross:=[2],ord:=fun _=>([],[]) }),
 (170,{ fn:=Tryz.f170,n:=54,V:=2,cross:=[4,5,6,7,8,9,11,17,23,34],ord:=fun _=>([],[]) }),
 (174,{ fn:=Tryz.f174,n:=15,V:=1,cross:=[2,4],ord:=fun _=>([],[]) }),
 (175,{ fn:=Tryz.f175,n:=15,V:=1,cross:=[2,3],ord:=fun _=>([],[]) }),
 (176,{ fn:=Tryz.f176,n:=167,V:=2,cross:=[4,5,6,7,8,9,10,11,12,13,14,15,16,20,99,139,161],ord:=fun id=>match id with | 7=>([0,1,2,3,4,5,6,7,8,9,10,11,12,13,14],[12,14]) | 8=>([0,1,2,3,4,5,6,7,8,9,10,11,12,13,14],[12,14]) | 9=>([0,1,2,3,4,5,6,7,8,9,10,11,12,13,14],[12,14]) | 10=>([0,1,2,3,4,5,6,7,8,9,10,11,12,13,14],[12,14]) | 17=>([0,1,2,3,4,5,6,7,8,9,10,11,12,13,14],[12,14]) | 18=>([0,1,2,3,4,5,6,7,8,9,10,11,12,13,14],[12,14]) | 23=>([0,1,2,3,4,5,6,7,8,9,10,11,12,13,14],[12,14]) | _=>([],[]) }),
 (178,{ fn:=Tryz.f178,n:=8,V:=1,cross:=[2,4],ord:=fun _=>([],[]) }),
 (180,{ fn:=Tryz.f180,n:=6,V:=1,cross:=[2],ord:=fun _=>([],[]) }),
 (181,{ fn:=Tryz.f181,n:=25,V:=1,cross:=[2,4,8,14],ord:=fun _=>([],[]) }),
 (182,{ fn:=Tryz.f182,n:=4,V:=1,cross:=[2,3],ord:=fun _=>([],[]) }),
 (183,{ fn:=Tryz.f183,n:=8,V:=1,cross:=[2],ord:=fun _=>([],[]) }),
 (185,{ fn:=Tryz.f185,n:=14,V:=1,cross:=[2,4],ord:=fun _=>([],[]) }),
 (186,{ fn:=Tryz.f186,n:=14,V:=1,cross:=[2,4],ord:=fun _=>([],[]) })]
abbrev eqs:List Nat:=[]
theorem BeZ:∀t,eqs.contains t=true->Tryz.prog.eqGuardType Tryz.prog.depth t=false/\Tryz.prog.stoodInHeld t=false:=by
 intro t h
 exact absurd h (by simp[eqs])
theorem Bil:FrmOk Tryz.prog (Ol Bkl) :=
 FrmOk.cons Tryz.func37 rfl (by decide) <|
 FrmOk.cons Tryz.func38 rfl (by decide) <|
 FrmOk.cons Tryz.func39 rfl (by decide) <|
 FrmOk.cons Tryz.func60 rfl (by decide) <|
 FrmOk.cons Tryz.func61 rfl (by decide) <|
 FrmOk.cons Tryz.func62 rfl (by decide) <|
 FrmOk.cons Tryz.func63 rfl (by decide) <|
 FrmOk.cons Tryz.func120 rfl (by decide) <|
 FrmOk.cons Tryz.func131 rfl (by decide) <|
 FrmOk.cons Tryz.func132 rfl (by decide) <|
 FrmOk.cons Tryz.func134 rfl (by decide) <|
 FrmOk.cons Tryz.func156 rfl (by decide) <|
 FrmOk.cons Tryz.func160 rfl (by decide) <|
 FrmOk.cons Tryz.func161 rfl (by decide) <|
 FrmOk.cons Tryz.func170 rfl (by decide) <|
 FrmOk.cons Tryz.func174 rfl (by decide) <|
 FrmOk.cons Tryz.func175 rfl (by decide) <|
 FrmOk.cons Tryz.func176 rfl (by decide) <|
 FrmOk.cons Tryz.func178 rfl (by decide) <|
 FrmOk.cons Tryz.func180 rfl (by decide) <|
 FrmOk.cons Tryz.func181 rfl (by decide) <|
 FrmOk.cons Tryz.func182 rfl (by decide) <|
 FrmOk.cons Tryz.func183 rfl (by decide) <|
 FrmOk.cons Tryz.func185 rfl (by decide) <|
 FrmOk.cons Tryz.func186 rfl (by decide) <|
 FrmOk.nil _
end Go.Proofs.YtnlplccjbojloaaGreatDoor
namespace Go.Proofs
open Go.Shelf
def Tryz.lays156_ren:Go.Shelf.Ren:=⟨fun | 156=>104 | 165=>38 | 166=>35 | 169=>20 | 240=>40 | 241=>63 | 276=>64 | 277=>86 | n=>n,fun | 31=>53 | 9=>9 | 3=>3 | 4=>4 | 0=>0 | 20=>20 | 72=>50 | 76=>74 | 70=>47 | 37=>48 | 75=>60 | 127=>81 | 164=>100 | 5=>5 | 80=>62 | n=>n,fun | n=>n⟩
theorem Tryz.lays156:Go.Proofs.Lays.n156 Tryz.prog Tryz.lays156_ren:={
 mixed:=by kernel_rfl
 f156:=Tryz.func104.trans (congrArg some (by kernel_rfl))
 f165:=Tryz.func38.trans (congrArg some (by kernel_rfl))
 f166:=Tryz.func35.trans (congrArg some (by kernel_rfl))
 f169:=Tryz.func20.trans (congrArg some (by kernel_rfl))
 f240:=Tryz.func40.trans (congrArg some (by kernel_rfl))
 f241:=Tryz.func63.trans (congrArg some (by kernel_rfl))
 f276:=Tryz.func64.trans (congrArg some (by kernel_rfl))
 f277:=Tryz.func86.trans (congrArg some (by kernel_rfl))
 t0:=Tryz.underlying0
 a0:=Tryz.isAgg0
 z0:=Tryz.sizeOf0
 v0:=Tryz.zeroValue0
 t3:=Tryz.underlying3
 a3:=Tryz.isAgg3
 z3:=Tryz.sizeOf3
 v3:=Tryz.zeroValue3
 t4:=Tryz.underlying4
 a4:=Tryz.isAgg4
 z4:=Tryz.sizeOf4
 v4:=Tryz.zeroValue4
 t9:=Tryz.underlying9
 a9:=Tryz.isAgg9
 z9:=Tryz.sizeOf9
 v9:=Tryz.zeroValue9
 t20:=Tryz.underlying20
 a20:=Tryz.isAgg20
 z20:=Tryz.sizeOf20
 v20:=Tryz.zeroValue20
 t31:=Tryz.underlying53
 a31:=Tryz.isAgg53
 z31:=Tryz.sizeOf53
 v31:=Tryz.zeroValue53
 t37:=Tryz.underlying48
 a37:=Tryz.isAgg48
 z37:=Tryz.sizeOf48
 v37:=Tryz.zeroValue48
 t70:=Tryz.underlying47
 a70:=Tryz.isAgg47
 z70:=Tryz.sizeOf47
 v70:=Tryz.zeroValue47
 t72:=Tryz.underlying50
 a72:=Tryz.isAgg50
 z72:=Tryz.sizeOf50
 v72:=Tryz.zeroValue50
 t75:=Tryz.underlying60
 a75:=Tryz.isAgg60
 z75:=Tryz.sizeOf60
 v75:=Tryz.zeroValue60
 t76:=Tryz.underlying74
 a76:=Tryz.isAgg74
 z76:=Tryz.sizeOf74
 v76:=Tryz.zeroValue74
 t127:=Tryz.underlying81
 a127:=Tryz.isAgg81
 z127:=Tryz.sizeOf81
 v127:=Tryz.zeroValue81
 t164:=Tryz.underlying100
 a164:=Tryz.isAgg100
 z164:=Tryz.sizeOf100
 v164:=Tryz.zeroValue100 }
theorem Tryz.Builder_Extra_156:Builder.Extra Tryz.prog Tryz.lays156_ren:={
 sizeBuilder:=by kernel_rfl
 liesBuilder:=by kernel_rfl
 t5:=Tryz.underlying5
 a5:=Tryz.isAgg5
 z5:=Tryz.sizeOf5
 v5:=Tryz.zeroValue5
 infoByte:=by kernel_rfl
 cellsByte:=by kernel_rfl
 sizeByte:=by kernel_rfl
 neB5:=by decide }
open Go.RowKit in
theorem Tryz.strings_Join_none(a : Option Addr)(c : Nat)(sep : ByteArray)(w : World) :
  Calls Tryz.prog 104 #[.slice a 0 c,.string sep] w fun e w'=>e=.returned (.string ⟨#[]⟩)/\w'=w:=Any.strings_Join_none Tryz.lays156 Tryz.Builder_Extra_156 a c sep w
open Go.RowKit in
theorem Tryz.strings_Join(bk o c : Nat)(xs : List ByteArray)(sep : ByteArray)(w : World)(hcells : ∀(j : Nat) x, xs[j]? =some x -> w.cell? ⟨bk, o+j, none⟩=some (.string x))(hbk : bk<w.heap.size)(hN : xs.length<=140737488355328)(hcap : xs.length<=c)(hlen : (Lib.join (xs.map (·.data.toList)) sep.data.toList).length<=140737488355328) :
  Calls Tryz.prog 104 #[.slice (some ⟨bk,o,none⟩) xs.length c,.string sep] w fun e w'=>e=.returned (.string ⟨(Lib.join (xs.map (·.data.toList)) sep.data.toList).toArray⟩)/\Below w.heap.size w w':=Any.strings_Join Tryz.lays156 Tryz.Builder_Extra_156 bk o c xs sep w hcells hbk hN hcap hlen
def Tryz.laysM171_ren:Go.Shelf.Ren:=⟨fun | 171=>154 | 243=>161 | 246=>170 | 283=>174 | 284=>175 | 285=>176 | 286=>177 | 129=>181 | 317=>180 | 318=>182 | 319=>183 | 320=>184 | 337=>185 | 338=>186 | n=>n,fun | 3=>3 | 9=>9 | 2=>2 | 4=>4 | 171=>161 | 0=>0 | 53=>97 | 37=>48 | 5=>5 | 173=>164 | 212=>168 | 51=>94 | 20=>20 | 213=>169 | 46=>76 | 232=>172 | 233=>173 | n=>n,fun | 17=>1 | 18=>2 | 19=>3 | n=>n⟩
theorem Tryz.laysM171:Go.Proofs.LaysM.n171 Tryz.prog Tryz.laysM171_ren:={
 mixed:=by kernel_rfl
 f129:=Tryz.func181.trans (congrArg some (by kernel_rfl))
 f171:=Tryz.func154.trans (congrArg some (by kernel_rfl))
 f243:=Tryz.func161.trans (congrArg some (by kernel_rfl))
 f246:=Tryz.func170.trans (congrArg some (by kernel_rfl))
 f283:=Tryz.func174.trans (congrArg some (by kernel_rfl))
 f284:=Tryz.func175.trans (congrArg some (by kernel_rfl))
 f285:=Tryz.func176.trans (congrArg some (by kernel_rfl))
 f286:=Tryz.func177.trans (congrArg some (by kernel_rfl))
 f317:=Tryz.func180.trans (congrArg some (by kernel_rfl))
 f318:=Tryz.func182.trans (congrArg some (by kernel_rfl))
 f319:=Tryz.func183.trans (congrArg some (by kernel_rfl))
 f320:=Tryz.func184.trans (congrArg some (by kernel_rfl))
 f337:=Tryz.func185.trans (congrArg some (by kernel_rfl))
 f338:=Tryz.func186.trans (congrArg some (by kernel_rfl))
 t0:=Tryz.underlying0
 a0:=Tryz.isAgg0
 z0:=Tryz.sizeOf0
 v0:=Tryz.zeroValue0
 t2:=Tryz.underlying2
 a2:=Tryz.isAgg2
 z2:=Tryz.sizeOf2
 v2:=Tryz.zeroValue2
 t3:=Tryz.underlying3
 a3:=Tryz.isAgg3
 z3:=Tryz.sizeOf3
 v3:=Tryz.zeroValue3
 t4:=Tryz.underlying4
 a4:=Tryz.isAgg4
 z4:=Tryz.sizeOf4
 v4:=Tryz.zeroValue4
 t5:=Tryz.underlying5
 a5:=Tryz.isAgg5
 z5:=Tryz.sizeOf5
 v5:=Tryz.zeroValue5
 t9:=Tryz.underlying9
 a9:=Tryz.isAgg9
 z9:=Tryz.sizeOf9
 v9:=Tryz.zeroValue9
 t20:=Tryz.underlying20
 a20:=Tryz.isAgg20
 z20:=Tryz.sizeOf20
 v20:=Tryz.zeroValue20
 t37:=Tryz.underlying48
 a37:=Tryz.isAgg48
 z37:=Tryz.sizeOf48
 v37:=Tryz.zeroValue48
 t46:=Tryz.underlying76
 a46:=Tryz.isAgg76
 z46:=Tryz.sizeOf76
 v46:=Tryz.zeroValue76
 t51:=Tryz.underlying94
 a51:=Tryz.isAgg94
 z51:=Tryz.sizeOf94
 v51:=Tryz.zeroValue94
 t53:=Tryz.underlying97
 a53:=Tryz.isAgg97
 z53:=Tryz.sizeOf97
 v53:=Tryz.zeroValue97
 t171:=Tryz.underlying161
 a171:=Tryz.isAgg161
 z171:=Tryz.sizeOf161
 v171:=Tryz.zeroValue161
 t173:=Tryz.underlying164
 a173:=Tryz.isAgg164
 z173:=Tryz.sizeOf164
 v173:=Tryz.zeroValue164
 t212:=Tryz.underlying168
 a212:=Tryz.isAgg168
 z212:=Tryz.sizeOf168
 v212:=Tryz.zeroValue168
 t213:=Tryz.underlying169
 a213:=Tryz.isAgg169
 z213:=Tryz.sizeOf169
 t232:=Tryz.underlying172
 a232:=Tryz.isAgg172
 z232:=Tryz.sizeOf172
 v232:=Tryz.zeroValue172
 t233:=Tryz.underlying173
 a233:=Tryz.isAgg173
 z233:=Tryz.sizeOf173
 v233:=Tryz.zeroValue173
 g17:=by kernel_rfl
 g18:=by kernel_rfl
 g19:=by kernel_rfl
 i0:=by kernel_rfl
 i2:=by kernel_rfl
 i3:=by kernel_rfl
 i4:=by kernel_rfl
 i5:=by kernel_rfl
 i9:=by kernel_rfl
 i20:=by kernel_rfl
 i37:=by kernel_rfl
 i46:=by kernel_rfl
 i51:=by kernel_rfl
 i53:=by kernel_rfl
 i171:=by kernel_rfl
 i173:=by kernel_rfl
 i212:=by kernel_rfl
 i232:=by kernel_rfl
 i233:=by kernel_rfl
 m17:=by kernel_rfl
 m18:=by kernel_rfl
 m19:=by kernel_rfl }
open Go.RowKit Go.Sort Go.Lib in
theorem Tryz.strconv_Itoa(n : Int)(h0 : -9223372036854775808 ≤ n)(h1 : n ≤ 9223372036854775807)(w : World)(htab : Lib.TabIs Tryz.prog w "internal/strconv.uint64pow10" .u64 Lib.pow10Tab) :
  Calls Tryz.prog 154 #[.int .i64 n] w fun e w'=>e=.returned (.string ⟨(Lib.itoa n).toArray⟩)/\∃k os,w'=grow (w.drewN k) os:=Any.strconv_Itoa Tryz.laysM171 n h0 h1 w htab
def Tryz.lays212_ren:Go.Shelf.Ren:=⟨fun | 212=>36 | 263=>60 | 264=>61 | n=>n,fun | 46=>76 | 51=>94 | 146=>95 | 53=>97 | 148=>98 | n=>n,fun | n=>n⟩
theorem Tryz.lays212:Go.Proofs.Lays.n212 Tryz.prog Tryz.lays212_ren:={
 mixed:=by kernel_rfl
 f212:=Tryz.func36.trans (congrArg some (by kernel_rfl))
 f263:=Tryz.func60.trans (congrArg some (by kernel_rfl))
 f264:=Tryz.func61.trans (congrArg some (by kernel_rfl))
 t46:=Tryz.underlying76
 a46:=Tryz.isAgg76
 z46:=Tryz.sizeOf76
 v46:=Tryz.zeroValue76
 t51:=Tryz.underlying94
 a51:=Tryz.isAgg94
 z51:=Tryz.sizeOf94
 v51:=Tryz.zeroValue94
 t53:=Tryz.underlying97
 a53:=Tryz.isAgg97
 z53:=Tryz.sizeOf97
 v53:=Tryz.zeroValue97
 t146:=Tryz.underlying95
 a146:=Tryz.isAgg95
 z146:=Tryz.sizeOf95
 v146:=Tryz.zeroValue95
 t148:=Tryz.underlying98
 a148:=Tryz.isAgg98
 z148:=Tryz.sizeOf98
 v148:=Tryz.zeroValue98 }
open Go.RowKit Go.Lib in
theorem Tryz.bits_Mul(x y : Nat)(hx : x<18446744073709551616)(hy : y<18446744073709551616)(w : World) :
  Calls Tryz.prog 36 #[.int .u64 x,.int .u64 y] w fun e w'=>e=.returned (.tuple #[.int .u64 ((x*y / 18446744073709551616:Nat):Int),.int .u64 ((x*y % 18446744073709551616:Nat):Int)])/\w'=w:=Any.bits_Mul Tryz.lays212 x y hx hy w
def Tryz.lays105_ren:Go.Shelf.Ren:=⟨fun | 105=>18 | 212=>36 | 99=>37 | 165=>38 | 166=>35 | 170=>39 | 169=>20 | 263=>60 | 264=>61 | 206=>62 | 240=>40 | 241=>63 | 276=>64 | 277=>86 | n=>n,fun | 9=>9 | 3=>3 | 4=>4 | 20=>20 | 0=>0 | 46=>76 | 109=>77 | 5=>5 | 72=>50 | 76=>74 | 51=>94 | 146=>95 | 53=>97 | 148=>98 | 70=>47 | 37=>48 | 75=>60 | 127=>81 | 164=>100 | 80=>62 | n=>n,fun | n=>n⟩
theorem Tryz.lays105:Go.Proofs.Lays.n105 Tryz.prog Tryz.lays105_ren:={
 mixed:=by kernel_rfl
 f99:=Tryz.func37.trans (congrArg some (by kernel_rfl))
 f105:=Tryz.func18.trans (congrArg some (by kernel_rfl))
 f165:=Tryz.func38.trans (congrArg some (by kernel_rfl))
 f166:=Tryz.func35.trans (congrArg some (by kernel_rfl))
 f169:=Tryz.func20.trans (congrArg some (by kernel_rfl))
 f170:=Tryz.func39.trans (congrArg some (by kernel_rfl))
 f206:=Tryz.func62.trans (congrArg some (by kernel_rfl))
 f212:=Tryz.func36.trans (congrArg some (by kernel_rfl))
 f240:=Tryz.func40.trans (congrArg some (by kernel_rfl))
 f241:=Tryz.func63.trans (congrArg some (by kernel_rfl))
 f263:=Tryz.func60.trans (congrArg some (by kernel_rfl))
 f264:=Tryz.func61.trans (congrArg some (by kernel_rfl))
 f276:=Tryz.func64.trans (congrArg some (by kernel_rfl))
 f277:=Tryz.func86.trans (congrArg some (by kernel_rfl))
 t0:=Tryz.underlying0
 a0:=Tryz.isAgg0
 z0:=Tryz.sizeOf0
 v0:=Tryz.zeroValue0
 t3:=Tryz.underlying3
 a3:=Tryz.isAgg3
 z3:=Tryz.sizeOf3
 v3:=Tryz.zeroValue3
 t4:=Tryz.underlying4
 a4:=Tryz.isAgg4
 z4:=Tryz.sizeOf4
 v4:=Tryz.zeroValue4
 t5:=Tryz.underlying5
 a5:=Tryz.isAgg5
 z5:=Tryz.sizeOf5
 v5:=Tryz.zeroValue5
 t9:=Tryz.underlying9
 a9:=Tryz.isAgg9
 z9:=Tryz.sizeOf9
 v9:=Tryz.zeroValue9
 t20:=Tryz.underlying20
 a20:=Tryz.isAgg20
 z20:=Tryz.sizeOf20
 v20:=Tryz.zeroValue20
 t37:=Tryz.underlying48
 a37:=Tryz.isAgg48
 z37:=Tryz.sizeOf48
 v37:=Tryz.zeroValue48
 t46:=Tryz.underlying76
 a46:=Tryz.isAgg76
 z46:=Tryz.sizeOf76
 v46:=Tryz.zeroValue76
 t51:=Tryz.underlying94
 a51:=Tryz.isAgg94
 z51:=Tryz.sizeOf94
 v51:=Tryz.zeroValue94
 t53:=Tryz.underlying97
 a53:=Tryz.isAgg97
 z53:=Tryz.sizeOf97
 v53:=Tryz.zeroValue97
 t70:=Tryz.underlying47
 a70:=Tryz.isAgg47
 z70:=Tryz.sizeOf47
 v70:=Tryz.zeroValue47
 t72:=Tryz.underlying50
 a72:=Tryz.isAgg50
 z72:=Tryz.sizeOf50
 v72:=Tryz.zeroValue50
 t75:=Tryz.underlying60
 a75:=Tryz.isAgg60
 z75:=Tryz.sizeOf60
 v75:=Tryz.zeroValue60
 t76:=Tryz.underlying74
 a76:=Tryz.isAgg74
 z76:=Tryz.sizeOf74
 v76:=Tryz.zeroValue74
 t109:=Tryz.underlying77
 a109:=Tryz.isAgg77
 z109:=Tryz.sizeOf77
 v109:=Tryz.zeroValue77
 t127:=Tryz.underlying81
 a127:=Tryz.isAgg81
 z127:=Tryz.sizeOf81
 v127:=Tryz.zeroValue81
 t146:=Tryz.underlying95
 a146:=Tryz.isAgg95
 z146:=Tryz.sizeOf95
 v146:=Tryz.zeroValue95
 t148:=Tryz.underlying98
 a148:=Tryz.isAgg98
 z148:=Tryz.sizeOf98
 v148:=Tryz.zeroValue98
 t164:=Tryz.underlying100
 a164:=Tryz.isAgg100
 z164:=Tryz.sizeOf100
 v164:=Tryz.zeroValue100 }
theorem Tryz.Builder_Extra_105:Builder.Extra Tryz.prog Tryz.lays105_ren:={
 sizeBuilder:=by kernel_rfl
 liesBuilder:=by kernel_rfl
 t5:=Tryz.underlying5
 a5:=Tryz.isAgg5
 z5:=Tryz.sizeOf5
 v5:=Tryz.zeroValue5
 infoByte:=by kernel_rfl
 cellsByte:=by kernel_rfl
 sizeByte:=by kernel_rfl
 neB5:=by decide }
open Go.RowKit Go.Lib in
theorem Tryz.strings_Repeat(s : ByteArray)(c : Nat)(w : World)(hc : c<=9223372036854775807)(hlen : s.size*c<=140737488355328) :
  Calls Tryz.prog 18 #[.string s,.int .i64 c] w fun e w'=>e=.returned (.string ⟨(Lib.repeatL s.data.toList c).toArray⟩)/\Below w.heap.size w w':=Any.strings_Repeat Tryz.lays105 Tryz.Builder_Extra_105 s c w hc hlen
end Go.Proofs
namespace Go.Proofs.YtnlplccjbojloaaGreatDoor
open Go Go.Ab
theorem mix:Tryz.prog.follows .mixedOrders=true:=by kernel_rfl
def SM{α:Type}(x:α):Prop:=x=x
def Z0:Int:=0
def Z1:Int:=1
def N0:Nat:=0
def N1:Nat:=1
def N2:Nat:=2
def N4:Nat:=4
def N6:Nat:=6
def U0:UInt8:=0
def LN{α:Type}(l:List α):Nat:=List.length l
def LI{α:Type}(l:List α):Int:=(↑(List.length l):Int)
def BI(l:List UInt8)(i:Nat):Int:=(↑(UInt8.toNat (List.getD l i (0:UInt8))):Int)
def NI(x:Nat):Int:=(↑x:Int)
def TN(x:Nat):Nat:=Int.toNat (↑x:Int)
def TL{α:Type}(l:List α):Nat:=Int.toNat (↑(List.length l):Int)
def GI(l:List Int)(i:Nat):Int:=List.getD l i (0:Int)
def ZI(a:Int):D:=D.int IntKind.i64 a
def ZB(a:Int):D:=D.int IntKind.u8 a
def SI(l:List Int):D:=D.sl 1 (List.length l) (fun i=>[D.int IntKind.i64 (List.getD l i (0:Int))]) Mode.any
abbrev Con:=Nat->List D->St->Option FnSpec
noncomputable def E0(con:Con)(n V:Nat)(cross:List Nat)(ord:Nat->List Nat×List Nat):Senv where
 P:=Tryz.prog
 tt:=IH tab
 n:=n
 dfs:=[]
 V:=V
 cross:=cross
 gh:=fun _=>[]
 gr:=[]
 unr:=fun _=>0
 cut:=fun _ _ _=>none
 ann:=fun _ _ _=>none
 ord:=ord
 con:=con
 eqs:=eqs
noncomputable def EC(con:Con)(n V:Nat)(cross:List Nat)(ord:Nat->List Nat×List Nat):Senv :=
 { E0 con n V cross ord with auto:=true,inl:=inlD { E0 con 0 0 [] (fun _=>([],[])) with auto:=true } (Ol Bkl) 9 }
abbrev EB:Con:=fun _ _ _=>none
theorem BM:ConOk Tryz.prog EB:=fun _ _ _ _ h=>nomatch h
theorem eOk{con:Con}(hc:ConOk Tryz.prog con){E:Senv}(h:E={ EC con E.n E.V E.cross E.ord with gh:=E.gh,gr:=E.gr,unr:=E.unr,cut:=E.cut,ann:=E.ann,cut2:=E.cut2,ann2:=E.ann2,own:=E.own,gz:=E.gz,mg:=E.mg,pvt:=E.pvt,bcut:=E.bcut,bd:=E.bd }):EnvOk E:=by
 rw[h]
 exact⟨Bec,hc,mix,fun k ds S R h=>BmE (E:={ E0 con 0 0 [] (fun _=>([],[])) with auto:=true }) Bec hc mix Bil BeZ 9 k ds S R h,BeZ⟩
def pC(ds:List D)(d:D)(p:Prop):FnSpec where
 β:=Unit
 α:=Unit
 args:=fun _=>ds
 st:=fun _=>⟨[],[]⟩
 pre:=fun _=>p
 post:=fun _ _=>True
 res:=fun _ _=>.ret d
 out:=fun _ _=>⟨[],[]⟩
 fit:=some ()
def pQ{α:Type}(ds:List D)(d:α->D)(q:α->Prop)(p:Prop):FnSpec where
 β:=Unit
 α:=α
 args:=fun _=>ds
 st:=fun _=>⟨[],[]⟩
 pre:=fun _=>p
 post:=fun _ y=>q y
 res:=fun _ y=>.ret (d y)
 out:=fun _ _=>⟨[],[]⟩
 fit:=some ()
theorem Bm0(S:St):leS ⟨[],[]⟩ S:=by simp[leS,Bb,Go.Ab.nodupB,leO,leT]
theorem BW{k : Nat}{ds : List D}{S : St}{us : List D}{d : D}{p : Prop}(h : p -> BD ds us /\ ACalls Tryz.prog k us ⟨[], []⟩ (SpecR (sC us d) ())) :
  (∀x,(pC us d p).pre x->ACalls Tryz.prog k ((pC us d p).args x) ((pC us d p).st x) (SpecR (pC us d p) x))/\(∀x,(pC us d p).fit=some x->(pC us d p).pre x->BD ds ((pC us d p).args x)/\leS ((pC us d p).st x) S)/\((pC us d p).all=true->∀x,(pC us d p).pre x->BD ds ((pC us d p).args x)/\(pC us d p).st x=S) :=
 ⟨fun _ hp=>(h hp).2.mono fun _ _ ⟨_,_h1,h2,h3⟩=>⟨(),trivial,h2,h3⟩,fun _ _ hp=>⟨(h hp).1,Bm0 S⟩,fun e=>nomatch e⟩
theorem Gi{α:Type}[Inhabited α]{l:List α}{i:Nat}(h:i<l.length):l.drop i=l.getD i default::l.drop (i+1):=by
 rw[List.drop_eq_getElem_cons h]
 simp[List.getD_eq_getElem?_getD,h]
theorem B6{α:Type}[Inhabited α]{l:List α}{i:Nat}(h:i<l.length):l.take (i+1)=l.take i++[l.getD i default]:=by
 rw[List.take_add_one]
 simp[List.getD_eq_getElem?_getD,h]
def RT(p:Prop):Prop:=True/\∃(y:Unit),True/\p/\True/\True
def bsl(l:List UInt8)(m:Ab.Mode):D:=.sl 1 l.length (fun i=>[.int .u8 ((l.getD i 0).toNat:Int)]) m
def isl(l:List Int)(m:Ab.Mode):D:=.sl 1 l.length (fun i=>[.int .i64 (l.getD i 0)]) m
inductive Arr where
 |mk (kind:Int) (shape nums:List Int) (items:List Arr)
def Bt(z:Int):Prop:=-9223372036854775808<=z/\z<=9223372036854775807
mutual
def Arr.row:Arr->List D
 |.mk k s n is=>[.int .i64 k,isl s .any,isl n .any,.sl 4 (OZ is).length (fun i=>(OZ is).getD i []) .any]
def OZ:List Arr->List (List D)
 | []=>[]
 |a::r=>a.row::OZ r
end
mutual
def Arr.ok:Arr->Prop
 |.mk k s n is=>Bt k/\(∀z∈s,Bt z)/\(∀z∈n,Bt z)/\s.length<=maxLen/\n.length<=maxLen/\is.length<=maxLen/\okL is
def okL:List Arr->Prop
 | []=>True
 |a::r=>a.ok/\okL r
end
mutual
/-- Nothing in it is longer than a machine's memory. -/
def Arr.sm:Arr->Prop
 |.mk _ s n is=>s.length<=BC/\n.length<=BC/\is.length<=BC/\smL is
def smL:List Arr->Prop
 | []=>True
 |a::r=>a.sm/\smL r
end
theorem BgF:∀(l:List Arr),smL l↔∀a∈l,a.sm
 | []=>by simp[smL]
 |a::l=>by simp only[smL,List.forall_mem_cons,BgF l]
theorem Ci{n:Nat}(h:n<=BC):n<=maxLen:=Nat.le_trans h (by decide)
theorem G6:∀(l:List Arr),OZ l=l.map Arr.row
 | []=>rfl
 |a::l=>by simp only[OZ,List.map_cons,G6 l]
theorem EY:∀(l:List Arr),okL l↔∀a∈l,a.ok
 | []=>by simp[okL]
 |a::l=>by simp only[okL,List.forall_mem_cons,EY l]
def RInts:List D->Prop:=fun ds=>∃l:List Int,(∀z∈l,Bt z)/\l.length<=BC/\ds=[isl l .any]
def RArr:List D->Prop:=fun ds=>∃a:Arr,(a.ok/\a.sm)/\ds=a.row
theorem Eo:∀x,RInt .i64 x->∃z,Bt z/\x=[.int .i64 z]:=by
 rintro x ⟨n,rfl,h1,h2⟩
 simp only[IntKind.min,IntKind.max,IntKind.signed,IntKind.bits] at h1 h2
 exact⟨n,⟨by simpa using h1,by simp at h2;omega⟩,rfl⟩
theorem R3(W:World)(n:Nat):ReadAt Tryz.prog W n 34 RInts:=by
 cases n with
 |zero=>exact .zero _ _
 |succ n =>
  refine (GD (w:=1) Tryz.underlying34 (by kernel_rfl) (by decide) (by decide +kernel) (IR Tryz.underlying3 W n)).weak ?_
  rintro _ ds vs ⟨l,h1,h2,rfl⟩ h
  obtain ⟨l',q,rfl⟩:=C5 Eo l h1
  refine⟨_,⟨l',q,by simpa using h2,rfl⟩,Ct _ _ ?_ _ _ h⟩
  simp only[isl,BD,Bn,Bb]
  refine⟨⟨by simp,by simp,fun i hi=>?_,by simp[BG]⟩,trivial⟩
  have hi:i<l'.length:=by simpa using hi
  simp[List.getD_eq_getElem?_getD,hi]
theorem BcT(W:World):∀n,ReadAt Tryz.prog W n 37 RArr
 |0=>.zero _ _
 |n+1=>by
  have hi:ReadAt Tryz.prog W n 35 (RSliceA 4 RArr):=by
   cases n with
   |zero=>exact .zero _ _
   |succ m=>exact GD (w:=4) Tryz.underlying35 (by kernel_rfl) (by decide) (by decide +kernel) (BcT W m)
  refine (Io Tryz.underlying37 (by kernel_rfl) (Rs:=[RInt .i64,RInts,RInts,RSliceA 4 RArr]) ⟨IR (by kernel_rfl) W n,R3 W n,R3 W n,hi,trivial⟩).mono ?_
  rintro ds ⟨_,_,h1,⟨_,_,h2,⟨_,_,h3,⟨_,_,h4,h5,rfl⟩,rfl⟩,rfl⟩,rfl⟩
  obtain rfl:_=[]:=h5
  obtain ⟨k,hk,rfl⟩:=Eo _ h1
  obtain ⟨s,s1,s2,rfl⟩:=h2
  obtain ⟨m,m1,m2,rfl⟩:=h3
  obtain ⟨l,l1,l2,rfl⟩:=h4
  obtain ⟨is,q,rfl⟩:=C5 (g:=Arr.row) (Q:=fun a=>a.ok/\a.sm) (fun x hx=>hx) l l1
  have l2:is.length<=BC:=by simpa using l2
  refine⟨.mk k s m is,⟨?_,?_⟩,?_⟩
  ·simp only[Arr.ok]
   exact⟨hk,s1,m1,Ci s2,Ci m2,Ci l2,(EY _).2 fun a ha=>(q a ha).1⟩
  ·simp only[Arr.sm]
   exact⟨s2,m2,l2,(BgF _).2 fun a ha=>(q a ha).2⟩
  ·simp only[Arr.row,G6,List.cons_append,List.nil_append]
def gsl{α:Type}[Inhabited α](w:Nat)(g:α->List D)(l:List α):D:=.sl w l.length (fun i=>g (l.getD i default)) .any
instance:Inhabited Arr:=⟨.mk 0 [] [] []⟩
def DA:Arr:=Arr.mk (0:Int) [] [] []
def GA(l:List Arr)(i:Nat):Arr:=List.getD l i (Arr.mk (0:Int) [] [] [])
def Bg1:List D->Int
 | [.int _ z]=>z
 |_=>0
def Bj(n:Nat)(f:Nat->List D):List Int:=(List.range n).map fun i=>Bg1 (f i)
theorem B0(l:List Int):Bj l.length (fun i=>[D.int .i64 (l.getD i 0)])=l:=by
 apply List.ext_getElem
 ·simp[Bj]
 ·intro i h1 h2
  simp[Bj,Bg1,List.getD_eq_getElem?_getD,h2]
def IntsP(n:Nat)(f:Nat->List D):Prop:=∀i,i<n->f i=[.int .i64 (Bg1 (f i))]
theorem CA{n:Nat}{f:Nat->List D}{m:Ab.Mode}(h:IntsP n f):BD [.sl 1 n f m] [isl (Bj n f) .any]:=by
 simp only[isl,BD,Bn,Bb]
 refine⟨⟨by simp,by simp[Bj],fun i hi=>?_,by simp[BG]⟩,trivial⟩
 have e:(Bj n f).getD i 0=Bg1 (f i):=by simp[Bj,List.getD_eq_getElem?_getD,hi]
 rw[e]
 exact h i hi
def goO:List Int->Int->Option Int
 | [],p=>some p
 |d::r,p=>if d<0\/65536<d then none else if d=0 then goO r p else if 65536<p*d then none else goO r (p*d)
def EZ(s:List Int):Bool:=decide (s.length<=8)&&(goO s 1).isSome
def CK(s:List Int):Int:=if s.contains 0 then 0 else (goO s 1).getD 0
structure GoHead (l:List Int) (i:Nat) (p:Int):Prop where
 hi:i<=l.length
 h1:1<=p
 h2:p<=65536
 hg:goO (l.drop i) p=goO l 1
theorem GoHead.init(l:List Int):GoHead l 0 1:=⟨Nat.zero_le _,by omega,by omega,by simp⟩
theorem Og{l:List Int}{i:Nat}(h:i<l.length):l.drop i=l.getD i 0::l.drop (i+1):=Gi h
theorem GoHead.step{l : List Int}{i : Nat}{p : Int}(h : GoHead l i p)(hlt : i<l.length) :
  (l.getD i 0<0->goO l 1=none)/\(65536<l.getD i 0->goO l 1=none)/\(l.getD i 0=0->GoHead l (i+1) p) /\
  (¬l.getD i 0<0->¬65536<l.getD i 0->0<=p*l.getD i 0/\p*l.getD i 0<=4294967296/\(65536<p*l.getD i 0->l.getD i 0≠0->goO l 1=none)/\(¬65536<p*l.getD i 0->l.getD i 0≠0->GoHead l (i+1) (p*l.getD i 0))):=by
 have hg:=h.hg
 rw[Og hlt,goO] at hg
 generalize l.getD i 0=d at *
 refine⟨fun h0=>?_,fun h0=>?_,fun h0=>?_,fun h0 h3=>?_⟩
 ·rw[if_pos (.inl h0)] at hg;exact hg.symm
 ·rw[if_pos (.inr h0)] at hg;exact hg.symm
 ·subst h0
  simp at hg
  exact⟨by omega,h.h1,h.h2,hg⟩
 ·have b1:0<=p*d:=Int.mul_nonneg (by have:=h.h1;omega) (by omega)
  have b2:p*d<=65536*65536:=Int.mul_le_mul h.h2 (by omega) (by omega) (by omega)
  refine⟨b1,by omega,fun h4 h5=>?_,fun h4 h5=>?_⟩
  ·rw[if_neg (by omega),if_neg h5,if_pos h4] at hg;exact hg.symm
  ·rw[if_neg (by omega),if_neg h5,if_neg h4] at hg
   refine⟨by omega,?_,by omega,hg⟩
   have:0<p*d:=Int.mul_pos (by have:=h.h1;omega) (by omega)
   omega
theorem GoHead.done{l:List Int}{i:Nat}{p:Int}(h:GoHead l i p)(hge:¬(i:Int)<l.length):goO l 1=some p:=by
 have hg:=h.hg
 have:i=l.length:=by have:=h.hi;omega
 rw[this,List.drop_length,goO] at hg
 exact hg.symm
noncomputable def Eright(l:List Int):Senv:={ EC EB 31 1 [2,3,5,8,9,10,11,12,15,22,29] (fun _=>([],[])) with
 ann:=fun b _ _=>match b with
  |0=>some { slots:=[11,3],keep:=[9,10],α:=Nat×Int,st:=fun y=>([.int .i64 y.1,.int .i64 y.2],⟨[],[]⟩),inv:=fun y=>GoHead l y.1 y.2,mu:=fun y=>l.length-y.1 }
  |_=>none }
noncomputable section
def Qgp(a:List Int):Prop:=True/\∃(_y:Unit),True/\false=EZ a/\True/\True
def Qad(a:List Int)(b:Nat)(c:Int):Prop:=GoHead a b c
def VO(a:List Int)(b:Nat):Int:=GI a (Int.toNat (↑b:Int))
def Qgq(a:List Int)(b:Nat):Bool:=bif decide (VO a b<Z0) then true else decide ((65536:Int)<VO a b)
def QND(a:List Int):D:=SI a
def Qnm(a:List Int):Prop:=SM (QND a)/\SM (ZI (LI a))/\True
end
theorem BjI(l:List Int):ACalls Tryz.prog 133 [isl l .any] ⟨[],[]⟩ (SpecR (sC [isl l .any] (.bool (EZ l))) ()):=by
 refine Bg (A:=sC _ _) (x:=()) (E:=Eright l) (eOk BM rfl) Tryz.func133 rfl (by kernel_rfl) rfl (by simp[sC,Eright,EC,E0]) ?_
 refine Bi (T :=
  ifB (decide ((8:Int)<(LI l))) (Qgp l) ((∃(x:Nat×Int),Qad l x.1 x.2/\(Z0=(NI x.1)/\Z1=x.2/\True)/\True/\True)/\∀(x:Nat×Int),Qad l x.1 x.2->ifB (decide ((NI x.1)<(LI l))) (Bc (Z0<=(NI x.1)/\(NI x.1)<(LI l)) (ifB (decide (VO l x.1<Z0)) (true=Qgq l x.1/\True) (decide ((65536:Int)<VO l x.1)=Qgq l x.1/\True)/\ifB (Qgq l x.1) (Qgp l) (ifB (VO l x.1==Z0) (Qnm l/\∃(y:Nat×Int),Qad l y.1 y.2/\LN l-y.1<LN l-x.1/\(IntKind.wrap IntKind.i64 ((NI x.1)+Z1)=(NI y.1)/\x.2=y.2/\True)/\True/\True) (ifB (decide ((65536:Int)<IntKind.wrap IntKind.i64 (x.2*VO l x.1))) (Qgp l) (Qnm l/\∃(y:Nat×Int),Qad l y.1 y.2/\LN l-y.1<LN l-x.1/\(IntKind.wrap IntKind.i64 ((NI x.1)+Z1)=(NI y.1)/\IntKind.wrap IntKind.i64 (x.2*VO l x.1)=y.2/\True)/\True/\True))))) (RT (true=EZ l)))) (by kernel_rfl) ?_
 delta GI LI LN N1 NI SI SM Z0 Z1 ZI Qgp Qad VO Qgq QND Qnm RT
 simp only[Int.toNat_natCast,Bf,Bd,decide_eq_true_eq,decide_eq_false_iff_not,true_and,and_true,beq_iff_eq,Bool.cond_true_left,beq_eq_false_iff_ne,ne_eq,exists_const]
 have no:goO l 1=none->false=EZ l:=fun h=>by simp[EZ,h]
 refine⟨fun h=>?_,fun h8=>⟨⟨(0,1),GoHead.init l,rfl,rfl⟩,?_⟩⟩
 ·have:¬l.length<=8:=by omega
  simp[EZ,this]
 rintro ⟨i,p⟩ hh
 simp only at hh ⊢
 refine⟨fun hlt=>?_,fun hge=>?_⟩
 rotate_left
 ·have:l.length<=8:=by omega
  simp[EZ,hh.done hge,this]
 have hlt':i<l.length:=by omega
 obtain ⟨s1,s2,s3,s4⟩:=hh.step hlt'
 refine⟨by omega,⟨fun h=>by rw[decide_eq_true h];rfl,fun h=>by rw[decide_eq_false h];rfl⟩,fun h=>no ?_,fun h=>?_⟩
 ·rw[Bool.or_eq_true,decide_eq_true_eq,decide_eq_true_eq] at h
  exact h.elim s1 s2
 ·rw[Bool.or_eq_false_iff,decide_eq_false_iff_not,decide_eq_false_iff_not] at h
  obtain ⟨b1,b2,s5,s6⟩:=s4 h.1 h.2
  have hw:IntKind.i64.wrap (p*l.getD i 0)=p*l.getD i 0:=Ba (by omega) (by omega)
  rw[hw]
  exact⟨fun hd=>⟨(i+1,p),s3 hd,by simp only;omega,Ba (by omega) (by omega),rfl⟩,fun hd=>⟨fun h4=>no (s5 h4 hd),fun h4=>⟨(i+1,p*l.getD i 0),s6 h4 hd,by simp only;omega,Ba (by omega) (by omega),rfl⟩⟩⟩
noncomputable def Erprod(l:List Int):Senv:={ EC EB 30 1 [2,3,4,8,15,20,28] (fun _=>([],[])) with
 ann:=fun b _ _=>match b with
  |0=>some { slots:=[4,3],keep:=[0],α:=Nat×Int,st:=fun y=>([.int .i64 y.1,.int .i64 y.2],⟨[],[]⟩),inv:=fun y=>GoHead l y.1 y.2,mu:=fun y=>l.length-y.1 }
  |_=>none }
noncomputable section
def Qae(a:List Int)(b:Nat)(c:Int):Prop:=GoHead a b c
def Qgr(a:List Int):Prop:=True/\∃(_y:Unit),True/\(65537:Int)=Option.getD (goO a Z1) (65537:Int)/\True/\True
def QNE(a:List Int):D:=SI a
def Qnn(a:List Int):Prop:=SM (QNE a)/\True
end
theorem BkY(l:List Int)(h0:∀z∈l,0<=z)(hl:l.length<=maxLen):ACalls Tryz.prog 158 [isl l .any] ⟨[],[]⟩ (SpecR (sC [isl l .any] (.int .i64 ((goO l 1).getD 65537))) ()):=by
 refine Bg (A:=sC _ _) (x:=()) (E:=Erprod l) (eOk BM rfl) Tryz.func158 rfl (by kernel_rfl) rfl (by simp[sC,Erprod,EC,E0]) ?_
 refine Bi (T :=
  (∃(x:Nat×Int),Qae l x.1 x.2/\(Z0=(NI x.1)/\Z1=x.2/\True)/\True/\True)/\∀(x:Nat×Int),Qae l x.1 x.2->ifB (decide ((NI x.1)<(LI l))) (Bc (Z0<=(NI x.1)/\(NI x.1)<(LI l)) (ifB (decide ((65536:Int)<GI l (TN x.1))) (Qgr l) (Bc (Z0<=(NI x.1)/\(NI x.1)<(LI l)) (ifB (decide (Z0<GI l (TN x.1))) (Bc (Z0<=(NI x.1)/\(NI x.1)<(LI l)) (ifB (decide ((65536:Int)<IntKind.wrap IntKind.i64 (x.2*GI l (TN x.1)))) (Qgr l) (Qnn l/\∃(y:Nat×Int),Qae l y.1 y.2/\LN l-y.1<LN l-x.1/\(IntKind.wrap IntKind.i64 ((NI x.1)+Z1)=(NI y.1)/\IntKind.wrap IntKind.i64 (x.2*GI l (TN x.1))=y.2/\True)/\True/\True))) (ifB (decide ((65536:Int)<x.2)) (Qgr l) (Qnn l/\∃(y:Nat×Int),Qae l y.1 y.2/\LN l-y.1<LN l-x.1/\(IntKind.wrap IntKind.i64 ((NI x.1)+Z1)=(NI y.1)/\x.2=y.2/\True)/\True/\True)))))) (RT (x.2=Option.getD (goO l Z1) (65537:Int)))) (by kernel_rfl) ?_
 delta GI LI LN N1 NI SI SM TN Z0 Z1 ZI Qae Qgr QNE Qnn RT
 simp only[Int.toNat_natCast,Bf,Bd,decide_eq_true_eq,decide_eq_false_iff_not,true_and,and_true,exists_const]
 have no:goO l 1=none->(65537:Int)=(goO l 1).getD 65537:=fun h=>by simp[h]
 refine⟨⟨(0,1),GoHead.init l,rfl,rfl⟩,?_⟩
 rintro ⟨i,p⟩ hh
 simp only at hh ⊢
 refine⟨fun hlt=>?_,fun hge=>by simp[hh.done hge]⟩
 have hlt':i<l.length:=by omega
 obtain ⟨s1,s2,s3,s4⟩:=hh.step hlt'
 have hd0:0<=l.getD i 0:=h0 _ (by rw[List.getD_eq_getElem?_getD,List.getElem?_eq_getElem hlt'];exact List.getElem_mem hlt')
 simp only[maxLen] at hl
 refine⟨by omega,fun h=>no (s2 h),fun h=>⟨by omega,?_⟩⟩
 obtain ⟨b1,b2,s5,s6⟩:=s4 (by omega) h
 have hw:IntKind.i64.wrap (p*l.getD i 0)=p*l.getD i 0:=Ba (by omega) (by omega)
 rw[hw]
 refine⟨fun hd=>⟨by omega,fun h4=>no (s5 h4 (by omega)),fun h4=>⟨(i+1,p*l.getD i 0),s6 h4 (by omega),by simp only;omega,Ba (by omega) (by omega),rfl⟩⟩,fun hd=>⟨fun h4=>absurd h4 (by have:=hh.h2;omega),fun _=>⟨(i+1,p),s3 (by omega),by simp only;omega,Ba (by omega) (by omega),rfl⟩⟩⟩
theorem Bh2(s:List UInt8)(n:Int)(h0:0<=n)(hn:n<=9223372036854775807)(hl:s.length*n.toNat<=140737488355328):ACalls Tryz.prog 18 [.str s,.int .i64 n] ⟨[],[]⟩ (SpecR (sC [.str s,.int .i64 n] (.str (Lib.repeatL s n.toNat))) ()):=by
 refine ACalls.of_shelf ⟨_,Tryz.func18,by kernel_rfl,by kernel_rfl⟩ fun C args w ha=>?_
 obtain ⟨u,v,e,hu,hv⟩:=GW ha
 have e2:args=[u,v].toArray:=by rw[<- e]
 subst e2
 simp only[Rep] at hu hv;subst hu hv
 have:=Tryz.strings_Repeat ⟨s.toArray⟩ n.toNat w (by omega) (by simpa[ByteArray.size] using hl)
 rw[show ((n.toNat:Nat):Int)=n by omega] at this
 exact this.mono fun e w' ⟨h1,h2⟩=>⟨⟨_,h1,by simp[Rep]⟩,h2⟩
def BmH:Con:=fun k ds _=>match k with
 |18=>match ds with
  | [.str s,.int .i64 n]=>some (pC [.str s,.int .i64 n] (.str (Lib.repeatL s n.toNat)) (0<=n/\n<=9223372036854775807/\s.length*n.toNat<=140737488355328))
  |_=>none
 |_=>none
theorem Bgw:ConOk Tryz.prog BmH:=by
 intro k ds S A h
 unfold BmH at h
 split at h
 ·split at h
  ·injection h with h;subst h
   exact BW fun ⟨h1,h2,h3⟩=>⟨Bk _,Bh2 _ _ h1 h2 h3⟩
  ·cases h
 ·cases h
theorem Tc(s:List UInt8):∀i,Lib.repeatL s i++s=Lib.repeatL s (i+1)
 |0=>by simp[Lib.repeatL]
 |i+1=>by rw[Lib.repeatL,List.append_assoc,Tc s i,<- Lib.repeatL]
def Ii(p:Int->Bool):List Int->Nat->Int
 | [],_=>-1
 |d::r,i=>if p d then (i:Int) else Ii p r (i+1)
theorem Tf(p:Int->Bool):∀(l:List Int) (i:Nat),decide (0<=Ii p l i)=l.any p
 | [],i=>rfl
 |d::r,i=>by
  rw[Ii,List.any_cons]
  split
  ·rename_i h;rw[h];simp
  ·rename_i h
   rw[Tf p r (i+1)]
   simp[h]
structure IdxHead (p:Int->Bool) (l:List Int) (i:Nat):Prop where
 hi:i<=l.length
 hg:Ii p (l.drop i) i=Ii p l 0
theorem IdxHead.step{p:Int->Bool}{l:List Int}{i:Nat}(h:IdxHead p l i)(hlt:i<l.length):(p (l.getD i 0)=true->Ii p l 0=i)/\(p (l.getD i 0)=false->IdxHead p l (i+1)):=by
 have hg:=h.hg
 rw[Og hlt,Ii] at hg
 refine⟨fun e=>?_,fun e=>?_⟩
 ·rw[if_pos e] at hg;exact hg.symm
 ·rw[if_neg (by rw[e];exact Bool.false_ne_true)] at hg;exact⟨by omega,hg⟩
theorem IdxHead.done{p:Int->Bool}{l:List Int}{i:Nat}(h:IdxHead p l i)(hge:¬(i:Int)<l.length):Ii p l 0 = -1:=by
 have hg:=h.hg
 have:i=l.length:=by have:=h.hi;omega
 rw[this,List.drop_length,Ii] at hg
 exact hg.symm
def BpE(p:Int->Bool)(l:List Int)(keep:List Nat):LoopAnn:={ slots:=[8],keep:=keep,α:=Nat,st:=fun i=>([.int .i64 i],⟨[],[]⟩),inv:=fun i=>IdxHead p l i,mu:=fun i=>l.length-i }
noncomputable def Eidx(l:List Int)(v:Int):Senv:={ EC EB 19 2 [4,5,7,8,9,16] (fun _=>([],[])) with
 ann:=fun b _ _=>match b with
  |0=>some (BpE (fun d=>v==d) l [0,1,6,7])
  |_=>none }
noncomputable section
def Qgs(a:Int)(b:List Int)(c:Nat):Prop:=IdxHead (fun (d:Int)=>a==d) b c
def QNF(a:List Int):D:=SI a
end
theorem BoS(l:List Int)(v:Int)(hl:l.length<=maxLen):ACalls Tryz.prog 169 [isl l .any,.int .i64 v] ⟨[],[]⟩ (SpecR (sC [isl l .any,.int .i64 v] (.int .i64 (Ii (fun d=>v==d) l 0))) ()):=by
 refine Bg (A:=sC _ _) (x:=()) (E:=Eidx l v) (eOk BM rfl) Tryz.func169 rfl (by kernel_rfl) rfl (by simp[sC,Eidx,EC,E0]) ?_
 refine Bi (T :=
  (∃(x:Nat),Qgs v l x/\(Z0=(↑x:Int)/\True)/\True/\True)/\∀(x:Nat),Qgs v l x->ifB (decide ((↑x:Int)<(LI l))) (Bc (Z0<=(↑x:Int)/\(↑x:Int)<(LI l)) (ifB (v==GI l (Int.toNat (↑x:Int))) (RT ((↑x:Int)=Ii (fun (d:Int)=>v==d) l N0)) ((SM (QNF l)/\SM (ZI v)/\SM D.unk/\SM (ZI (LI l))/\True)/\∃(y:Nat),Qgs v l y/\LN l-y<LN l-x/\(IntKind.wrap IntKind.i64 ((↑x:Int)+Z1)=(↑y:Int)/\True)/\True/\True))) (RT ((-1:Int)=Ii (fun (d:Int)=>v==d) l N0))) (by kernel_rfl) ?_
 delta GI LI LN N0 N1 SI SM Z0 Z1 ZI Qgs QNF RT
 simp only[Int.toNat_natCast,Bf,Bd,decide_eq_true_eq,decide_eq_false_iff_not,true_and,and_true,exists_const]
 simp only[maxLen] at hl
 refine⟨⟨0,⟨Nat.zero_le _,by simp⟩,rfl⟩,fun i hh=>⟨fun hlt=>?_,fun hge=>(hh.done hge).symm⟩⟩
 have hlt':i<l.length:=by omega
 obtain ⟨s1,s2⟩:=hh.step hlt'
 exact⟨by omega,fun h=>(s1 h).symm,fun h=>⟨i+1,s2 h,by omega,Ba (by omega) (by omega)⟩⟩
noncomputable def Eneg(l:List Int):Senv:={ EC EB 19 2 [4,5,7,8,9,16] (fun _=>([],[])) with
 ann:=fun b _ _=>match b with
  |0=>some (BpE (fun d=>decide (d<0)) l [0,1,6,7])
  |_=>none }
noncomputable section
def Qgt(a:List Int)(b:Nat):Prop:=IdxHead (fun (d:Int)=>decide (d<Z0)) a b
def Qno(a:List Int):Int:=Ii (fun (d:Int)=>decide (d<Z0)) a N0
def QNG(a:List Int):D:=SI a
end
theorem BoT(l:List Int)(hl:l.length<=maxLen):ACalls Tryz.prog 152 [isl l .any,.fn (.func 132) [] []] ⟨[],[]⟩ (SpecR (sC [isl l .any,.fn (.func 132) [] []] (.int .i64 (Ii (fun d=>decide (d<0)) l 0))) ()):=by
 refine Bg (A:=sC _ _) (x:=()) (E:=Eneg l) (eOk BM rfl) Tryz.func152 rfl (by kernel_rfl) rfl (by simp[sC,Eneg,EC,E0]) ?_
 refine Bi (T :=
  (∃(x:Nat),Qgt l x/\(Z0=(↑x:Int)/\True)/\True/\True)/\∀(x:Nat),Qgt l x->ifB (decide ((↑x:Int)<(LI l))) (Bc (Z0<=(↑x:Int)/\(↑x:Int)<(LI l)) (True/\ifB (decide (GI l (Int.toNat (↑x:Int))<Z0)) (RT ((↑x:Int)=Qno l)) ((SM (QNG l)/\SM (D.fn (Fn.func (132:Nat)) [] [])/\SM D.unk/\SM (ZI (LI l))/\True)/\∃(y:Nat),Qgt l y/\LN l-y<LN l-x/\(IntKind.wrap IntKind.i64 ((↑x:Int)+Z1)=(↑y:Int)/\True)/\True/\True))) (RT ((-1:Int)=Qno l))) (by kernel_rfl) ?_
 delta GI LI LN N0 N1 SI SM Z0 Z1 ZI Qgt Qno QNG RT
 simp only[Int.toNat_natCast,Bf,Bd,decide_eq_true_eq,decide_eq_false_iff_not,true_and,and_true,exists_const]
 simp only[maxLen] at hl
 refine⟨⟨0,⟨Nat.zero_le _,by simp⟩,rfl⟩,fun i hh=>⟨fun hlt=>?_,fun hge=>(hh.done hge).symm⟩⟩
 have hlt':i<l.length:=by omega
 obtain ⟨s1,s2⟩:=hh.step hlt'
 exact⟨by omega,fun h=>(s1 (decide_eq_true h)).symm,fun h=>⟨i+1,s2 (decide_eq_false h),by omega,Ba (by omega) (by omega)⟩⟩
theorem BQ(l:List Int):IntsP l.length (fun i=>[D.int .i64 (l.getD i 0)]):=fun _ _=>rfl
def Bag:Con:=fun k ds S=>match k with
 |169=>match ds with
  | [.sl 1 n f _,.int .i64 v]=>some (pC ds (.int .i64 (Ii (fun d=>v==d) (Bj n f) 0)) (IntsP n f/\n<=maxLen))
  |_=>none
 |152=>match ds with
  | [.sl 1 n f _,.fn (.func 132) [] []]=>some (pC ds (.int .i64 (Ii (fun d=>decide (d<0)) (Bj n f) 0)) (IntsP n f/\n<=maxLen))
  |_=>none
 |133=>match ds with
  | [.sl 1 n f _]=>some (pC ds (.bool (EZ (Bj n f))) (IntsP n f))
  |_=>none
 |158=>match ds with
  | [.sl 1 n f _]=>some (pC ds (.int .i64 ((goO (Bj n f) 1).getD 65537)) (IntsP n f/\(∀z∈Bj n f,0<=z)/\n<=maxLen))
  |_=>none
 |k=>BmH k ds S
theorem BL(n:Nat)(f:Nat->List D):(Bj n f).length=n:=by simp[Bj]
theorem B9{k:Nat}{ds us:List D}{d:D}(hw:BD ds us)(h:ACalls Tryz.prog k us ⟨[],[]⟩ (SpecR (sC us d) ())):ACalls Tryz.prog k ds ⟨[],[]⟩ (SpecR (sC ds d) ()) :=
 (ACalls.weakArgs h hw).mono fun _ _ ⟨_,_h1,h2,h3⟩=>⟨(),trivial,h2,h3⟩
theorem To:ConOk Tryz.prog Bag:=by
 intro k ds S A h
 unfold Bag at h
 split at h
 ·split at h
  ·injection h with h;subst h
   exact BW fun ⟨h1,h2⟩=>⟨Bk _,B9 (us:=[isl (Bj _ _) .any,_]) ⟨(CA h1).1,Bp _,trivial⟩ (BoS _ _ (by rw[BL];exact h2))⟩
  ·cases h
 ·split at h
  ·injection h with h;subst h
   exact BW fun ⟨h1,h2⟩=>⟨Bk _,B9 (us:=[isl (Bj _ _) .any,_]) ⟨(CA h1).1,Bp _,trivial⟩ (BoT _ (by rw[BL];exact h2))⟩
  ·cases h
 ·split at h
  ·injection h with h;subst h
   exact BW fun h1=>⟨Bk _,B9 (CA h1) (BjI _)⟩
  ·cases h
 ·split at h
  ·injection h with h;subst h
   exact BW fun ⟨h1,h2,h3⟩=>⟨Bk _,B9 (CA h1) (BkY _ h2 (by rw[BL];exact h3))⟩
  ·cases h
 ·exact Bgw _ _ _ _ h
noncomputable def Eprod(l:List Int):Senv:={ EC Bag 19 1 [2,3,5,7,8,9,10,11] (fun _=>([],[])) with
 ann:=fun b _ _=>match b with
  |0=>some { slots:=[10,3],keep:=[8,9],α:=Nat×Int,st:=fun y=>([.int .i64 y.1,.int .i64 y.2],⟨[],[]⟩),inv:=fun y=>GoHead l y.1 y.2,mu:=fun y=>l.length-y.1 }
  |_=>none }
noncomputable section
def QNH(a:List Int):D:=SI a
end
theorem Bm2(l:List Int)(h:EZ l=true):ACalls Tryz.prog 153 [isl l .any] ⟨[],[]⟩ (SpecR (sC [isl l .any] (.int .i64 (CK l))) ()):=by
 refine Bg (A:=sC _ _) (x:=()) (E:=Eprod l) (eOk To rfl) Tryz.func153 rfl (by kernel_rfl) rfl (by simp[sC,Eprod,EC,E0]) ?_
 refine Bi (T :=
  ((IntsP (LN l) fun i=>[ZI (GI l i)])/\LN l<=9223372036854775807)/\∀(y:Unit),True->True/\ifB (decide (Z0<=Ii (fun (d:Int)=>Z0==d) (Bj (LN l) fun i=>[ZI (GI l i)]) N0)) (RT (Z0=CK l)) ((∃(x:Nat×Int),GoHead l x.1 x.2/\(Z0=(NI x.1)/\Z1=x.2/\True)/\True/\True)/\∀(x:Nat×Int),GoHead l x.1 x.2->ifB (decide ((NI x.1)<(LI l))) (Bc (Z0<=(NI x.1)/\(NI x.1)<(LI l)) ((SM (QNH l)/\SM (ZI (LI l))/\True)/\∃(y:Nat×Int),GoHead l y.1 y.2/\LN l-y.1<LN l-x.1/\(IntKind.wrap IntKind.i64 ((NI x.1)+Z1)=(NI y.1)/\IntKind.wrap IntKind.i64 (x.2*GI l (TN x.1))=y.2/\True)/\True/\True)) (RT (x.2=CK l)))) (by kernel_rfl) ?_
 delta GI LI LN N0 N1 NI SI SM TN Z0 Z1 ZI QNH RT
 simp only[B0,Tf,Int.toNat_natCast,Bf,Bd,decide_eq_true_eq,decide_eq_false_iff_not,true_and,and_true,exists_const]
 simp only[EZ,Bool.and_eq_true,decide_eq_true_eq] at h
 have hcon:(l.any fun d=>0==d)=l.contains 0:=by
  rw[Bool.eq_iff_iff,List.contains_iff_mem,List.any_eq_true]
  constructor
  ·rintro ⟨z,hz,e⟩
   have e:0=z:=by simpa using e
   rw[e];exact hz
  ·exact fun hm=>⟨0,hm,rfl⟩
 rw[hcon]
 refine⟨⟨BQ l,by omega⟩,fun _ _=>⟨fun hz=>by rw[CK,if_pos hz],fun hz=>⟨⟨(0,1),GoHead.init l,rfl,rfl⟩,?_⟩⟩⟩
 rintro ⟨i,p⟩ hh
 simp only at hh ⊢
 refine⟨fun hlt=>?_,fun hge=>by rw[CK,if_neg (by rw[hz];exact Bool.false_ne_true),hh.done hge];rfl⟩
 have hlt':i<l.length:=by omega
 obtain ⟨s1,s2,s3,s4⟩:=hh.step hlt'
 have hne:l.getD i 0≠0:=by
  intro e
  have:l.contains 0=true:=by
   rw[List.contains_iff_mem,<- e,List.getD_eq_getElem?_getD,List.getElem?_eq_getElem hlt'];exact List.getElem_mem hlt'
  rw[this] at hz;cases hz
 have n1:¬l.getD i 0<0:=fun e=>by rw[s1 e] at h;exact absurd h.2 (by simp)
 have n2:¬65536<l.getD i 0:=fun e=>by rw[s2 e] at h;exact absurd h.2 (by simp)
 obtain ⟨b1,b2,s5,s6⟩:=s4 n1 n2
 have n3:¬65536<p*l.getD i 0:=fun e=>by rw[s5 e hne] at h;exact absurd h.2 (by simp)
 exact⟨by omega,(i+1,p*l.getD i 0),s6 n3 hne,by simp only;omega,Ba (by omega) (by omega),Ba (by omega) (by omega)⟩
noncomputable def Edims(l:List Int):Senv:={ EC Bag 21 1 [2,3,6,10,17,20] (fun _=>([],[])) with
 ann:=fun b _ _=>match b with
  |0=>some { slots:=[3],keep:=[0],α:=Nat,st:=fun i=>([.int .i64 i],⟨[],[]⟩),inv:=fun i=>i<=l.length/\∀z∈l.take i,0<=z,mu:=fun i=>l.length-i }
  |_=>none }
theorem BaT:∀(l:List Int) (p:Int),p<=65536->∀q,goO l p=some q->q<=65536
 | [],p,hp,q,h=>by rw[goO] at h;injection h with h;omega
 |d::r,p,hp,q,h=>by
  rw[goO] at h
  split at h
  ·cases h
  ·split at h
   ·exact BaT r p hp q h
   ·split at h
    ·cases h
    ·exact BaT r _ (by omega) q h
def Ef(s:List Int):Int:=if 8<s.length then 15 else if s.any (fun d=>decide (d<0)) then 16 else if (goO s 1).isSome then 0 else 21
noncomputable section
def Qaf(a:List Int):Int:=Ef a
def Qgu(a:Nat)(b:List Int):Prop:=a<=LN b/\∀(z:Int),z∈List.take a b->Z0<=z
def QNI(a:List Int):D:=SI a
def Qnp(a:List Int):List Int:=Bj (LN a) fun i=>[ZI (GI a i)]
end
theorem Bm9(l:List Int):ACalls Tryz.prog 143 [isl l .any] ⟨[],[]⟩ (SpecR (sC [isl l .any] (.int .i64 (Ef l))) ()):=by
 refine Bg (A:=sC _ _) (x:=()) (E:=Edims l) (eOk To rfl) Tryz.func143 rfl (by kernel_rfl) rfl (by simp[sC,Edims,EC,E0]) ?_
 refine Bi (T :=
  ifB (decide ((8:Int)<(LI l))) (RT ((15:Int)=Qaf l)) ((∃(x:Nat),Qgu x l/\(Z0=(↑x:Int)/\True)/\True/\True)/\∀(x:Nat),Qgu x l->ifB (decide ((↑x:Int)<(LI l))) (Bc (Z0<=(↑x:Int)/\(↑x:Int)<(LI l)) (ifB (decide (GI l (Int.toNat (↑x:Int))<Z0)) (RT ((16:Int)=Qaf l)) ((SM (QNI l)/\True)/\∃(y:Nat),Qgu y l/\LN l-y<LN l-x/\(IntKind.wrap IntKind.i64 ((↑x:Int)+Z1)=(↑y:Int)/\True)/\True/\True))) (((IntsP (LN l) fun i=>[ZI (GI l i)])/\(∀(z:Int),z∈Qnp l->Z0<=z)/\LN l<=9223372036854775807)/\∀(y:Unit),True->ifB (decide ((65536:Int)<Option.getD (goO (Qnp l) Z1) (65537:Int))) (RT ((21:Int)=Qaf l)) (RT (Z0=Qaf l))))) (by kernel_rfl) ?_
 delta GI LI LN N1 SI SM Z0 Z1 ZI Qaf Qgu QNI Qnp RT
 simp only[B0,Int.toNat_natCast,Bf,Bd,decide_eq_true_eq,decide_eq_false_iff_not,true_and,and_true,exists_const]
 have tk:∀i,i<l.length->∀P:Int->Prop,(∀z∈l.take i,P z)->P (l.getD i 0)->∀z∈l.take (i+1),P z:=fun i hi P h1 h2 z hz=>by
  rw[List.take_add_one,List.mem_append] at hz
  rcases hz with hz | hz
  ·exact h1 z hz
  ·rw[List.getElem?_eq_getElem hi] at hz
   simp at hz
   rw[hz]
   simpa[List.getD_eq_getElem?_getD,hi] using h2
 refine⟨fun h=>?_,fun h8=>⟨⟨0,⟨Nat.zero_le _,by simp⟩,rfl⟩,fun i hh=>⟨fun hlt=>?_,fun hge=>?_⟩⟩⟩
 ·have:8<l.length:=by omega
  simp[Ef,this]
 ·have hlt':i<l.length:=by omega
  have h8':¬8<l.length:=by omega
  refine⟨by omega,fun h=>?_,fun h=>⟨i+1,⟨by omega,tk i hlt' _ hh.2 (by omega)⟩,by omega,Ba (by omega) (by omega)⟩⟩
  have:l.any (fun d=>decide (d<0))=true:=by
   rw[List.any_eq_true]
   refine⟨l.getD i 0,?_,decide_eq_true h⟩
   rw[List.getD_eq_getElem?_getD,List.getElem?_eq_getElem hlt'];exact List.getElem_mem hlt'
  rw[Ef,if_neg h8',if_pos this]
 ·have hi:i=l.length:=by omega
  rw[hi,List.take_length] at hh
  have h8':¬8<l.length:=by omega
  have hnn:¬l.any (fun d=>decide (d<0))=true:=by
   rw[List.any_eq_true]
   rintro ⟨z,hz,h⟩
   have:=hh.2 z hz
   simp at h
   omega
  refine⟨⟨BQ l,hh.2,by omega⟩,fun _ _=>?_⟩
  rw[Ef,if_neg h8',if_neg hnn]
  have hb:=BaT l 1 (by omega)
  cases hg:goO l 1 with
  |none=>simp
  |some p=>have:=hb p hg;simp;omega
noncomputable def Ecount(l:List Int):Senv:={ EC Bag 17 1 [2,3,7,14] (fun _=>([],[])) with
 ann:=fun b _ _=>match b with
  |0=>some { slots:=[3],keep:=[0],α:=Nat,st:=fun i=>([.int .i64 i],⟨[],[]⟩),inv:=fun i=>i<=l.length/\∀z∈l.take i,z≠0,mu:=fun i=>l.length-i }
  |_=>none }
noncomputable section
def Qgv(a:Nat)(b:List Int):Prop:=a<=LN b/\∀(z:Int),z∈List.take a b->z≠Z0
def QNJ(a:List Int):D:=SI a
def Qnq(a:List Int):List Int:=Bj (LN a) fun i=>[ZI (GI a i)]
end
theorem BjM(l:List Int)(h:Ef l=0):ACalls Tryz.prog 145 [isl l .any] ⟨[],[]⟩ (SpecR (sC [isl l .any] (.int .i64 (CK l))) ()):=by
 refine Bg (A:=sC _ _) (x:=()) (E:=Ecount l) (eOk To rfl) Tryz.func145 rfl (by kernel_rfl) rfl (by simp[sC,Ecount,EC,E0]) ?_
 refine Bi (T :=
  (∃(x:Nat),Qgv x l/\(Z0=(↑x:Int)/\True)/\True/\True)/\∀(x:Nat),Qgv x l->ifB (decide ((↑x:Int)<(LI l))) (Bc (Z0<=(↑x:Int)/\(↑x:Int)<(LI l)) (ifB (GI l (Int.toNat (↑x:Int))==Z0) (RT (Z0=CK l)) ((SM (QNJ l)/\True)/\∃(y:Nat),Qgv y l/\LN l-y<LN l-x/\(IntKind.wrap IntKind.i64 ((↑x:Int)+Z1)=(↑y:Int)/\True)/\True/\True))) (((IntsP (LN l) fun i=>[ZI (GI l i)])/\(∀(z:Int),z∈Qnq l->Z0<=z)/\LN l<=9223372036854775807)/\∀(y:Unit),True->RT (Option.getD (goO (Qnq l) Z1) (65537:Int)=CK l))) (by kernel_rfl) ?_
 delta GI LI LN N1 SI SM Z0 Z1 ZI Qgv QNJ Qnq RT
 simp only[B0,Int.toNat_natCast,Bf,Bd,decide_eq_true_eq,decide_eq_false_iff_not,true_and,and_true,exists_const]
 have tk:∀i,i<l.length->∀P:Int->Prop,(∀z∈l.take i,P z)->P (l.getD i 0)->∀z∈l.take (i+1),P z:=fun i hi P h1 h2 z hz=>by
  rw[List.take_add_one,List.mem_append] at hz
  rcases hz with hz | hz
  ·exact h1 z hz
  ·rw[List.getElem?_eq_getElem hi] at hz
   simp at hz
   rw[hz]
   simpa[List.getD_eq_getElem?_getD,hi] using h2
 have hl8:l.length<=8:=by
  unfold Ef at h
  split at h
  ·cases h
  ·omega
 have hnn:∀z∈l,0<=z:=by
  intro z hz
  unfold Ef at h
  split at h
  ·cases h
  ·split at h
   ·cases h
   ·rename_i hn
    rw[List.any_eq_true] at hn
    by_cases h0:z<0
    ·exact (hn ⟨z,hz,decide_eq_true h0⟩).elim
    ·omega
 have hg:(goO l 1).isSome=true:=by
  unfold Ef at h
  (repeat' split at h)<;>first | assumption | (cases h;done)
 refine⟨⟨0,⟨Nat.zero_le _,by simp⟩,rfl⟩,fun i hh=>⟨fun hlt=>?_,fun hge=>?_⟩⟩
 ·have hlt':i<l.length:=by omega
  refine⟨by omega,fun h=>?_,fun h=>⟨i+1,⟨by omega,tk i hlt' _ hh.2 (by simpa using h)⟩,by omega,Ba (by omega) (by omega)⟩⟩
  have h0:l.getD i 0=0:=by simpa using h
  have:l.contains 0=true:=by
   rw[List.contains_iff_mem,<- h0,List.getD_eq_getElem?_getD,List.getElem?_eq_getElem hlt'];exact List.getElem_mem hlt'
  rw[CK,if_pos this]
 ·have hi:i=l.length:=by omega
  rw[hi,List.take_length] at hh
  refine⟨⟨BQ l,hnn,by omega⟩,fun _ _=>?_⟩
  have:¬l.contains 0=true:=by
   rw[List.contains_iff_mem]
   exact fun hm=>hh.2 0 hm rfl
  rw[CK,if_neg this]
  cases hgo:goO l 1 with
  |none=>rw[hgo] at hg;cases hg
  |some p=>rfl
def B8(k:Int)(s:List Int)(nn ni:Nat):Int :=
 if k=1\/k=2\/k=3 then
  if Ef s≠0 then Ef s
  else if ((if k=3 then (ni:Int) else nn)≠CK s)\/((if k=3 then (nn:Int) else ni)≠0) then 16 else 0
 else 14
def Ul:Con:=fun k ds S=>match k with
 |153=>match ds with
  | [.sl 1 n f _]=>some (pC ds (.int .i64 (CK (Bj n f))) (IntsP n f/\EZ (Bj n f)=true))
  |_=>none
 |143=>match ds with
  | [.sl 1 n f _]=>some (pC ds (.int .i64 (Ef (Bj n f))) (IntsP n f))
  |_=>none
 |145=>match ds with
  | [.sl 1 n f _]=>some (pC ds (.int .i64 (CK (Bj n f))) (IntsP n f/\Ef (Bj n f)=0))
  |_=>none
 |k=>Bag k ds S
theorem IQ:ConOk Tryz.prog Ul:=by
 intro k ds S A h
 unfold Ul at h
 split at h
 ·split at h
  ·injection h with h;subst h
   exact BW fun ⟨h1,h2⟩=>⟨Bk _,B9 (CA h1) (Bm2 _ h2)⟩
  ·cases h
 ·split at h
  ·injection h with h;subst h
   exact BW fun h1=>⟨Bk _,B9 (CA h1) (Bm9 _)⟩
  ·cases h
 ·split at h
  ·injection h with h;subst h
   exact BW fun ⟨h1,h2⟩=>⟨Bk _,B9 (CA h1) (BjM _ h2)⟩
  ·cases h
 ·exact To _ _ _ _ h
noncomputable def Eform:Senv:=EC Ul 44 5 [12,13,16,20,25,29,34] (fun id=>match id with | 1=>([0,1,2,3,4,5,6,7],[]) | _=>([],[]))
noncomputable section
def Ze(a:Int)(b:List Int)(c d:Nat):Int:=B8 a b c d
def Qnr(a:Int)(b:List Int)(c d:Nat):Prop:=RT ((15:Int)=Ze a b c d)
def XD(a:List Int):Prop:=IntsP (LN a) fun i=>[ZI (GI a i)]
def Qns(a:List Int):Prop:=XD a/\LN a<=9223372036854775807
def Qgw(a:List Int):List Int:=Bj (LN a) fun i=>[ZI (GI a i)]
def Qnt(a:List Int):Bool:=decide (Z0<=Ii (fun (d:Int)=>decide (d<Z0)) (Qgw a) N0)
def VP(a:Int)(b:List Int)(c d:Nat):Prop:=RT ((16:Int)=Ze a b c d)
def Qnu(a:List Int):Bool:=EZ (Qgw a)
def Qag(a:List Int):Bool:=!Qnu a
def Qnv(a:Int)(b:List Int)(c d:Nat):Prop:=RT ((21:Int)=Ze a b c d)
def Qnw(a:Int)(b:List Int)(c d:Nat):Prop:=True/\VP a b c d
def Qnx(a:List Int):Prop:=XD a/\Qnu a=true
def Qny(a:Nat)(b:List Int):Bool:=(↑a:Int) != CK (Qgw b)
def Qnz(a:Int)(b:List Int)(c d:Nat):Prop:=RT (Z0=Ze a b c d)
def QnA(a:Nat)(b:List Int)(c:Int)(d e:Nat):Prop:=SM a/\ifB (decide ((8:Int)<(LI b))) (Qnr c b d e) (SM a/\Qns b/\∀(y:Unit),True->True/\ifB (Qnt b) (VP c b d e) (SM a/\XD b/\∀(y:Unit),True->ifB (Qag b) (Qnv c b d e) (SM a/\XD b/\∀(y:Unit),True->ifB (Qag b) (Qnw c b d e) (Qnx b/\∀(y:Unit),True->True/\ifB (Qny d b) (VP c b d e) (ifB ((↑e:Int) != Z0) (VP c b d e) (Qnz c b d e))))))
def QnB(a:Int)(b:Nat)(c:List Int)(d e:Nat):Prop:=ifB (a==3) (SM b/\ifB (decide ((8:Int)<(LI c))) (Qnr a c d e) (SM b/\Qns c/\∀(y:Unit),True->True/\ifB (Qnt c) (VP a c d e) (SM b/\XD c/\∀(y:Unit),True->ifB (Qag c) (Qnv a c d e) (SM b/\XD c/\∀(y:Unit),True->ifB (Qag c) (Qnw a c d e) (Qnx c/\∀(y:Unit),True->True/\ifB (Qny e c) (VP a c d e) (ifB ((↑d:Int) != Z0) (VP a c d e) (Qnz a c d e))))))) (RT ((14:Int)=Ze a c d e))
end
theorem Bne(k : Int)(s : List Int)(nn ni : Nat)(g h : Nat -> List D)(hs : s.length<=maxLen)(hn : nn<=maxLen)(hi : ni<=maxLen) :
  ACalls Tryz.prog 116 [.agg [.int .i64 k,isl s .any,.sl 1 nn g .any,.sl 4 ni h .any]] ⟨[],[]⟩ (SpecR (sC [.agg [.int .i64 k,isl s .any,.sl 1 nn g .any,.sl 4 ni h .any]] (.int .i64 (B8 k s nn ni))) ()):=by
 refine Bg (A:=sC _ _) (x:=()) (E:=Eform) (eOk IQ rfl) Tryz.func116 rfl (by kernel_rfl) rfl (by simp[sC,Eform,EC,E0]) ?_
 refine Bi (T :=
  ∀(x:Nat),True->SM x/\SM x/\SM x/\ifB (k==Z1) (ifB (k==Z1) (QnA x s k nn ni) (QnB k x s nn ni)) (ifB (k==2) (QnA x s k nn ni) (QnB k x s nn ni))) (by kernel_rfl) ?_
 delta GI LI LN N0 SM Z0 Z1 ZI Ze Qnr Qnw Qnx Qny Qnz QnA QnB XD Qns Qgw Qnt VP Qnu Qag Qnv RT
 simp only[B0,Tf,Int.toNat_natCast,Bf,Bd,decide_eq_true_eq,decide_eq_false_iff_not,true_and,and_true,beq_iff_eq,bne_iff_ne,Bool.cond_false_right,Bool.cond_true_left,Bool.and_eq_true,Bool.and_eq_false_iff,beq_eq_false_iff_ne,ne_eq,exists_const,forall_const]
 simp only[maxLen] at hs hn hi
 have n8:(8<(s.length:Int))↔8<s.length:=by omega
 simp only[n8]
 repeat' (first
  |exact BQ s
  |refine And.intro ?_ ?_
  |intro _)
 all_goals first
  |omega
  |(simp_all[B8,Ef,EZ];done)
  |grind [B8,Ef,EZ]
  |skip
 all_goals trace_state
def Arr.k:Arr->Int | .mk k _ _ _=>k
def Arr.sh:Arr->List Int | .mk _ s _ _=>s
def Arr.nu:Arr->List Int | .mk _ _ n _=>n
def Arr.it:Arr->List Arr | .mk _ _ _ i=>i
def Arr.row1(a:Arr):List D:=[.int .i64 a.k,isl a.sh .any,isl a.nu .any,gsl 4 Arr.row a.it]
def Arr.row2(a:Arr):List D:=[.int .i64 a.k,isl a.sh .any,isl a.nu .any,gsl 4 Arr.row1 a.it]
theorem BfG(l:List Arr):(OZ l).length=l.length:=by rw[G6];simp
theorem BjP(a:Arr):wkL a.row a.row1:=by
 cases a with
 |mk k s n is =>
  simp only[Arr.row,Arr.row1,Arr.k,Arr.sh,Arr.nu,Arr.it,gsl,isl,wkL,wkD,Bn,Bb]
  refine⟨⟨by simp[kEq],trivial⟩,⟨by simp,trivial,fun i _=>by simp[kEq],by simp[BG]⟩,⟨by simp,trivial,fun i _=>by simp[kEq],by simp[BG]⟩,⟨by simp,BfG is,fun i hi=>?_,by simp[BG]⟩,trivial⟩
  rw[BfG] at hi
  have:(OZ is).getD i []=(is.getD i default).row:=by
   rw[G6];simp[List.getD_eq_getElem?_getD,hi]
  rw[this]
  exact Be _
theorem GP(a:Arr):wkL a.row1 a.row2:=by
 simp only[Arr.row1,Arr.row2,gsl,isl,wkL,wkD,Bn,Bb]
 exact⟨⟨by simp[kEq],trivial⟩,⟨by simp,trivial,fun i _=>by simp[kEq],by simp[BG]⟩,⟨by simp,trivial,fun i _=>by simp[kEq],by simp[BG]⟩,⟨by simp,trivial,fun i _=>BjP _,by simp[BG]⟩,trivial⟩
def Ba3(z:Int):Bool:=decide (-4611686018427387903<=z)&&decide (z<=4611686018427387903)
def WM(z:Int):Bool:=decide (0<=z)&&decide (z<=1114111)&&(decide (z<55296)||decide (57343<z))
def E9(k z:Int):Bool:=(k==1&&!Ba3 z)||(k==2&&!WM z)
mutual
def Bw:Arr->Int×Int×Int
 |.mk k s n is =>
  if B8 k s n.length is.length≠0 then (B8 k s n.length is.length,0,0)
  else if n.any (E9 k) then (17,0,0)
  else match C7 is 0 ((n.length:Int)+is.length) with
   |none=>(17,0,0)
   |some r=>if 16<r.1\/262144<r.2 then (21,0,0) else (0,r.1,r.2)
def C7:List Arr->Int->Int->Option (Int×Int)
 | [],d,w=>some (d,w)
 |x::r,d,w=>if (Bw x).1≠0 then none else C7 r (if d<(Bw x).2.1+1 then (Bw x).2.1+1 else d) (if 262145<w+(Bw x).2.2 then 262145 else w+(Bw x).2.2)
end
theorem BcW:∀(l:List Arr) (d w d' w':Int),C7 l d w=some (d',w')->0<=d->0<=w->(∀x∈l,(Bw x).1=0->0<=(Bw x).2.1/\0<=(Bw x).2.2)->0<=d'/\0<=w'
 | [],d,w,d',w',h,h1,h2,_=>by
  rw[C7] at h;injection h with h;injection h with e1 e2;omega
 |x::r,d,w,d',w',h,h1,h2,h3=>by
  rw[C7] at h
  split at h
  ·cases h
  ·rename_i hx
   have hx:(Bw x).1=0:=by simpa using hx
   have:=h3 x (by simp) hx
   refine BcW r _ _ d' w' h ?_ ?_ fun y hy=>h3 y (by simp[hy])
   ·split<;>omega
   ·split<;>omega
theorem Ej:∀(a:Arr),(0<=(Bw a).2.1/\(Bw a).2.1<=16)/\0<=(Bw a).2.2/\(Bw a).2.2<=262144
 |.mk k s n is=>by
  rw[Bw]
  split
  ·simp
  ·split
   ·simp
   ·split
    ·simp
    ·rename_i r hr
     split
     ·simp
     ·rename_i hb
      have:=BcW is 0 _ r.1 r.2 hr (by omega) (by omega) fun x hx _=>by
       have:=Ej x
       omega
      simp only
      omega
termination_by a=>SizeOf.sizeOf a
decreasing_by
 have:=List.sizeOf_lt_of_mem hx
 simp;omega
noncomputable def Enum:Senv:=EC EB 9 1 [2] (fun _=>([],[]))
noncomputable section
def Qgx(a:Int):Bool:=bif decide ((-4611686018427387903:Int)<=a) then decide (a<=4611686018427387903) else false
end
theorem BoL(z:Int):ACalls Tryz.prog 117 [.int .i64 z] ⟨[],[]⟩ (SpecR (sC [.int .i64 z] (.bool (Ba3 z))) ()):=by
 refine Bg (A:=sC _ _) (x:=()) (E:=Enum) (eOk BM rfl) Tryz.func117 rfl (by kernel_rfl) rfl (by simp[sC,Enum,EC,E0]) ?_
 refine Bi (T :=
  ifB (decide ((-4611686018427387903:Int)<=z)) (decide (z<=4611686018427387903)=Qgx z/\True) (false=Qgx z/\True)/\RT (Qgx z=Ba3 z)) (by kernel_rfl) ?_
 delta Qgx RT
 simp only[Bf,decide_eq_true_eq,decide_eq_false_iff_not,true_and,and_true,Bool.cond_false_right,exists_const]
 refine⟨⟨fun h=>by rw[decide_eq_true h];rfl,fun h=>by rw[decide_eq_false h];rfl⟩,rfl⟩
noncomputable def Echr:Senv:=EC EB 17 1 [2] (fun _=>([],[]))
noncomputable section
def Qah(a:Int):Bool:=bif bif decide (Z0<=a) then decide (a<=1114111) else false then bif decide (a<55296) then true else decide ((57343:Int)<a) else false
def QnC(a:Int):Prop:=false=Qah a/\True
end
theorem BpH(z:Int):ACalls Tryz.prog 118 [.int .i64 z] ⟨[],[]⟩ (SpecR (sC [.int .i64 z] (.bool (WM z))) ()):=by
 refine Bg (A:=sC _ _) (x:=()) (E:=Echr) (eOk BM rfl) Tryz.func118 rfl (by kernel_rfl) rfl (by simp[sC,Echr,EC,E0]) ?_
 refine Bi (T :=
  ifB (decide (Z0<=z)) (ifB (decide (z<=1114111)) (ifB (decide (z<55296)) (true=Qah z/\True) (decide ((57343:Int)<z)=Qah z/\True)) (QnC z)) (QnC z)/\RT (Qah z=WM z)) (by kernel_rfl) ?_
 delta Z0 Qah QnC RT
 simp only[Bf,decide_eq_true_eq,decide_eq_false_iff_not,true_and,and_true,Bool.cond_false_right,Bool.cond_true_left,exists_const]
 refine⟨⟨fun h1=>⟨fun h2=>⟨fun h3=>by simp[h1,h2,h3],fun h3=>by simp[h1,h2,h3]⟩,fun h2=>by simp[h1,h2]⟩,fun h1=>by simp[h1]⟩,rfl⟩
def IA(row:Arr->List D)(xb:Nat)(q:Arr->Prop):FnSpec where
 β:=Arr
 α:=Unit
 args:=fun a=>[.agg (row a),.ref 1 xb 0]
 st:=fun _=>⟨[(1,xb,.cells [.fn (.func 115) [] [.ref 1 xb 0]])],[]⟩
 pre:=q
 post:=fun _ _=>True
 res:=fun a _=>.ret (.tup [.int .i64 (Bw a).1,.int .i64 (Bw a).2.1,.int .i64 (Bw a).2.2])
 out:=fun _ _=>⟨[(1,xb,.cells [.fn (.func 115) [] [.ref 1 xb 0]])],[]⟩
def Bfs(xb:Nat)(its:List Arr):Con:=fun k ds S=>match k with
 |115=>some (IA Arr.row1 xb (fun b=>b∈its))
 |116=>match ds with
  | [.agg [.int .i64 k,.sl 1 n f _,.sl 1 nn _g _,.sl 4 ni _h _]]=>some (pC ds (.int .i64 (B8 k (Bj n f) nn ni)) (IntsP n f/\n<=maxLen/\nn<=maxLen/\ni<=maxLen))
  |_=>none
 |117=>match ds with
  | [.int .i64 z]=>some (pC [.int .i64 z] (.bool (Ba3 z)) True)
  |_=>none
 |118=>match ds with
  | [.int .i64 z]=>some (pC [.int .i64 z] (.bool (WM z)) True)
  |_=>none
 |k=>Ul k ds S
theorem Biv{xb:Nat}{its:List Arr}(ih:∀b∈its,ACalls Tryz.prog 115 ((IA Arr.row2 xb (fun _=>True)).args b) ((IA Arr.row2 xb (fun _=>True)).st b) (SpecR (IA Arr.row2 xb (fun _=>True)) b)):ConOk Tryz.prog (Bfs xb its):=by
 intro k ds S A h
 unfold Bfs at h
 split at h
 ·injection h with h;subst h
  refine ConOk.plain (fun b hb=>?_) rfl rfl
  refine ((ih b hb).wkArgs ?_).mono fun _ _ ⟨y,h1,h2,h3⟩=>⟨y,h1,h2,h3⟩
  simp only[IA,wkL,wkD]
  exact⟨GP b,by simp[Bn,Bb]⟩
 ·split at h
  ·rename_i k n f _ nn g _ ni g' _
   injection h with h;subst h
   refine BW fun ⟨h1,h2,h3,h4⟩=>⟨Bk _,B9 (us:=[.agg [.int .i64 k,isl (Bj n f) .any,.sl 1 nn g .any,.sl 4 ni g' .any]]) ?_ (Bne _ _ _ _ _ _ (by rw[BL];exact h2) h3 h4)⟩
   refine⟨?_,trivial⟩
   simp only[Bn,BD]
   refine⟨by simp[Bb,kEq],(CA h1).1,?_,?_,trivial⟩
   ·simp[Bb,BG]
   ·simp[Bb,BG]
  ·cases h
 ·split at h
  ·injection h with h;subst h
   exact BW fun _=>⟨Bk _,BoL _⟩
  ·cases h
 ·split at h
  ·injection h with h;subst h
   exact BW fun _=>⟨Bk _,BpH _⟩
  ·cases h
 ·exact IQ _ _ _ _ h
theorem BbW(a : Arr) : Bw a=if B8 a.k a.sh a.nu.length a.it.length≠0 then (B8 a.k a.sh a.nu.length a.it.length, 0, 0)
  else if a.nu.any (E9 a.k) then (17,0,0)
  else match C7 a.it 0 ((a.nu.length:Int)+a.it.length) with
   |none=>(17,0,0)
   |some r=>if 16<r.1\/262144<r.2 then (21,0,0) else (0,r.1,r.2):=by
 cases a with
 |mk k s n is=>rw[Bw];rfl
theorem BjJ{s:List Int}:CK s<=65536:=by
 unfold CK
 split
 ·omega
 ·cases hg:goO s 1 with
  |none=>simp
  |some p=>have:=BaT s 1 (by omega) p hg;simpa using this
theorem G9{k:Int}{s:List Int}{nn ni:Nat}(h:B8 k s nn ni=0):nn<=65536/\ni<=65536:=by
 have hs:=BjJ (s:=s)
 unfold B8 at h
 by_cases hk:k=1\/k=2\/k=3
 ·rw[if_pos hk] at h
  by_cases hd:Ef s≠0
  ·rw[if_pos hd] at h;exact (hd h).elim
  ·rw[if_neg hd] at h
   by_cases hc:((if k=3 then (ni:Int) else nn)≠CK s)\/((if k=3 then (nn:Int) else ni)≠0)
   ·rw[if_pos hc] at h;omega
   ·simp only[not_or,ne_eq,Decidable.not_not] at hc
    obtain ⟨c1,c2⟩:=hc
    by_cases k3:k=3<;>simp only[k3,if_true,if_false] at c1 c2<;>omega
 ·rw[if_neg hk] at h;omega
theorem Cg{α:Type}[Inhabited α]{l:List α}{i:Nat}(h:i<l.length):l.getD i default∈l:=by
 rw[List.getD_eq_getElem?_getD,List.getElem?_eq_getElem h];exact List.getElem_mem h
def cutV(k:Int)(d8:D)(S:St):Option LoopAnn :=
 match d8 with
 |.int _ z=>some { slots:=[45],keep:=[],α:=Unit,st:=fun _=>([.bool (E9 k z)],S),inv:=fun _=>True,mu:=fun _=>0 }
 |_=>none
noncomputable def Evis(xb:Nat)(a:Arr):Senv:={ EC (Bfs xb a.it) 87 7 [8,9,10,12,13,14,15,19,22,23,24,25,45,55,56,57,58,69,84] (fun id=>match id with | 10=>([0,1,2,3,4,5,6,7,8],[]) | _=>([],[])) with
 cut:=fun id env S=>match id with
  |7=>cutV a.k (Ab.look env 8) S
  |_=>none
 ann:=fun b _ S=>match b with
  |0=>some { slots:=[24],keep:=[0,1,2,22,23],α:=Nat,st:=fun i=>([.int .i64 i],S),inv:=fun i=>i<=a.nu.length/\∀z∈a.nu.take i,E9 a.k z=false,mu:=fun i=>a.nu.length-i }
  |2=>some { slots:=[57,9,10],keep:=[0,1,2,55,56],α:=Nat×Int×Int,st:=fun y=>([.int .i64 y.1,.int .i64 y.2.1,.int .i64 y.2.2],S),inv:=fun y=>y.1<=a.it.length/\0<=y.2.1/\y.2.1<=17/\0<=y.2.2/\y.2.2<=262145/\C7 (a.it.drop y.1) y.2.1 y.2.2=C7 a.it 0 ((a.nu.length:Int)+a.it.length),mu:=fun y=>a.it.length-y.1 }
  |_=>none }
noncomputable section
def VQ(a:Arr):Nat:=LN (Arr.sh a)
def Zf(a:Arr)(b:Nat):List D:=[ZI (GI (Arr.sh a) b)]
def Qai(a:Arr):List Int:=Arr.nu a
def JK(a:Arr):Nat:=LN (Qai a)
def XE(a:Arr):List Arr:=Arr.it a
def JL(a:Arr):Nat:=LN (XE a)
def Vm(a:Arr):Int:=Arr.k a
def QnD(a:Arr):Int:=B8 (Vm a) (Bj (VQ a) fun i=>Zf a i) (JK a) (JL a)
def Zg(a:Arr):Int:=Prod.fst (Bw a)
def Qgy(a:Arr):Int:=Prod.fst (Prod.snd (Bw a))
def Qaj(a:Arr):Int:=Prod.snd (Prod.snd (Bw a))
def Qgz(a:Arr):Prop:=Z0=Qgy a/\Z0=Qaj a/\True
def QnE(a:Nat):Prop:=SM a/\(SM (D.fn (Fn.func (115:Nat)) [] [D.ref N1 a N0])/\True)/\True
def Zh(a:Nat):Prop:=QnE a/\True
def QgA(a:Nat)(b:Arr):Prop:=a<=JK b/\∀(z:Int),z∈List.take a (Qai b)->E9 (Vm b) z=false
def QgB(a:Arr)(b:Nat):List D:=[ZI (GI (Qai a) b)]
def Qak:Arr:=DA
def Zi(a:Arr)(b:Nat):Arr:=List.getD (XE a) b Qak
def QNK(a:Arr)(b:Nat):List Int:=Arr.sh (Zi a b)
def QNL(a:Arr)(b:Nat):List Int:=Arr.nu (Zi a b)
def QnF(a:Arr)(b:Nat):List Arr:=Arr.it (Zi a b)
def QnG(a:Arr)(b:Nat):List D:=[ZI (Arr.k (Zi a b)),SI (QNK a b),SI (QNL a b),D.sl N4 (LN (QnF a b)) (fun i=>Arr.row (List.getD (QnF a b) i Qak)) Mode.any]
def VR(a:Nat)(b:Arr)(c:Nat):Prop:=(SM a/\(SM (Vm b)/\(SM (VQ b)/\(∀(i:Nat),i<VQ b->SM (Zf b i))/\True)/\(SM (JK b)/\(∀(i:Nat),i<JK b->SM (QgB b i))/\True)/\(SM (JL b)/\(∀(i:Nat),i<JL b->SM (QnG b i))/\True)/\True)/\QnE c)/\True
def Qal(a:Arr):Int:=(NI (JK a))
def QgC(a:Arr)(b:Nat):Int:=GI (Qai a) (Int.toNat (↑b:Int))
def Qam(a:Arr)(b:Nat):Bool:=E9 (Vm a) (QgC a b)
def QnH(a:Nat)(b:Arr)(c d:Nat):Prop:=SM a/\ifB (Vm b==2) (True/\∀(_y:Unit),True->∃(_x:Unit),True/\((!WM (QgC b c))=Qam b c/\True)/\VR a b d) (∃(_x:Unit),True/\(false=Qam b c/\True)/\VR a b d)
def QnI(a:Arr)(b:Nat):Prop:=True/\∃(_y:Unit),True/\((17:Int)=Zg a/\Qgz a)/\Zh b
def QnJ(a:Arr):D:=D.sl N1 (JK a) (fun i=>QgB a i) Mode.any
def QnK(a:Arr):D:=D.sl N4 (JL a) (fun i=>QnG a i) Mode.any
def QNM(a:Arr):D:=D.agg [ZI (Vm a),D.sl N1 (VQ a) (fun i=>Zf a i) Mode.any,QnJ a,QnK a]
def QnL(a:Arr):Prop:=SM (QNM a)
def Qan(a:Arr):Int:=(NI (JL a))
def QnM(a:Arr):Int:=Qal a+Qan a
def QgD(a:Nat)(b:Arr)(c d:Int):Prop:=a<=JL b/\Z0<=c/\c<=17/\Z0<=d/\d<=262145/\C7 (List.drop a (XE b)) c d=C7 (XE b) Z0 (QnM b)
def Qao(a:Arr)(b:Nat):Arr:=List.getD (XE a) (Int.toNat (↑b:Int)) Qak
def QnN(a:Arr)(b:Nat):List Int:=Arr.sh (Qao a b)
def QnO(a:Arr)(b:Nat):Nat:=LN (QnN a b)
def QnP(a:Arr)(b:Nat):List Int:=Arr.nu (Qao a b)
def QnQ(a:Arr)(b:Nat):Nat:=LN (QnP a b)
def QnR(a:Arr)(b:Nat):List Arr:=Arr.it (Qao a b)
def QnS(a:Arr)(b:Nat):Nat:=LN (QnR a b)
def QnT(a:Arr):Int:=IntKind.wrap IntKind.i64 (Qgy a+Z1)
def QgE(a b:Int):Bool:=bif decide ((16:Int)<a) then true else decide ((262144:Int)<b)
end
theorem Bko(xb : Nat)(a : Arr)(ha : a.nu.length<=maxLen /\ a.it.length<=maxLen /\ a.sh.length<=maxLen)(ih : ∀b∈a.it, ACalls Tryz.prog 115 ((IA Arr.row2 xb (fun _=>True)).args b) ((IA Arr.row2 xb (fun _=>True)).st b) (SpecR (IA Arr.row2 xb (fun _=>True)) b)) :
  ACalls Tryz.prog 115 ((IA Arr.row2 xb (fun _=>True)).args a) ((IA Arr.row2 xb (fun _=>True)).st a) (SpecR (IA Arr.row2 xb (fun _=>True)) a):=by
 refine Bg (A:=IA Arr.row2 xb (fun _=>True)) (x:=a) (E:=Evis xb a) (eOk (Biv ih) rfl) Tryz.func115 rfl (by kernel_rfl) rfl (by simp[IA,Evis,EC,E0]) ?_
 refine Bi (T :=
  ∀(x:Nat),xb≠x/\True->SM x/\((IntsP (VQ a) fun i=>Zf a i)/\VQ a<=9223372036854775807/\JK a<=9223372036854775807/\JL a<=9223372036854775807)/\∀(y:Unit),True->ifB (QnD a != Z0) (True/\∃(y:Unit),True/\(QnD a=Zg a/\Qgz a)/\Zh xb) (SM x/\(∃(x_1:Nat),QgA x_1 a/\(Z0=(↑x_1:Int)/\True)/\VR x a xb)/\∀(x_1:Nat),QgA x_1 a->ifB (decide ((↑x_1:Int)<Qal a)) (Bc (Z0<=(↑x_1:Int)/\(↑x_1:Int)<Qal a) ((SM x/\ifB (Vm a==Z1) (True/\∀(y:Unit),True->ifB (!Ba3 (QgC a x_1)) (∃(x_2:Unit),True/\(true=Qam a x_1/\True)/\VR x a xb) (QnH x a x_1 xb)) (QnH x a x_1 xb))/\∀(x_2:Unit),True->ifB (Qam a x_1) (QnI a xb) ((QnL a/\SM (D.ref N1 xb N0)/\SM (D.ref N2 x N0)/\SM (QnJ a)/\SM (ZI (Qal a))/\True)/\∃(y:Nat),QgA y a/\JK a-y<JK a-x_1/\(IntKind.wrap IntKind.i64 ((↑x_1:Int)+Z1)=(↑y:Int)/\True)/\VR x a xb))) (SM x/\SM x/\SM x/\(∃(x_2:Nat×Int×Int),QgD x_2.1 a x_2.2.1 x_2.2.2/\(Z0=(NI x_2.1)/\Z0=x_2.2.1/\IntKind.wrap IntKind.i64 (QnM a)=x_2.2.2/\True)/\VR x a xb)/\∀(x_2:Nat×Int×Int),QgD x_2.1 a x_2.2.1 x_2.2.2->ifB (decide ((NI x_2.1)<Qan a)) (Bc (Z0<=(NI x_2.1)/\(NI x_2.1)<Qan a) (∀(x_3:Nat),x≠x_3/\xb≠x_3/\True->SM x_3/\SM xb/\SM x_3/\∃(x_4:Arr),((Arr.k (Qao a x_2.1)=Vm x_4/\(QnO a x_2.1=VQ x_4/\(∀(i:Nat),i<QnO a x_2.1->[ZI (GI (QnN a x_2.1) i)]=Zf x_4 i)/\True)/\(QnQ a x_2.1=JK x_4/\(∀(i:Nat),i<QnQ a x_2.1->[ZI (GI (QnP a x_2.1) i)]=QgB x_4 i)/\True)/\(QnS a x_2.1=JL x_4/\(∀(i:Nat),i<QnS a x_2.1->Arr.row (List.getD (QnR a x_2.1) i Qak)=Arr.row (Zi x_4 i))/\True)/\True)/\SM xb/\True)/\Zh xb/\x_4∈XE a/\∀(y:Unit),True->ifB (Zg x_4 != Z0) (QnI a xb) ((QnL a/\SM (D.ref N1 xb N0)/\SM (D.ref N2 x N0)/\SM (QnK a)/\SM (ZI (Qan a))/\True)/\∃(y:Nat×Int×Int),QgD y.1 a y.2.1 y.2.2/\JL a-y.1<JL a-x_2.1/\(IntKind.wrap IntKind.i64 ((NI x_2.1)+Z1)=(NI y.1)/\(if x_2.2.1<QnT x_4 then QnT x_4 else x_2.2.1)=y.2.1/\(if (262145:Int)<IntKind.wrap IntKind.i64 (x_2.2.2+Qaj x_4) then (262145:Int) else IntKind.wrap IntKind.i64 (x_2.2.2+Qaj x_4))=y.2.2/\True)/\VR x a xb))) (ifB (decide ((16:Int)<x_2.2.1)) (true=QgE x_2.2.1 x_2.2.2/\True) (decide ((262144:Int)<x_2.2.2)=QgE x_2.2.1 x_2.2.2/\True)/\ifB (QgE x_2.2.1 x_2.2.2) (True/\∃(y:Unit),True/\((21:Int)=Zg a/\Qgz a)/\Zh xb) (True/\∃(y:Unit),True/\(Z0=Zg a/\x_2.2.1=Qgy a/\x_2.2.2=Qaj a/\True)/\Zh xb))))) (by kernel_rfl) ?_
 delta DA GI LN N0 N1 N2 N4 NI SI SM Z0 Z1 ZI QnD Zg Qgy Qaj Qgz QnE Zh QgA QgB Qak Zi QNK QNL QnF QnG VR Qal QgC Qam QnH VQ QnI QnJ QnK QNM QnL Qan QnM QgD Qao QnN Zf QnO QnP QnQ QnR QnS QnT QgE Qai JK XE JL Vm
 have da:(default:Arr)=Arr.mk 0 [] [] []:=rfl
 simp only[<- da,B0,Int.toNat_natCast,Bf,Bd,decide_eq_true_eq,decide_eq_false_iff_not,true_and,and_true,beq_iff_eq,bne_iff_ne,Bool.cond_true_left,beq_eq_false_iff_ne,ne_eq,exists_const,forall_const]
 intro x _
 have hA:=BbW a
 obtain ⟨l1,l2,l3⟩:=ha
 have tt:(∀i:Nat,i<a.sh.length->True)/\(∀i:Nat,i<a.nu.length->True)/\∀i:Nat,i<a.it.length->True:=⟨fun _ _=>trivial,fun _ _=>trivial,fun _ _=>trivial⟩
 refine⟨⟨BQ _,l3,l1,l2⟩,fun h=>?_,fun h=>⟨⟨0,⟨Nat.zero_le _,by simp⟩,rfl,tt⟩,fun i hi=>⟨fun hlt=>?_,fun hge=>?_⟩⟩⟩
 ·rw[hA,if_pos h];exact⟨rfl,rfl,rfl⟩
 ·have h0:B8 a.k a.sh a.nu.length a.it.length=0:=by simpa using h
  have hsm:=G9 h0
  have hlt':i<a.nu.length:=by omega
  have hmem:a.nu.getD i 0∈a.nu:=by rw[List.getD_eq_getElem?_getD,List.getElem?_eq_getElem hlt'];exact List.getElem_mem hlt'
  have htk:a.nu.take (i+1)=a.nu.take i++[a.nu.getD i 0]:=by
   rw[List.take_add_one];simp[List.getD_eq_getElem?_getD,hlt']
  generalize a.nu.getD i 0=z at *
  refine⟨by omega,?_,fun hb=>?_,fun hb=>⟨i+1,⟨by omega,fun y hy=>?_⟩,by omega,Ba (by omega) (by omega),tt⟩⟩
  ·refine⟨fun k1=>⟨fun hn=>⟨by simp at hn;simp[E9,k1,hn],tt⟩,fun hn=>⟨fun k2=>by omega,fun k2=>⟨by simp at hn;simp[E9,k1,hn],tt⟩⟩⟩,fun k1=>⟨fun k2=>⟨by simp[E9,k2],tt⟩,fun k2=>⟨by simp[E9,k1,k2],tt⟩⟩⟩
  ·have:a.nu.any (E9 a.k)=true:=List.any_eq_true.2 ⟨z,hmem,hb⟩
   rw[hA,if_neg (by simp[h0]),if_pos this]
   exact⟨rfl,rfl,rfl⟩
  ·rw[htk,List.mem_append] at hy
   rcases hy with hy | hy
   ·exact hi.2 y hy
   ·simp at hy;rw[hy];exact hb
 ·have h0:B8 a.k a.sh a.nu.length a.it.length=0:=by simpa using h
  have hsm:=G9 h0
  have hii:i=a.nu.length:=by omega
  rw[hii,List.take_length] at hi
  have hany:¬a.nu.any (E9 a.k)=true:=by
   rw[List.any_eq_true]
   rintro ⟨z,hz,hb⟩
   rw[hi.2 z hz] at hb
   cases hb
  rw[if_neg (by simp[h0]),if_neg hany] at hA
  refine⟨⟨(0,0,(a.nu.length:Int)+a.it.length),⟨Nat.zero_le _,Int.le_refl _,by simp,by simp only;omega,by simp only;omega,by simp⟩,⟨rfl,rfl,Ba (by omega) (by omega)⟩,tt⟩,?_⟩
  rintro ⟨j,d,w⟩ ⟨b1,b2,b3,b4,b5,hch⟩
  simp only at b1 b2 b3 b4 b5 hch ⊢
  refine⟨fun hlt=>⟨by omega,fun x3 _=>?_⟩,fun hge=>?_⟩
  ·have hlt':j<a.it.length:=by omega
   have hbd:=Ej (a.it.getD j default)
   rw[Gi hlt',C7] at hch
   refine⟨a.it.getD j default,⟨rfl,⟨rfl,fun _ _=>rfl⟩,⟨rfl,fun _ _=>rfl⟩,rfl,fun _ _=>rfl⟩,Cg hlt',fun herr=>?_,fun hok=>?_⟩
   ·rw[if_pos herr] at hch
    rw[<- hch] at hA
    rw[hA]
    exact⟨rfl,rfl,rfl⟩
   ·have hok:(Bw (a.it.getD j default)).1=0:=by simpa using hok
    rw[if_neg (fun hne=>hne hok)] at hch
    have w1:IntKind.i64.wrap ((Bw (a.it.getD j default)).2.1+1)=(Bw (a.it.getD j default)).2.1+1:=Ba (by omega) (by omega)
    have w2:IntKind.i64.wrap (w+(Bw (a.it.getD j default)).2.2)=w+(Bw (a.it.getD j default)).2.2:=Ba (by omega) (by omega)
    rw[w1,w2]
    refine⟨(j+1,(if d<(Bw (a.it.getD j default)).2.1+1 then (Bw (a.it.getD j default)).2.1+1 else d),(if 262145<w+(Bw (a.it.getD j default)).2.2 then 262145 else w+(Bw (a.it.getD j default)).2.2)),⟨by simp only;omega,?_,?_,?_,?_,hch⟩,by simp only;omega,⟨Ba (by omega) (by omega),rfl,rfl⟩,tt⟩
    ·simp only;split<;>omega
    ·simp only;split<;>omega
    ·simp only;split<;>omega
    ·simp only;split<;>omega
  ·have hj:j=a.it.length:=by omega
   rw[hj,List.drop_length,C7] at hch
   rw[<- hch] at hA
   simp only at hA
   refine⟨⟨fun h1=>by rw[decide_eq_true h1];rfl,fun h1=>by rw[decide_eq_false h1];rfl⟩,fun hc=>?_,fun hc=>?_⟩
   ·rw[Bool.or_eq_true,decide_eq_true_eq,decide_eq_true_eq] at hc
    rw[if_pos hc] at hA
    rw[hA];exact⟨rfl,rfl,rfl⟩
   ·rw[Bool.or_eq_false_iff,decide_eq_false_iff_not,decide_eq_false_iff_not] at hc
    rw[if_neg (by omega)] at hA
    rw[hA];exact⟨rfl,rfl,rfl⟩
theorem BgR:∀(a:Arr),a.ok->∀xb,ACalls Tryz.prog 115 ((IA Arr.row2 xb (fun _=>True)).args a) ((IA Arr.row2 xb (fun _=>True)).st a) (SpecR (IA Arr.row2 xb (fun _=>True)) a)
 |.mk k s n is,h,xb=>by
  have h':=h
  simp only[Arr.ok] at h'
  obtain ⟨_,_,_,h1,h2,h3,h4⟩:=h'
  refine Bko xb (.mk k s n is) ⟨h2,h3,h1⟩ fun b hb=>?_
  have hb':b∈is:=hb
  exact BgR b ((EY _).1 h4 b hb') xb
termination_by a=>SizeOf.sizeOf a
decreasing_by
 have:=List.sizeOf_lt_of_mem hb'
 simp;omega
theorem BlF(a:Arr)(ha:a.ok)(xb:Nat)(q:Arr->Prop):ACalls Tryz.prog 115 ((IA Arr.row1 xb q).args a) ((IA Arr.row1 xb q).st a) (SpecR (IA Arr.row1 xb q) a):=by
 refine ((BgR a ha xb).wkArgs ?_).mono fun _ _ ⟨y,h1,h2,h3⟩=>⟨y,h1,h2,h3⟩
 simp only[IA,wkL,wkD]
 exact⟨GP a,by simp[Bn,Bb]⟩
def Bl5(a:Arr):Con:=fun k ds _=>match k with
 |115=>match ds with
  | [_,.ref _ xb _]=>some (IA Arr.row1 xb (fun b=>b=a))
  |_=>none
 |_=>none
theorem Bj2{a:Arr}(ha:a.ok):ConOk Tryz.prog (Bl5 a):=by
 intro k ds S A h
 unfold Bl5 at h
 split at h
 ·split at h
  ·injection h with h;subst h
   refine ConOk.plain (fun b hb=>?_) rfl rfl
   have hb:b=a:=hb
   rw[hb]
   exact BlF a ha _ _
  ·cases h
 ·cases h
noncomputable def Eri(a:Arr):Senv:=EC (Bl5 a) 16 7 [] (fun _=>([],[]))
noncomputable section
def QgF(a:Arr):Nat:=LN (Arr.sh a)
def QnU(a:Arr)(b:Nat):List D:=[ZI (GI (Arr.sh a) b)]
def QgG(a:Arr):Nat:=LN (Arr.nu a)
def QnV(a:Arr)(b:Nat):List D:=[ZI (GI (Arr.nu a) b)]
def QgH(a:Arr):Nat:=LN (Arr.it a)
def QnW(a:Arr)(b:Nat):List D:=Arr.row (GA (Arr.it a) b)
end
theorem Bi2(a:Arr)(ha:a.ok):ACalls Tryz.prog 95 [.agg a.row1] ⟨[],[]⟩ (SpecR (sC [.agg a.row1] (.int .i64 (Bw a).1)) ()):=by
 refine Bg (A:=sC _ _) (x:=()) (E:=Eri a) (eOk (Bj2 ha) rfl) Tryz.func95 rfl (by kernel_rfl) rfl (by simp[sC,Eri,EC,E0]) ?_
 refine Bi (T :=
  ∀(x:Nat),True->∀(x_1:Nat),x≠x_1/\True->SM x_1/\SM x_1/\SM x/\∃(x:Arr),((Arr.k a=Arr.k x/\(QgF a=QgF x/\(∀(i:Nat),i<QgF a->QnU a i=QnU x i)/\True)/\(QgG a=QgG x/\(∀(i:Nat),i<QgG a->QnV a i=QnV x i)/\True)/\(QgH a=QgH x/\(∀(i:Nat),i<QgH a->QnW a i=QnW x i)/\True)/\True)/\SM x_1/\True)/\((SM x_1/\(D.fn (Fn.func (115:Nat)) [] [D.ref (max (N0+N1) N0) x_1 N0]=D.fn (Fn.func (115:Nat)) [] [D.ref N1 x_1 N0]/\True)/\True)/\True)/\x=a/\∀(y:Unit),True->RT (Prod.fst (Bw x)=Prod.fst (Bw a))) (by kernel_rfl) ?_
 delta DA GA GI LN N0 N1 SM Z0 ZI QgF QnU QgG QnV QgH QnW RT
 intro x _ x1 hx
 exact⟨rfl,rfl,rfl,a,⟨⟨rfl,⟨rfl,fun _ _=>rfl,trivial⟩,⟨rfl,fun _ _=>rfl,trivial⟩,⟨rfl,fun _ _=>rfl,trivial⟩,trivial⟩,rfl,trivial⟩,⟨⟨rfl,⟨rfl,trivial⟩,trivial⟩,trivial⟩,rfl,fun _ _=>⟨trivial,(),trivial,rfl,trivial,trivial⟩⟩
noncomputable def Ernum:Senv:=EC EB 9 1 [2] (fun _=>([],[]))
noncomputable section
def QgI(a:Int):Bool:=bif decide ((-4611686018427387903:Int)<=a) then decide (a<=4611686018427387903) else false
end
theorem Bmy(z:Int):ACalls Tryz.prog 146 [.int .i64 z] ⟨[],[]⟩ (SpecR (sC [.int .i64 z] (.bool (Ba3 z))) ()):=by
 refine Bg (A:=sC _ _) (x:=()) (E:=Ernum) (eOk BM rfl) Tryz.func146 rfl (by kernel_rfl) rfl (by simp[sC,Ernum,EC,E0]) ?_
 refine Bi (T :=
  ifB (decide ((-4611686018427387903:Int)<=z)) (decide (z<=4611686018427387903)=QgI z/\True) (false=QgI z/\True)/\RT (QgI z=Ba3 z)) (by kernel_rfl) ?_
 delta QgI RT
 simp only[Bf,decide_eq_true_eq,decide_eq_false_iff_not,true_and,and_true,Bool.cond_false_right,exists_const]
 refine⟨⟨fun h=>by rw[decide_eq_true h];rfl,fun h=>by rw[decide_eq_false h];rfl⟩,rfl⟩
noncomputable def Erchr:Senv:=EC EB 17 1 [2] (fun _=>([],[]))
noncomputable section
def Qap(a:Int):Bool:=bif bif decide (Z0<=a) then decide (a<=1114111) else false then bif decide (a<55296) then true else decide ((57343:Int)<a) else false
def QnX(a:Int):Prop:=false=Qap a/\True
end
theorem Bm6(z:Int):ACalls Tryz.prog 147 [.int .i64 z] ⟨[],[]⟩ (SpecR (sC [.int .i64 z] (.bool (WM z))) ()):=by
 refine Bg (A:=sC _ _) (x:=()) (E:=Erchr) (eOk BM rfl) Tryz.func147 rfl (by kernel_rfl) rfl (by simp[sC,Erchr,EC,E0]) ?_
 refine Bi (T :=
  ifB (decide (Z0<=z)) (ifB (decide (z<=1114111)) (ifB (decide (z<55296)) (true=Qap z/\True) (decide ((57343:Int)<z)=Qap z/\True)) (QnX z)) (QnX z)/\RT (Qap z=WM z)) (by kernel_rfl) ?_
 delta Z0 Qap QnX RT
 simp only[Bf,decide_eq_true_eq,decide_eq_false_iff_not,true_and,and_true,Bool.cond_false_right,Bool.cond_true_left,exists_const]
 refine⟨⟨fun h1=>⟨fun h2=>⟨fun h3=>by simp[h1,h2,h3],fun h3=>by simp[h1,h2,h3]⟩,fun h2=>by simp[h1,h2]⟩,fun h1=>by simp[h1]⟩,rfl⟩
def BV(k:Int)(nn ni:Nat):Int:=if k=1\/k=2 then nn else if k=3 then ni else 0
noncomputable def Esz:Senv:=EC EB 16 3 [4,5,11] (fun _=>([],[]))
noncomputable section
def QnY(a b:Nat)(c:Int)(d:Nat):Prop:=SM a/\True/\∃(_y:Unit),True/\(↑b:Int)=BV c b d/\True/\True
def QnZ(a:Int)(b c d:Nat):Prop:=ifB (a==3) (SM b/\True/\∃(_y:Unit),True/\(↑c:Int)=BV a d c/\True/\True) (True/\∃(_y:Unit),True/\Z0=BV a d c/\True/\True)
end
theorem BqI(k : Int)(ns nn ni : Nat)(f g h : Nat -> List D) :
  ACalls Tryz.prog 144 [.agg [.int .i64 k,.sl 1 ns f .any,.sl 1 nn g .any,.sl 4 ni h .any]] ⟨[],[]⟩ (SpecR (sC [.agg [.int .i64 k,.sl 1 ns f .any,.sl 1 nn g .any,.sl 4 ni h .any]] (.int .i64 (BV k nn ni))) ()):=by
 refine Bg (A:=sC _ _) (x:=()) (E:=Esz) (eOk BM rfl) Tryz.func144 rfl (by kernel_rfl) rfl (by simp[sC,Esz,EC,E0]) ?_
 refine Bi (T :=
  ∀(x:Nat),True->SM x/\ifB (k==Z1) (ifB (k==Z1) (QnY x nn k ni) (QnZ k x ni nn)) (ifB (k==2) (QnY x nn k ni) (QnZ k x ni nn))) (by kernel_rfl) ?_
 delta SM Z0 Z1 QnY QnZ
 simp only[Bf,true_and,and_true,beq_iff_eq,beq_eq_false_iff_ne,ne_eq,exists_const,forall_const]
 repeat' (first
  |refine And.intro ?_ ?_
  |intro _)
 all_goals first
  |(simp_all[BV];done)
  |grind [BV]
  |trace_state
def R6:Con:=fun k ds S=>match k with
 |144=>match ds with
  | [.agg [.int .i64 k,.sl 1 _ _ _,.sl 1 nn _ _,.sl 4 ni _ _]]=>some (pC ds (.int .i64 (BV k nn ni)) True)
  |_=>none
 |146=>match ds with
  | [.int .i64 z]=>some (pC [.int .i64 z] (.bool (Ba3 z)) True)
  |_=>none
 |147=>match ds with
  | [.int .i64 z]=>some (pC [.int .i64 z] (.bool (WM z)) True)
  |_=>none
 |k=>Ul k ds S
theorem OL:ConOk Tryz.prog R6:=by
 intro k ds S A h
 unfold R6 at h
 split at h
 ·split at h
  ·rename_i k ns f _ nn g _ ni g' _
   injection h with h;subst h
   refine BW fun _=>⟨Bk _,B9 (us:=[.agg [.int .i64 k,.sl 1 ns f .any,.sl 1 nn g .any,.sl 4 ni g' .any]]) ?_ (BqI _ _ _ _ _ _ _)⟩
   refine⟨?_,trivial⟩
   simp only[Bn,BD]
   refine⟨by simp[Bb,kEq],?_,?_,?_,trivial⟩
   ·simp[Bb,BG]
   ·simp[Bb,BG]
   ·simp[Bb,BG]
  ·cases h
 ·split at h
  ·injection h with h;subst h
   exact BW fun _=>⟨Bk _,Bmy _⟩
  ·cases h
 ·split at h
  ·injection h with h;subst h
   exact BW fun _=>⟨Bk _,Bm6 _⟩
  ·cases h
 ·exact IQ _ _ _ _ h
mutual
def wtA:Arr->Int
 |.mk k _ n is=>min (wtL k is (BV k n.length is.length)) 262145
def wtL(k:Int):List Arr->Int->Int
 | [],n=>n
 |x::r,n=>if k=3/\n<=262144 then wtL k r (n+wtA x) else n
end
theorem Bmi(a:Arr):wtA a=min (wtL a.k a.it (BV a.k a.nu.length a.it.length)) 262145:=by
 cases a with
 |mk k s n is=>rw[wtA];rfl
theorem Bgn(k:Int):∀(l:List Arr) (n:Int),0<=n->(∀x∈l,0<=wtA x)->0<=wtL k l n
 | [],n,h,_=>by rw[wtL];exact h
 |x::r,n,h,h2=>by
  rw[wtL]
  have:=h2 x (by simp)
  split
  ·exact Bgn k r _ (by omega) fun y hy=>h2 y (by simp[hy])
  ·exact h
theorem Wt:∀(a:Arr),0<=wtA a/\wtA a<=262145
 |.mk k s n is=>by
  rw[wtA]
  have hs:0<=BV k n.length is.length:=by unfold BV;split<;>(try split)<;>omega
  have:=Bgn k is _ hs fun x hx=>(Wt x).1
  omega
termination_by a=>SizeOf.sizeOf a
decreasing_by
 have:=List.sizeOf_lt_of_mem hx
 simp;omega
def sRc(row:Arr->List D)(q:Arr->Prop)(r:Arr->D):FnSpec where
 β:=Arr
 α:=Unit
 args:=fun a=>[.agg (row a)]
 st:=fun _=>⟨[],[]⟩
 pre:=q
 post:=fun _ _=>True
 res:=fun a _=>.ret (r a)
 out:=fun _ _=>⟨[],[]⟩
def Bkt(its:List Arr):Con:=fun k ds S=>match k with
 |148=>some (sRc Arr.row1 (fun b=>b∈its) (fun b=>.int .i64 (wtA b)))
 |k=>R6 k ds S
theorem El{k:Nat}{q q':Arr->Prop}{r:Arr->D}{b:Arr}(h:ACalls Tryz.prog k ((sRc Arr.row2 q r).args b) ⟨[],[]⟩ (SpecR (sRc Arr.row2 q r) b)):ACalls Tryz.prog k ((sRc Arr.row1 q' r).args b) ⟨[],[]⟩ (SpecR (sRc Arr.row1 q' r) b):=by
 refine (h.wkArgs ?_).mono fun _ _ ⟨y,h1,h2,h3⟩=>⟨y,h1,h2,h3⟩
 simp only[sRc,wkL,wkD]
 exact⟨GP b,trivial⟩
theorem BlV{its:List Arr}(ih:∀b∈its,ACalls Tryz.prog 148 ((sRc Arr.row2 (fun _=>True) (fun b=>.int .i64 (wtA b))).args b) ⟨[],[]⟩ (SpecR (sRc Arr.row2 (fun _=>True) (fun b=>.int .i64 (wtA b))) b)):ConOk Tryz.prog (Bkt its):=by
 intro k ds S A h
 unfold Bkt at h
 split at h
 ·injection h with h;subst h
  exact ConOk.plain (fun b hb=>El (ih b hb)) rfl rfl
 ·exact OL _ _ _ _ h
noncomputable def Ewt(a:Arr):Senv:={ EC (Bkt a.it) 33 5 [20] (fun _=>([],[])) with
 ann:=fun b _ S=>match b with
  |0=>some { slots:=[3,4],keep:=[0,1,2],α:=Nat×Int,st:=fun y=>([.int .i64 y.2,.int .i64 y.1],S),inv:=fun y=>y.1<=a.it.length/\0<=y.2/\y.2<=maxLen/\wtL a.k (a.it.drop y.1) y.2=wtL a.k a.it (BV a.k a.nu.length a.it.length),mu:=fun y=>a.it.length-y.1 }
  |_=>none }
noncomputable section
def XF(a:Arr):List Arr:=Arr.it a
def JM(a:Arr):Nat:=LN (XF a)
def Vn(a:Arr):Int:=Arr.k a
def Zj(a:Arr):Nat:=LN (Arr.nu a)
def Qn0(a:Arr):Int:=BV (Vn a) (Zj a) (JM a)
def QgJ(a:Nat)(b:Arr)(c:Int):Prop:=a<=JM b/\Z0<=c/\c<=9223372036854775807/\wtL (Vn b) (List.drop a (XF b)) c=wtL (Vn b) (XF b) (Qn0 b)
def Qaq(a:Arr):Nat:=LN (Arr.sh a)
def QgK(a:Arr)(b:Nat):List D:=[ZI (GI (Arr.sh a) b)]
def QgL(a:Arr)(b:Nat):List D:=[ZI (GI (Arr.nu a) b)]
def Qar:Arr:=DA
def Zk(a:Arr)(b:Nat):Arr:=List.getD (XF a) b Qar
def QNN(a:Arr)(b:Nat):List Int:=Arr.sh (Zk a b)
def QNO(a:Arr)(b:Nat):List Int:=Arr.nu (Zk a b)
def Qn1(a:Arr)(b:Nat):List Arr:=Arr.it (Zk a b)
def Qn2(a:Arr)(b:Nat):List D:=[ZI (Arr.k (Zk a b)),SI (QNN a b),SI (QNO a b),D.sl N4 (LN (Qn1 a b)) (fun i=>Arr.row (List.getD (Qn1 a b) i Qar)) Mode.any]
def Qn3(a:Nat)(b:Arr):Prop:=(SM a/\(SM (Vn b)/\(SM (Qaq b)/\(∀(i:Nat),i<Qaq b->SM (QgK b i))/\True)/\(SM (Zj b)/\(∀(i:Nat),i<Zj b->SM (QgL b i))/\True)/\(SM (JM b)/\(∀(i:Nat),i<JM b->SM (Qn2 b i))/\True)/\True)/\True)/\True
def Qn4(a:Nat)(b:Arr):Bool:=decide ((↑a:Int)<(NI (JM b)))
def QgM(a:Nat)(b:Arr)(c:Int):Bool:=bif bif Qn4 a b then Vn b==3 else false then decide (c<=262144) else false
def Qn5(a:Nat)(b:Arr)(c:Int):Prop:=false=QgM a b c/\True
def Qas(a:Arr)(b:Nat):Arr:=List.getD (XF a) (Int.toNat (↑b:Int)) Qar
def Qn6(a:Arr)(b:Nat):List Int:=Arr.sh (Qas a b)
def Qn7(a:Arr)(b:Nat):Nat:=LN (Qn6 a b)
def Qn8(a:Arr)(b:Nat):List Int:=Arr.nu (Qas a b)
def Qn9(a:Arr)(b:Nat):Nat:=LN (Qn8 a b)
def Qoa(a:Arr)(b:Nat):List Arr:=Arr.it (Qas a b)
def Qob(a:Arr)(b:Nat):Nat:=LN (Qoa a b)
def QNP(a:Arr):D:=D.agg [ZI (Vn a),D.sl N1 (Qaq a) (fun i=>QgK a i) Mode.any,D.sl N1 (Zj a) (fun i=>QgL a i) Mode.any,D.sl N4 (JM a) (fun i=>Qn2 a i) Mode.any]
end
theorem BmO(a : Arr)(ha : a.nu.length<=maxLen /\ a.it.length<=maxLen /\ a.sh.length<=maxLen)(ih : ∀b∈a.it, ACalls Tryz.prog 148 ((sRc Arr.row2 (fun _=>True) (fun b=>.int .i64 (wtA b))).args b) ⟨[], []⟩ (SpecR (sRc Arr.row2 (fun _=>True) (fun b=>.int .i64 (wtA b))) b)) :
  ACalls Tryz.prog 148 ((sRc Arr.row2 (fun _=>True) (fun b=>.int .i64 (wtA b))).args a) ⟨[],[]⟩ (SpecR (sRc Arr.row2 (fun _=>True) (fun b=>.int .i64 (wtA b))) a):=by
 refine Bg (A:=sRc Arr.row2 (fun _=>True) (fun b=>.int .i64 (wtA b))) (x:=a) (E:=Ewt a) (eOk (BlV ih) rfl) Tryz.func148 rfl (by kernel_rfl) rfl (by simp[sRc,Ewt,EC,E0]) ?_
 refine Bi (T :=
  ∀(x:Nat),True->SM x/\True/\∀(y:Unit),True->(∃(x_1:Nat×Int),QgJ x_1.1 a x_1.2/\(Qn0 a=x_1.2/\Z0=(NI x_1.1)/\True)/\Qn3 x a)/\∀(x_1:Nat×Int),QgJ x_1.1 a x_1.2->(SM x/\ifB (Qn4 x_1.1 a) (SM x/\ifB (Vn a==3) (decide (x_1.2<=262144)=QgM x_1.1 a x_1.2/\True) (Qn5 x_1.1 a x_1.2)) (Qn5 x_1.1 a x_1.2))/\ifB (QgM x_1.1 a x_1.2) (SM x/\Bc (Z0<=(NI x_1.1)/\(NI x_1.1)<(NI (JM a))) (∃(x_2:Arr),((Arr.k (Qas a x_1.1)=Vn x_2/\(Qn7 a x_1.1=Qaq x_2/\(∀(i:Nat),i<Qn7 a x_1.1->[ZI (GI (Qn6 a x_1.1) i)]=QgK x_2 i)/\True)/\(Qn9 a x_1.1=Zj x_2/\(∀(i:Nat),i<Qn9 a x_1.1->[ZI (GI (Qn8 a x_1.1) i)]=QgL x_2 i)/\True)/\(Qob a x_1.1=JM x_2/\(∀(i:Nat),i<Qob a x_1.1->Arr.row (List.getD (Qoa a x_1.1) i Qar)=Arr.row (Zk x_2 i))/\True)/\True)/\True)/\(True/\True)/\x_2∈XF a/\∀(y:Unit),True->(SM (QNP a)/\SM (D.ref N0 x N0)/\SM (ZI Z0)/\True)/\∃(y:Nat×Int),QgJ y.1 a y.2/\JM a-y.1<JM a-x_1.1/\(IntKind.wrap IntKind.i64 (x_1.2+wtA x_2)=y.2/\IntKind.wrap IntKind.i64 ((NI x_1.1)+Z1)=(NI y.1)/\True)/\Qn3 x a)) (RT ((if (262145:Int)<x_1.2 then (262145:Int) else x_1.2)=wtA a))) (by kernel_rfl) ?_
 delta DA GI LN N0 N1 N4 NI SI SM Z0 Z1 ZI QgJ Qaq QgK QgL Qar Zk QNN QNO Qn1 Qn2 Qn3 Qn4 QgM Qn5 Qas Qn6 Qn7 Qn8 Qn9 Qoa Qob QNP XF JM Vn Zj Qn0 RT
 have da:(default:Arr)=Arr.mk 0 [] [] []:=rfl
 simp only[<- da,Int.toNat_natCast,Bf,Bd,decide_eq_true_eq,decide_eq_false_iff_not,true_and,and_true,beq_iff_eq,Bool.cond_false_right,Bool.and_eq_true,Bool.and_eq_false_iff,beq_eq_false_iff_ne,ne_eq,exists_const,forall_const]
 obtain ⟨l1,l2,l3⟩:=ha
 simp only[maxLen] at l1 l2 l3
 have tt:(∀i:Nat,i<a.sh.length->True)/\(∀i:Nat,i<a.nu.length->True)/\∀i:Nat,i<a.it.length->True:=⟨fun _ _=>trivial,fun _ _=>trivial,fun _ _=>trivial⟩
 have hsz:0<=BV a.k a.nu.length a.it.length/\BV a.k a.nu.length a.it.length<=9223372036854775807:=by
  unfold BV;split<;>(try split)<;>omega
 refine⟨⟨(0,BV a.k a.nu.length a.it.length),⟨Nat.zero_le _,hsz.1,hsz.2,rfl⟩,⟨rfl,rfl⟩,tt⟩,?_⟩
 rintro ⟨j,n⟩ ⟨b1,b2,b3,hch⟩
 simp only at b1 b2 b3 hch ⊢
 refine⟨⟨fun h1=>⟨fun h2=>by simp[h1,h2],fun h2=>by simp[h2]⟩,fun h1=>by simp[h1]⟩,fun ⟨⟨h1,h2⟩,h3⟩=>⟨by omega,?_⟩,fun hc=>?_⟩
 ·have hlt':j<a.it.length:=by omega
  have hbd:=Wt (a.it.getD j default)
  rw[Gi hlt',wtL,if_pos ⟨h2,h3⟩] at hch
  refine⟨a.it.getD j default,⟨rfl,⟨rfl,fun _ _=>rfl⟩,⟨rfl,fun _ _=>rfl⟩,rfl,fun _ _=>rfl⟩,Cg hlt',(j+1,n+wtA (a.it.getD j default)),⟨by simp only;omega,by simp only;omega,by simp only;omega,hch⟩,by simp only;omega,⟨Ba (by omega) (by omega),Ba (by omega) (by omega)⟩,tt⟩
 ·have he:wtL a.k (a.it.drop j) n=n:=by
   by_cases hj:j<a.it.length
   ·rw[Gi hj,wtL,if_neg (by rintro ⟨h2,h3⟩;rcases hc with (h | h) | h<;>omega)]
   ·rw[List.drop_eq_nil_of_le (by omega),wtL]
  rw[he] at hch
  rw[Bmi,<- hch]
  split<;>omega
theorem BiG:∀(a:Arr),a.ok->ACalls Tryz.prog 148 ((sRc Arr.row2 (fun _=>True) (fun b=>.int .i64 (wtA b))).args a) ⟨[],[]⟩ (SpecR (sRc Arr.row2 (fun _=>True) (fun b=>.int .i64 (wtA b))) a)
 |.mk k s n is,h=>by
  have h':=h
  simp only[Arr.ok] at h'
  obtain ⟨_,_,_,h1,h2,h3,h4⟩:=h'
  refine BmO (.mk k s n is) ⟨h2,h3,h1⟩ fun b hb=>?_
  have hb':b∈is:=hb
  exact BiG b ((EY _).1 h4 b hb')
termination_by a=>SizeOf.sizeOf a
decreasing_by
 have:=List.sizeOf_lt_of_mem hb'
 simp;omega
theorem BcH:∀(l:List Arr) (d d' w':Int),C7 l d 262145=some (d',w')->w'=262145
 | [],d,d',w',h=>by rw[C7] at h;injection h with h;injection h with e1 e2;omega
 |x::r,d,d',w',h=>by
  rw[C7] at h
  have:=Ej x
  split at h
  ·cases h
  ·have e:(if (262145:Int)<262145+(Bw x).2.2 then 262145 else 262145+(Bw x).2.2)=262145:=by split<;>omega
   rw[e] at h;exact BcH r _ d' w' h
theorem Bgm(k:Int):∀(l:List Arr) (d w d' w':Int),C7 l d w=some (d',w')->(k=3\/l=[])->(∀x∈l,(Bw x).1=0->wtA x=(Bw x).2.2)->∀n,min n 262145=w->min (wtL k l n) 262145=w'
 | [],d,w,d',w',h,_,_,n,hn=>by
  rw[C7] at h;injection h with h;injection h with e1 e2;rw[wtL];omega
 |x::r,d,w,d',w',h,hk,h3,n,hn=>by
  have hk:k=3:=hk.resolve_right (by simp)
  rw[C7] at h
  have hb:=Ej x
  split at h
  ·cases h
  ·rename_i hx
   have hx:(Bw x).1=0:=by simpa using hx
   have hwx:=h3 x (by simp) hx
   rw[wtL]
   by_cases hn2:n<=262144
   ·rw[if_pos ⟨hk,hn2⟩]
    refine Bgm k r _ _ d' w' h (.inl hk) (fun y hy=>h3 y (by simp[hy])) _ ?_
    split<;>omega
   ·rw[if_neg (fun e=>hn2 e.2)]
    have hw:w=262145:=by omega
    rw[hw] at h
    have:(if (262145:Int)<262145+(Bw x).2.2 then 262145 else 262145+(Bw x).2.2)=262145:=by split<;>omega
    rw[this] at h
    have:=BcH r _ _ _ h
    omega
theorem BhR{k:Int}{s:List Int}{nn ni:Nat}(h:B8 k s nn ni=0):(k=3/\nn=0)\/((k=1\/k=2)/\ni=0):=by
 unfold B8 at h
 by_cases hk:k=1\/k=2\/k=3
 ·rw[if_pos hk] at h
  by_cases hd:Ef s≠0
  ·rw[if_pos hd] at h;exact (hd h).elim
  ·rw[if_neg hd] at h
   by_cases hc:((if k=3 then (ni:Int) else nn)≠CK s)\/((if k=3 then (nn:Int) else ni)≠0)
   ·rw[if_pos hc] at h;omega
   ·simp only[not_or,ne_eq,Decidable.not_not] at hc
    obtain ⟨c1,c2⟩:=hc
    by_cases k3:k=3
    ·simp only[k3,if_true] at c2;left;omega
    ·simp only[k3,if_false] at c2;right;omega
 ·rw[if_neg hk] at h;omega
theorem Bn3{a:Arr}{r:Int×Int}(h0:B8 a.k a.sh a.nu.length a.it.length=0)(hr:C7 a.it 0 ((a.nu.length:Int)+a.it.length)=some r)(h3:∀x∈a.it,(Bw x).1=0->wtA x=(Bw x).2.2):wtA a=r.2:=by
 have hz:=BhR h0
 have hs:=G9 h0
 rw[Bmi]
 refine Bgm a.k a.it 0 _ r.1 r.2 hr ?_ h3 _ ?_
 ·rcases hz with ⟨h1,_⟩ | ⟨_,h2⟩
  ·exact .inl h1
  ·exact .inr (List.length_eq_zero_iff.1 h2)
 ·unfold BV
  rcases hz with ⟨h1,h2⟩ | ⟨h1,h2⟩
  ·rw[if_neg (by omega),if_pos h1];omega
  ·rw[if_pos h1];omega
theorem BjZ:∀(a:Arr),(Bw a).1=0->wtA a=(Bw a).2.2
 |.mk k s n is,h=>by
  have ih:∀x∈(Arr.mk k s n is).it,(Bw x).1=0->wtA x=(Bw x).2.2:=fun x hx=>by
   have hx':x∈is:=hx
   exact BjZ x
  have hA:=BbW (Arr.mk k s n is)
  generalize Arr.mk k s n is=a at *
  by_cases h0:B8 a.k a.sh a.nu.length a.it.length=0
  ·rw[if_neg (fun e=>e h0)] at hA
   by_cases h1:a.nu.any (E9 a.k)=true
   ·rw[if_pos h1] at hA;rw[hA] at h;cases h
   ·rw[if_neg h1] at hA
    cases hr:C7 a.it 0 ((a.nu.length:Int)+a.it.length) with
    |none=>rw[hr] at hA;simp only at hA;rw[hA] at h;cases h
    |some r =>
     rw[hr] at hA
     simp only at hA
     split at hA
     ·rw[hA] at h;cases h
     ·rw[hA];exact Bn3 h0 hr ih
  ·rw[if_pos h0] at hA;rw[hA] at h;exact (h0 h).elim
termination_by a=>SizeOf.sizeOf a
decreasing_by
 have:=List.sizeOf_lt_of_mem hx'
 simp;omega
def UI(b:Arr):D:=.tup [.int .i64 (Bw b).1,.int .i64 (Bw b).2.1]
def BkR(a:Arr):Con:=fun k ds S=>match k with
 |124=>some (sRc Arr.row1 (fun b=>b∈a.it) (fun b=>.tup [.int .i64 (Bw b).1,.int .i64 (Bw b).2.1]))
 |148=>some (sRc Arr.row2 (fun b=>b=a) (fun b=>.int .i64 (wtA b)))
 |k=>R6 k ds S
theorem Bmc{a:Arr}(ha:a.ok)(ih:∀b∈a.it,ACalls Tryz.prog 124 ((sRc Arr.row2 (fun _=>True) UI).args b) ⟨[],[]⟩ (SpecR (sRc Arr.row2 (fun _=>True) UI) b)):ConOk Tryz.prog (BkR a):=by
 intro k ds S A h
 unfold BkR at h
 split at h
 ·injection h with h;subst h
  exact ConOk.plain (fun b hb=>El (r:=UI) (ih b hb)) rfl rfl
 ·injection h with h;subst h
  refine ConOk.plain (fun b hb=>?_) rfl rfl
  have hb:b=a:=hb
  rw[hb]
  exact (BiG a ha).mono fun _ _ ⟨y,h1,h2,h3⟩=>⟨y,h1,h2,h3⟩
 ·exact OL _ _ _ _ h
def cutW(a:Arr)(d:D)(S:St):Option LoopAnn :=
 match d with
 |.int _ i=>some { slots:=[76],keep:=[],α:=Unit,st:=fun _=>([.bool (E9 a.k (a.nu.getD i.toNat 0))],S),inv:=fun _=>True,mu:=fun _=>0 }
 |_=>none
noncomputable def Eck(a:Arr):Senv:={ EC (BkR a) 107 11 [18,23,30,43,48,76,81,94,105] (fun id=>match id with | 9=>([0,2,3,1,4,5,6,7,8,9],[1,4]) | _=>([],[])) with
 cut:=fun id env S=>match id with
  |14=>cutW a (Ab.look env 6) S
  |_=>none
 ann:=fun b _ S=>match b with
  |0=>some { slots:=[6],keep:=[0,1,2,3],α:=Nat,st:=fun i=>([.int .i64 i],S),inv:=fun i=>i<=a.nu.length/\∀z∈a.nu.take i,E9 a.k z=false,mu:=fun i=>a.nu.length-i }
  |2=>some { slots:=[8,7],keep:=[0,1,2,3],α:=Nat×Int×Int,st:=fun y=>([.int .i64 y.1,.int .i64 y.2.1],S),inv:=fun y=>y.1<=a.it.length/\0<=y.2.1/\y.2.1<=17/\0<=y.2.2/\y.2.2<=262145/\C7 (a.it.drop y.1) y.2.1 y.2.2=C7 a.it 0 ((a.nu.length:Int)+a.it.length),mu:=fun y=>a.it.length-y.1 }
  |_=>none }
noncomputable section
def QH(a:Arr):Int:=Arr.k a
def Qoc(a:Arr):Bool:=decide (QH a<Z1)
def Qod(a:Arr):Bool:=decide ((3:Int)<QH a)
def QgN(a:Arr):Bool:=bif Qoc a then true else Qod a
def VS(a:Arr):Int:=Prod.fst (Bw a)
def QgO(a:Arr):Int:=Prod.fst (Prod.snd (Bw a))
def Zl(a:Arr):Prop:=Z0=QgO a/\True
def JY(a:Arr):Nat:=LN (Arr.sh a)
def VT(a:Arr)(b:Nat):List D:=[ZI (GI (Arr.sh a) b)]
def Qoe(a:Arr):Prop:=IntsP (JY a) fun i=>VT a i
def Qof(a:Arr):List Int:=Bj (JY a) fun i=>VT a i
def QgP(a:Arr):Int:=Ef (Qof a)
def Qog(a:Arr):D:=D.sl N1 (JY a) (fun i=>VT a i) Mode.any
def Qoh(a:Nat)(b:Arr):Prop:=SM a/\SM (Qog b)
def Qoi(a:Arr):Prop:=Qoe a/\QgP a=Z0
def Qat(a:Arr):List Int:=Arr.nu a
def QO(a:Arr):Nat:=LN (Qat a)
def XG(a:Arr):List Arr:=Arr.it a
def QP(a:Arr):Nat:=LN (XG a)
def Qoj(a:Arr):Bool:=BV (QH a) (QO a) (QP a) != CK (Qof a)
def Qau(a:Arr):Prop:=True/\∃(_y:Unit),True/\((16:Int)=VS a/\Zl a)/\True/\True
def Zm(a:Arr):Int:=(NI (QO a))
def QgQ(a:Nat)(b:Arr):Prop:=a<=QO b/\∀(z:Int),z∈List.take a (Qat b)->E9 (QH b) z=false
def Zn(a:Arr)(b:Nat):List D:=[ZI (GI (Qat a) b)]
def Qav:Arr:=DA
def Zo(a:Arr)(b:Nat):Arr:=List.getD (XG a) b Qav
def QNQ(a:Arr)(b:Nat):List Int:=Arr.sh (Zo a b)
def QNR(a:Arr)(b:Nat):List Int:=Arr.nu (Zo a b)
def Qok(a:Arr)(b:Nat):List Arr:=Arr.it (Zo a b)
def Qaw(a:Arr)(b:Nat):List D:=[ZI (Arr.k (Zo a b)),SI (QNQ a b),SI (QNR a b),D.sl N4 (LN (Qok a b)) (fun i=>Arr.row (List.getD (Qok a b) i Qav)) Mode.any]
def VU(a:Nat)(b:Arr):Prop:=(SM a/\(SM (QH b)/\(SM (JY b)/\(∀(i:Nat),i<JY b->SM (VT b i))/\True)/\(SM (QO b)/\(∀(i:Nat),i<QO b->SM (Zn b i))/\True)/\(SM (QP b)/\(∀(i:Nat),i<QP b->SM (Qaw b i))/\True)/\True)/\True)/\True
def QgR(a:Arr)(b:Nat):Int:=GI (Qat a) (Int.toNat (↑b:Int))
def Qax(a:Arr)(b:Nat):Bool:=E9 (QH a) (QgR a b)
def Qol(a:Nat)(b:Arr)(c:Nat):Prop:=SM a/\ifB (QH b==2) (SM a/\Bc (Z0<=(↑c:Int)/\(↑c:Int)<Zm b) (True/\∀(_y:Unit),True->∃(_x:Unit),True/\((!WM (QgR b c))=Qax b c/\True)/\VU a b)) (∃(_x:Unit),True/\(false=Qax b c/\True)/\VU a b)
def Qom(a:Arr):Prop:=True/\∃(_y:Unit),True/\((17:Int)=VS a/\Zl a)/\True/\True
def QNS(a:Arr):D:=D.agg [ZI (QH a),Qog a,D.sl N1 (QO a) (fun i=>Zn a i) Mode.any,D.sl N4 (QP a) (fun i=>Qaw a i) Mode.any]
def Qon(a:Arr)(b:Nat):Prop:=SM (QNS a)/\SM (D.ref N0 b N0)/\SM (ZI Z0)/\SM (ZI Z0)/\True
def Qay(a:Arr):Int:=(NI (QP a))
def QgS(a:Nat)(b:Arr)(c d:Int):Prop:=a<=QP b/\Z0<=c/\c<=17/\Z0<=d/\d<=262145/\C7 (List.drop a (XG b)) c d=C7 (XG b) Z0 (Zm b+Qay b)
def Qaz(a:Arr)(b:Nat):Arr:=List.getD (XG a) (Int.toNat (↑b:Int)) Qav
def Qoo(a:Arr)(b:Nat):List Int:=Arr.sh (Qaz a b)
def Qop(a:Arr)(b:Nat):Nat:=LN (Qoo a b)
def Qoq(a:Arr)(b:Nat):List Int:=Arr.nu (Qaz a b)
def Qor(a:Arr)(b:Nat):Nat:=LN (Qoq a b)
def Qos(a:Arr)(b:Nat):List Arr:=Arr.it (Qaz a b)
def Qot(a:Arr)(b:Nat):Nat:=LN (Qos a b)
def Qou(a:Arr):Int:=IntKind.wrap IntKind.i64 (QgO a+Z1)
def Qov(a:Arr):Prop:=True/\∃(_y:Unit),True/\((21:Int)=VS a/\Zl a)/\True/\True
def Qow(a:Arr)(b:Nat):Prop:=(∃(x:Nat),QgQ x a/\(Z0=(↑x:Int)/\True)/\VU b a)/\∀(x:Nat),QgQ x a->SM b/\ifB (decide ((↑x:Int)<Zm a)) ((SM b/\ifB (QH a==Z1) (SM b/\Bc (Z0<=(↑x:Int)/\(↑x:Int)<Zm a) (True/\∀(_y:Unit),True->ifB (!Ba3 (QgR a x)) (∃(_x_1:Unit),True/\(true=Qax a x/\True)/\VU b a) (Qol b a x))) (Qol b a x))/\∀(_x_1:Unit),True->ifB (Qax a x) (Qom a) (Qon a b/\∃(y:Nat),QgQ y a/\QO a-y<QO a-x/\(IntKind.wrap IntKind.i64 ((↑x:Int)+Z1)=(↑y:Int)/\True)/\VU b a)) ((∃(x:Nat×Int×Int),QgS x.1 a x.2.1 x.2.2/\(Z0=(NI x.1)/\Z0=x.2.1/\True)/\VU b a)/\∀(x:Nat×Int×Int),QgS x.1 a x.2.1 x.2.2->SM b/\ifB (decide ((NI x.1)<Qay a)) (SM b/\Bc (Z0<=(NI x.1)/\(NI x.1)<Qay a) (∃(x_1:Arr),((Arr.k (Qaz a x.1)=QH x_1/\(Qop a x.1=JY x_1/\(∀(i:Nat),i<Qop a x.1->[ZI (GI (Qoo a x.1) i)]=VT x_1 i)/\True)/\(Qor a x.1=QO x_1/\(∀(i:Nat),i<Qor a x.1->[ZI (GI (Qoq a x.1) i)]=Zn x_1 i)/\True)/\(Qot a x.1=QP x_1/\(∀(i:Nat),i<Qot a x.1->Arr.row (List.getD (Qos a x.1) i Qav)=Arr.row (Zo x_1 i))/\True)/\True)/\True)/\(True/\True)/\x_1∈XG a/\∀(_y:Unit),True->ifB (VS x_1 != Z0) (Qom a) (Qon a b/\∃(y:Nat×Int×Int),QgS y.1 a y.2.1 y.2.2/\QP a-y.1<QP a-x.1/\(IntKind.wrap IntKind.i64 ((NI x.1)+Z1)=(NI y.1)/\(if x.2.1<Qou x_1 then Qou x_1 else x.2.1)=y.2.1/\True)/\VU b a))) (ifB (decide ((16:Int)<x.2.1)) (Qov a) (SM b/\∃(x_1:Arr),((QH a=QH x_1/\(JY a=JY x_1/\(∀(i:Nat),i<JY a->VT a i=VT x_1 i)/\True)/\(QO a=QO x_1/\(∀(i:Nat),i<QO a->Zn a i=Zn x_1 i)/\True)/\(QP a=QP x_1/\(∀(i:Nat),i<QP a->Qaw a i=Qaw x_1 i)/\True)/\True)/\True)/\(True/\True)/\x_1=a/\∀(_y:Unit),True->ifB (decide ((262144:Int)<wtA x_1)) (Qov a) (True/\∃(_y:Unit),True/\(Z0=VS a/\x.2.1=QgO a/\True)/\True/\True))))
end
theorem Bnw(a : Arr)(hok : a.ok)(ha : a.nu.length<=maxLen /\ a.it.length<=maxLen /\ a.sh.length<=maxLen)(ih : ∀b∈a.it, ACalls Tryz.prog 124 ((sRc Arr.row2 (fun _=>True) UI).args b) ⟨[], []⟩ (SpecR (sRc Arr.row2 (fun _=>True) UI) b)) :
  ACalls Tryz.prog 124 ((sRc Arr.row2 (fun _=>True) UI).args a) ⟨[],[]⟩ (SpecR (sRc Arr.row2 (fun _=>True) UI) a):=by
 refine Bg (A:=sRc Arr.row2 (fun _=>True) UI) (x:=a) (E:=Eck a) (eOk (Bmc hok ih) rfl) Tryz.func124 rfl (by kernel_rfl) rfl (by simp[sRc,Eck,EC,E0]) ?_
 simp only[sRc,UI]
 refine Bi (T :=
  ∀(x:Nat),True->(SM x/\ifB (Qoc a) (true=QgN a/\True) (SM x/\Qod a=QgN a/\True))/\ifB (QgN a) (True/\∃(y:Unit),True/\((14:Int)=VS a/\Zl a)/\True/\True) (SM x/\Qoe a/\∀(y:Unit),True->ifB (QgP a != Z0) (True/\∃(y:Unit),True/\(QgP a=VS a/\Zl a)/\True/\True) (SM x/\SM x/\ifB (QH a==3) (SM x/\SM x/\SM x/\True/\∀(y:Unit),True->Qoh x a/\Qoi a/\∀(y:Unit),True->ifB (Qoj a) (Qau a) (ifB (decide (Z0<Zm a)) (Qau a) (Qow a x))) (SM x/\SM x/\True/\∀(y:Unit),True->Qoh x a/\Qoi a/\∀(y:Unit),True->ifB (Qoj a) (Qau a) (ifB (decide (Z0<Qay a)) (Qau a) (Qow a x)))))) (by kernel_rfl) ?_
 delta DA GI LN N0 N1 N4 NI SI SM Z0 Z1 ZI QH Qoc Qof QgP Qog Qoh Qoi Qat QO XG QP Qoj Qod Qau Zm QgQ Zn Qav Zo QNQ QNR Qok Qaw QgN VU QgR Qax Qol Qom QNS Qon Qay QgS Qaz VS Qoo Qop Qoq Qor Qos Qot Qou Qov Qow QgO Zl JY VT Qoe
 have da:(default:Arr)=Arr.mk 0 [] [] []:=rfl
 simp only[<- da,B0,Int.toNat_natCast,Bf,Bd,decide_eq_true_eq,decide_eq_false_iff_not,true_and,and_true,beq_iff_eq,bne_iff_ne,Bool.cond_true_left,beq_eq_false_iff_ne,ne_eq,exists_const,forall_const]
 have hA:=BbW a
 obtain ⟨l1,l2,l3⟩:=ha
 simp only[maxLen] at l1 l2 l3
 have tt:(∀i:Nat,i<a.sh.length->True)/\(∀i:Nat,i<a.nu.length->True)/\∀i:Nat,i<a.it.length->True:=⟨fun _ _=>trivial,fun _ _=>trivial,fun _ _=>trivial⟩
 have bad:∀e,B8 a.k a.sh a.nu.length a.it.length=e->e≠0->e=(Bw a).1/\0=(Bw a).2.1:=fun e h1 h2=>by
  rw[if_pos (by rw[h1];exact h2),h1] at hA
  rw[hA];exact⟨rfl,rfl⟩
 refine⟨⟨fun h=>by simp[h],fun h=>by simp[h]⟩,fun h=>bad 14 ?_ (by decide),fun h=>⟨BQ _,fun hd=>bad _ ?_ hd,fun hd=>?_⟩⟩
 ·rw[Bool.or_eq_true,decide_eq_true_eq,decide_eq_true_eq] at h
  unfold B8;rw[if_neg (by omega)]
 ·rw[Bool.or_eq_false_iff,decide_eq_false_iff_not,decide_eq_false_iff_not] at h
  unfold B8;rw[if_pos (by omega),if_pos hd]
 rw[Bool.or_eq_false_iff,decide_eq_false_iff_not,decide_eq_false_iff_not] at h
 have hd0:Ef a.sh=0:=by simpa using hd
 have hk:a.k=1\/a.k=2\/a.k=3:=by omega
 have hf:B8 a.k a.sh a.nu.length a.it.length=if ((if a.k=3 then (a.it.length:Int) else a.nu.length)≠CK a.sh)\/((if a.k=3 then (a.nu.length:Int) else a.it.length)≠0) then 16 else 0:=by
  unfold B8;rw[if_pos hk,if_neg (fun e=>e hd0)]
 have hsz:BV a.k a.nu.length a.it.length=if a.k=3 then (a.it.length:Int) else a.nu.length:=by
  unfold BV
  by_cases k3:a.k=3
  ·rw[if_neg (by omega),if_pos k3,if_pos k3]
  ·rw[if_pos (by omega),if_neg k3]
 rw[<- hsz] at hf
 refine⟨fun k3=>⟨⟨BQ _,hd0⟩,fun hs=>bad 16 (by rw[hf,if_pos (.inl hs)]) (by decide),fun hs=>⟨fun ho=>bad 16 (by rw[hf,if_pos (.inr (by rw[if_pos k3];omega))]) (by decide),fun ho=>?_⟩⟩,
  fun k3=>⟨⟨BQ _,hd0⟩,fun hs=>bad 16 (by rw[hf,if_pos (.inl hs)]) (by decide),fun hs=>⟨fun ho=>bad 16 (by rw[hf,if_pos (.inr (by rw[if_neg k3];omega))]) (by decide),fun ho=>?_⟩⟩⟩
 all_goals
  have hs':BV a.k a.nu.length a.it.length=CK a.sh:=by simpa using hs
  have h0:B8 a.k a.sh a.nu.length a.it.length=0:=by
   rw[hf,if_neg]
   rintro (h1 | h1)
   ·exact h1 hs'
   ·simp only[k3,if_true,if_false] at h1;omega
  clear hf hs hsz
  have hsm:=G9 h0
  refine⟨⟨0,⟨Nat.zero_le _,by simp⟩,rfl,tt⟩,fun i hi=>⟨fun hlt=>?_,fun hge=>?_⟩⟩
  ·have hlt':i<a.nu.length:=by omega
   have hmem:a.nu.getD i 0∈a.nu:=by rw[List.getD_eq_getElem?_getD,List.getElem?_eq_getElem hlt'];exact List.getElem_mem hlt'
   have htk:a.nu.take (i+1)=a.nu.take i++[a.nu.getD i 0]:=by
    rw[List.take_add_one];simp[List.getD_eq_getElem?_getD,hlt']
   generalize a.nu.getD i 0=z at *
   refine⟨⟨fun k1=>⟨⟨by omega,hlt⟩,fun hn=>⟨by simp at hn;simp[E9,k1,hn],tt⟩,fun hn=>⟨fun k2=>by omega,fun k2=>⟨by simp at hn;simp[E9,k1,hn],tt⟩⟩⟩,fun k1=>⟨fun k2=>⟨⟨by omega,hlt⟩,by simp[E9,k2],tt⟩,fun k2=>⟨by simp[E9,k1,k2],tt⟩⟩⟩,fun hb=>?_,fun hb=>⟨i+1,⟨by omega,fun y hy=>?_⟩,by omega,Ba (by omega) (by omega),tt⟩⟩
   ·have:a.nu.any (E9 a.k)=true:=List.any_eq_true.2 ⟨z,hmem,hb⟩
    rw[if_neg (fun e=>e h0),if_pos this] at hA
    rw[hA]
    exact⟨rfl,rfl⟩
   ·rw[htk,List.mem_append] at hy
    rcases hy with hy | hy
    ·exact hi.2 y hy
    ·simp at hy;rw[hy];exact hb
  ·have hii:i=a.nu.length:=by omega
   rw[hii,List.take_length] at hi
   have hany:¬a.nu.any (E9 a.k)=true:=by
    rw[List.any_eq_true]
    rintro ⟨z,hz,hb⟩
    rw[hi.2 z hz] at hb
    cases hb
   rw[if_neg (fun e=>e h0),if_neg hany] at hA
   refine⟨⟨(0,0,(a.nu.length:Int)+a.it.length),⟨Nat.zero_le _,Int.le_refl _,by simp,by simp only;omega,by simp only;omega,by simp⟩,⟨rfl,rfl⟩,tt⟩,?_⟩
   rintro ⟨j,d,w⟩ ⟨b1,b2,b3,b4,b5,hch⟩
   simp only at b1 b2 b3 b4 b5 hch ⊢
   refine⟨fun hlt=>⟨⟨by omega,hlt⟩,?_⟩,fun hge=>?_⟩
   ·have hlt':j<a.it.length:=by omega
    have hbd:=Ej (a.it.getD j default)
    rw[Gi hlt',C7] at hch
    refine⟨a.it.getD j default,⟨rfl,⟨rfl,fun _ _=>rfl⟩,⟨rfl,fun _ _=>rfl⟩,rfl,fun _ _=>rfl⟩,Cg hlt',fun herr=>?_,fun hok=>?_⟩
    ·rw[if_pos herr] at hch
     rw[<- hch] at hA
     rw[hA]
     exact⟨rfl,rfl⟩
    ·have hok:(Bw (a.it.getD j default)).1=0:=by simpa using hok
     rw[if_neg (fun hne=>hne hok)] at hch
     have w1:IntKind.i64.wrap ((Bw (a.it.getD j default)).2.1+1)=(Bw (a.it.getD j default)).2.1+1:=Ba (by omega) (by omega)
     rw[w1]
     refine⟨(j+1,(if d<(Bw (a.it.getD j default)).2.1+1 then (Bw (a.it.getD j default)).2.1+1 else d),(if 262145<w+(Bw (a.it.getD j default)).2.2 then 262145 else w+(Bw (a.it.getD j default)).2.2)),⟨by simp only;omega,?_,?_,?_,?_,hch⟩,by simp only;omega,⟨Ba (by omega) (by omega),rfl⟩,tt⟩
     ·simp only;split<;>omega
     ·simp only;split<;>omega
     ·simp only;split<;>omega
     ·simp only;split<;>omega
   ·have hj:j=a.it.length:=by omega
    rw[hj,List.drop_length,C7] at hch
    have hw:=Bn3 h0 hch.symm fun x _ hx=>BjZ x hx
    rw[<- hch] at hA
    simp only at hA hw
    refine⟨fun hc=>?_,fun hc=>⟨a,⟨rfl,⟨rfl,fun _ _=>rfl⟩,⟨rfl,fun _ _=>rfl⟩,rfl,fun _ _=>rfl⟩,rfl,fun hq=>?_,fun hq=>?_⟩⟩
    ·rw[if_pos (.inl hc)] at hA
     rw[hA];exact⟨rfl,rfl⟩
    ·rw[if_pos (.inr (by omega))] at hA
     rw[hA];exact⟨rfl,rfl⟩
    ·rw[if_neg (by omega)] at hA
     rw[hA];exact⟨rfl,rfl⟩
theorem Bk2:∀(a:Arr),a.ok->ACalls Tryz.prog 124 ((sRc Arr.row2 (fun _=>True) UI).args a) ⟨[],[]⟩ (SpecR (sRc Arr.row2 (fun _=>True) UI) a)
 |.mk k s n is,h=>by
  have h':=h
  simp only[Arr.ok] at h'
  obtain ⟨_,_,_,h1,h2,h3,h4⟩:=h'
  refine Bnw (.mk k s n is) h ⟨h2,h3,h1⟩ fun b hb=>?_
  have hb':b∈is:=hb
  exact Bk2 b ((EY _).1 h4 b hb')
termination_by a=>SizeOf.sizeOf a
decreasing_by
 have:=List.sizeOf_lt_of_mem hb'
 simp;omega
theorem Bqg{k:Nat}{row:Arr->List D}{q q':Arr->Prop}{r:Arr->D}{b:Arr}(h:ACalls Tryz.prog k ((sRc row q r).args b) ⟨[],[]⟩ (SpecR (sRc row q r) b)):ACalls Tryz.prog k ((sRc row q' r).args b) ⟨[],[]⟩ (SpecR (sRc row q' r) b) :=
 h.mono fun _ _ ⟨y,h1,h2,h3⟩=>⟨y,h1,h2,h3⟩
def BjD(a:Arr):D:=.int .i64 (Bw a).1
def Bjw(a:Arr):Con:=fun k _ _=>match k with
 |124=>some (sRc Arr.row2 (fun b=>b=a) (fun b=>.tup [.int .i64 (Bw b).1,.int .i64 (Bw b).2.1]))
 |95=>some (sRc Arr.row1 (fun b=>b=a) (fun b=>.int .i64 (Bw b).1))
 |_=>none
theorem Bl8{a:Arr}(ha:a.ok):ConOk Tryz.prog (Bjw a):=by
 intro k ds S A h
 unfold Bjw at h
 split at h
 ·injection h with h;subst h
  refine ConOk.plain (fun b hb=>?_) rfl rfl
  have hb:b=a:=hb
  rw[hb]
  exact Bqg (r:=UI) (Bk2 a ha)
 ·injection h with h;subst h
  refine ConOk.plain (fun b hb=>?_) rfl rfl
  have hb:b=a:=hb
  rw[hb]
  exact (Bi2 a ha).mono fun _ _ ⟨y,h1,h2,h3⟩=>⟨(),trivial,h2,h3⟩
 ·cases h
noncomputable def Err(a:Arr):Senv:=EC (Bjw a) 11 5 [] (fun _=>([],[]))
noncomputable section
def QgT(a:Arr):Nat:=LN (Arr.sh a)
def Qox(a:Arr)(b:Nat):List D:=[ZI (GI (Arr.sh a) b)]
def QgU(a:Arr):Nat:=LN (Arr.nu a)
def Qoy(a:Arr)(b:Nat):List D:=[ZI (GI (Arr.nu a) b)]
def QgV(a:Arr):Nat:=LN (Arr.it a)
def Qoz:Arr:=DA
def QaA(a:Arr)(b:Nat):Arr:=List.getD (Arr.it a) b Qoz
def QNT(a:Arr)(b:Nat):List Int:=Arr.sh (QaA a b)
def QNU(a:Arr)(b:Nat):List Int:=Arr.nu (QaA a b)
def QoA(a:Arr)(b:Nat):List Arr:=Arr.it (QaA a b)
def QoB(a:Arr)(b:Nat):List D:=[ZI (Arr.k (QaA a b)),SI (QNT a b),SI (QNU a b),D.sl N4 (LN (QoA a b)) (fun i=>Arr.row (List.getD (QoA a b) i Qoz)) Mode.any]
end
theorem Bku(a:Arr)(ha:a.ok):ACalls Tryz.prog 107 ((sRc Arr.row2 (fun _=>True) BjD).args a) ⟨[],[]⟩ (SpecR (sRc Arr.row2 (fun _=>True) BjD) a):=by
 refine Bg (A:=sRc Arr.row2 (fun _=>True) BjD) (x:=a) (E:=Err a) (eOk (Bl8 ha) rfl) Tryz.func107 rfl (by kernel_rfl) rfl (by simp[sRc,Err,EC,E0]) ?_
 simp only[sRc,BjD]
 refine Bi (T :=
  ∀(x:Nat),True->SM x/\∃(x:Arr),((Arr.k a=Arr.k x/\(QgT a=QgT x/\(∀(i:Nat),i<QgT a->Qox a i=Qox x i)/\True)/\(QgU a=QgU x/\(∀(i:Nat),i<QgU a->Qoy a i=Qoy x i)/\True)/\(QgV a=QgV x/\(∀(i:Nat),i<QgV a->QoB a i=QoB x i)/\True)/\True)/\True)/\(True/\True)/\x=a/\∀(y:Unit),True->RT (Prod.fst (Bw x)=Prod.fst (Bw a))) (by kernel_rfl) ?_
 delta DA GI LN N1 N4 SI SM Z0 ZI QgT Qox QoB QgU Qoy QgV Qoz QaA QNT QNU QoA RT
 simp only[and_true,exists_const]
 intro x _
 exact⟨trivial,a,⟨rfl,⟨rfl,fun _ _=>rfl⟩,⟨rfl,fun _ _=>rfl⟩,rfl,fun _ _=>rfl⟩,trivial,rfl,fun _ _=>⟨trivial,trivial,rfl⟩⟩
set_option maxRecDepth 100000
theorem Bmn(n:Int)(h:Bt n):ACalls Tryz.prog 154 [.int .i64 n] ⟨[],[]⟩ (SpecR (sC [.int .i64 n] (.str (Lib.itoa n))) ()):=by
 refine ACalls.of_shelf_g ⟨_,Tryz.func154,by kernel_rfl,by kernel_rfl⟩ fun C args w ha hG hb=>?_
 obtain ⟨u,e,hu⟩:=EK ha
 have e2:args=[u].toArray:=by rw[<- e]
 subst e2
 simp only[Rep] at hu;subst hu
 have:=Tryz.strconv_Itoa n h.1 h.2 w (Bal hG.1 hb)
 exact this.mono fun e w' ⟨h1,k,os,h2⟩=>⟨⟨_,h1,by simp[Rep]⟩,by subst h2;exact Lib.below_grow _ _ (Nat.le_refl _) _ _⟩
def BdK:Con:=fun k ds S=>match k with
 |154=>match ds with
  | [.int .i64 n]=>some (pC [.int .i64 n] (.str (Lib.itoa n)) (Bt n))
  |_=>none
 |k=>Ul k ds S
theorem Wu:ConOk Tryz.prog BdK:=by
 intro k ds S A h
 unfold BdK at h
 split at h
 ·split at h
  ·injection h with h;subst h
   exact BW fun h1=>⟨Bk _,Bmn _ h1⟩
  ·cases h
 ·exact IQ _ _ _ _ h
theorem Wn{n:Int}(h:Bt n):1<=(Lib.itoa n).length/\(Lib.itoa n).length<=21:=by
 have k:∀u,u<18446744073709551616->1<=(Lib.decDigits u).length/\(Lib.decDigits u).length<=20:=fun u hu=>by
  rw[Lib.decDigits_length];exact⟨Lib.nDigits_pos u,Lib.nDigits_le20 u hu⟩
 unfold Bt at h
 unfold Lib.itoa
 split
 ·have:=k n.natAbs (by omega);simp only[List.length_cons];omega
 ·have:=k n.toNat (by omega);omega
theorem BaF:∀u,48<=((Lib.decDigits u).getD 0 0).toNat/\((Lib.decDigits u).getD 0 0).toNat<=57
 |u=>by
  rw[Lib.decDigits]
  by_cases hu:u<10
  ·rw[dif_pos hu,List.getD_cons_zero,UInt8.toNat_ofNat'];omega
  ·rw[dif_neg hu]
   have:=BaF (u / 10)
   have hl:1<=(Lib.decDigits (u / 10)).length:=by rw[Lib.decDigits_length];exact Lib.nDigits_pos _
   rw[List.getD_eq_getElem?_getD,List.getElem?_append_left (l₁:=Lib.decDigits (u / 10)) (i:=0) (by omega),<- List.getD_eq_getElem?_getD]
   exact this
termination_by u=>u
decreasing_by omega
theorem BhQ{n:Int}(_:Bt n)(e:(((Lib.itoa n).getD 0 0).toNat:Int)=45):n<0:=by
 unfold Lib.itoa at e
 split at e
 ·assumption
 ·have:=BaF n.toNat
  omega
def BA(n:Int):List UInt8:=if n<0 then 95::Lib.decDigits n.natAbs else Lib.decDigits n.toNat
noncomputable def Esh(_n:Int):Senv:=EC BdK 13 1 [2,3,8] (fun _=>([],[]))
noncomputable section
def QoC(a:Int):List UInt8:=List.drop N1 (List.take (TL (Lib.itoa a)) (Lib.itoa a))
end
theorem BmL(n:Int)(h:Bt n):ACalls Tryz.prog 135 [.int .i64 n] ⟨[],[]⟩ (SpecR (sC [.int .i64 n] (.str (BA n))) ()):=by
 refine Bg (A:=sC _ _) (x:=()) (E:=Esh n) (eOk Wu rfl) Tryz.func135 rfl (by kernel_rfl) rfl (by simp[sC,Esh,EC,E0]) ?_
 refine Bi (T :=
  Bt n/\∀(y:Unit),True->Bc (Z0<=Z0/\Z0<(LI (Lib.itoa n))) (ifB ((BI (Lib.itoa n) N0)==45) (Bc (Z0<=Z1/\Z1<=(LI (Lib.itoa n))/\(LI (Lib.itoa n))<=(LI (Lib.itoa n))) (Bc (N1+LN (QoC n)<=9223372036854775807) (RT ((95:UInt8)::List.append [] (QoC n)=BA n)))) (RT (Lib.itoa n=BA n)))) (by kernel_rfl) ?_
 delta BI LI LN N0 N1 TL U0 Z0 Z1 QoC RT
 refine⟨h,fun _ _=>?_⟩
 have hl:=Wn h
 rw[Bd]
 refine⟨by omega,?_⟩
 simp only[Bd,Bf,beq_iff_eq,beq_eq_false_iff_ne,Int.toNat_natCast,List.take_length,true_and,and_true,exists_const]
 refine⟨fun e=>⟨by omega,?_,?_⟩,fun e=>?_⟩
 ·rw[List.length_drop];omega
 ·have hn:n<0:=BhQ h (by omega)
  simp only[BA,Lib.itoa,if_pos hn];rfl
 ·have hn:¬n<0:=fun hn=>by
   have:((Lib.itoa n).getD 0 0).toNat=45:=by simp[Lib.itoa,if_pos hn]
   have e:¬(((Lib.itoa n).getD 0 0).toNat:Int)=45:=by simpa using e
   omega
  simp only[BA,Lib.itoa,if_neg hn]
theorem IT{n:Int}(h:Bt n):1<=(BA n).length/\(BA n).length<=21:=by
 have:=Wn h
 unfold BA;unfold Lib.itoa at this
 split<;>simp_all
theorem Bep(n:Int):n.tdiv 10=if n<0 then -((n.natAbs / 10:Nat):Int) else ((n.natAbs / 10:Nat):Int):=by
 cases n with
 |ofNat k=>rw[if_neg (by simp)];rfl
 |negSucc k=>rw[if_pos (Int.negSucc_lt_zero k)];rfl
theorem Bpb(n:Int):n.tmod 10=if n<0 then -((n.natAbs % 10:Nat):Int) else ((n.natAbs % 10:Nat):Int):=by
 cases n with
 |ofNat k=>rw[if_neg (by simp)];rfl
 |negSucc k=>rw[if_pos (Int.negSucc_lt_zero k)];rfl
theorem BfF:∀k,k<10->List.drop k (List.take (k+1) [48,49,50,51,52,53,54,55,56,57])=[UInt8.ofNat (48+k)]:=by decide
theorem WD{n:Int}(h:10<=n.natAbs):BA n=BA (n.tdiv 10)++[UInt8.ofNat (48+n.natAbs % 10)]:=by
 have e:∀u,10<=u->Lib.decDigits u=Lib.decDigits (u / 10)++[UInt8.ofNat (48+u % 10)]:=fun u hu=>by
  rw[Lib.decDigits,dif_neg (by omega)]
 unfold BA
 by_cases hn:n<0
 ·have h2:n.tdiv 10 = -((n.natAbs / 10:Nat):Int):=by rw[Bep,if_pos hn]
  have h1:n.tdiv 10<0:=by omega
  rw[if_pos hn,if_pos h1,e _ h,show (n.tdiv 10).natAbs=n.natAbs / 10 by omega];rfl
 ·have h2:n.tdiv 10=((n.natAbs / 10:Nat):Int):=by rw[Bep,if_neg hn]
  have h1:¬n.tdiv 10<0:=by omega
  rw[if_neg hn,if_neg h1,e n.toNat (by omega),show (n.tdiv 10).toNat=n.toNat / 10 by omega,show n.toNat=n.natAbs by omega]
def BjX(z:Nat):Con:=fun k ds _S=>match k with
 |171=>match ds with
  | [.int .i64 n]=>some (pC [.int .i64 n] (.str (BA n)) (Bt n/\n.natAbs<z))
  |_=>none
 |_k=>none
noncomputable def Ers(z:Nat):Senv:=EC (BjX z) 41 1 [2,3,4,10,23] (fun id=>match id with | 7=>([0,1,3,4,5,6,7,2,8,9],[2]) | _=>([],[]))
noncomputable section
def QgW(a:Int):Bool:=bif decide ((-10:Int)<a) then decide (a<Z0) else false
def QaB:List UInt8:=[(48:UInt8),(49:UInt8),(50:UInt8),(51:UInt8),(52:UInt8),(53:UInt8),(54:UInt8),(55:UInt8),(56:UInt8),(57:UInt8)]
def QoD(a:Int):List UInt8:=List.drop (Int.toNat (IntKind.wrap IntKind.i64 (Z0-a))) (List.take (Int.toNat (IntKind.wrap IntKind.i64 (Z1-a))) QaB)
def QaC(a:Int):List UInt8:=BA a
def QgX(a:Int):Bool:=bif decide (Z0<=a) then decide (a<10) else false
def QaD(a:Int):Int:=IntKind.wrap IntKind.i64 (Z0-Int.tmod a (10:Int))
def QgY(a:Int):Int:=IntKind.wrap IntKind.i64 (QaD a+Z1)
def QoE(a:Int):Prop:=Bt (IntKind.wrap IntKind.i64 (Int.tdiv a (10:Int)))/\Int.natAbs (IntKind.wrap IntKind.i64 (Int.tdiv a (10:Int)))<Int.natAbs a
def QgZ(a:Int):List UInt8:=BA (IntKind.wrap IntKind.i64 (Int.tdiv a (10:Int)))
def QoF(a:Int):Nat:=LN (QgZ a)
def QoG(a:Int):List UInt8:=List.drop (Int.toNat (QaD a)) (List.take (Int.toNat (QgY a)) QaB)
def Qg0(a:Int):Int:=IntKind.wrap IntKind.i64 (Int.tmod a (10:Int)+Z1)
def QoH(a:Int):List UInt8:=List.drop (Int.toNat (Int.tmod a (10:Int))) (List.take (Int.toNat (Qg0 a)) QaB)
end
theorem Bmw(n:Int)(h:Bt n)(hc:ConOk Tryz.prog (BjX n.natAbs)):ACalls Tryz.prog 171 [.int .i64 n] ⟨[],[]⟩ (SpecR (sC [.int .i64 n] (.str (BA n))) ()):=by
 refine Bg (A:=sC _ _) (x:=()) (E:=Ers n.natAbs) (eOk hc rfl) Tryz.func171 rfl (by kernel_rfl) rfl (by simp[sC,Ers,EC,E0]) ?_
 refine Bi (T :=
  ifB (decide ((-10:Int)<n)) (decide (n<Z0)=QgW n/\True) (false=QgW n/\True)/\ifB (QgW n) (Bc (Z0<=IntKind.wrap IntKind.i64 (Z0-n)/\IntKind.wrap IntKind.i64 (Z0-n)<=IntKind.wrap IntKind.i64 (Z1-n)/\IntKind.wrap IntKind.i64 (Z1-n)<=10) (Bc (N1+LN (QoD n)<=9223372036854775807) (RT ((95:UInt8)::List.append [] (QoD n)=QaC n)))) (ifB (decide (Z0<=n)) (decide (n<10)=QgX n/\True) (false=QgX n/\True)/\ifB (QgX n) (Bc (Z0<=n/\n<=IntKind.wrap IntKind.i64 (n+Z1)/\IntKind.wrap IntKind.i64 (n+Z1)<=10) (RT (List.drop (Int.toNat n) (List.take (Int.toNat (IntKind.wrap IntKind.i64 (n+Z1))) QaB)=QaC n))) (ifB (decide (Int.tmod n (10:Int)<Z0)) (True/\Bc (Z0<=QaD n/\QaD n<=QgY n/\QgY n<=10) (QoE n/\∀(y:Unit),True->Bc (QoF n+LN (QoG n)<=9223372036854775807) (RT (QgZ n++QoG n=QaC n)))) (True/\Bc (Z0<=Int.tmod n (10:Int)/\Int.tmod n (10:Int)<=Qg0 n/\Qg0 n<=10) (QoE n/\∀(y:Unit),True->Bc (QoF n+LN (QoH n)<=9223372036854775807) (RT (QgZ n++QoH n=QaC n))))))) (by kernel_rfl) ?_
 delta LN N1 Z0 Z1 QgW QoF QoG Qg0 QoH QaB QoD QaC QgX QaD QgY QoE QgZ RT
 have h':=h
 unfold Bt at h'
 have hd:=Bep n
 have ho:=Bpb n
 simp only[Bf,Bool.cond_false_right,Bool.and_eq_true,Bool.and_eq_false_iff,decide_eq_true_eq,decide_eq_false_iff_not,true_and,and_true,exists_const,forall_const]
 refine⟨⟨fun h=>by simp[h],fun h=>by simp[h]⟩,fun ⟨h1,h2⟩=>?_,fun h1=>⟨⟨fun h=>by simp[h],fun h=>by simp[h]⟩,fun ⟨h2,h3⟩=>?_,fun h2=>?_⟩⟩
 ·have e1:IntKind.i64.wrap (0-n)=(n.natAbs:Int):=by rw[Ba (by omega) (by omega)];omega
  have e2:IntKind.i64.wrap (1-n)=((n.natAbs+1:Nat):Int):=by rw[Ba (by omega) (by omega)];omega
  rw[e1,e2]
  rw[Bd]
  refine⟨by omega,?_⟩
  rw[Int.toNat_natCast,Int.toNat_natCast,BfF _ (by omega)]
  rw[Bd]
  refine⟨by simp,?_⟩
  unfold BA
  rw[if_pos h2,Lib.decDigits_one (by omega)];rfl
 ·have e2:IntKind.i64.wrap (n+1)=n+1:=Ba (by omega) (by omega)
  rw[e2]
  rw[Bd]
  refine⟨by omega,?_⟩
  rw[show (n+1).toNat=n.toNat+1 by omega,BfF _ (by omega)]
  unfold BA
  rw[if_neg (by omega),Lib.decDigits_one (by omega)]
 ·have hb:10<=n.natAbs:=by omega
  have e0:IntKind.i64.wrap (n.tdiv 10)=n.tdiv 10:=by
   refine Ba ?_ ?_<;>(rw[hd];split<;>omega)
  have i0:Bt (n.tdiv 10)/\(n.tdiv 10).natAbs<n.natAbs:=by
   unfold Bt;rw[hd];split<;>omega
  have hl:=(IT i0.1).2
  refine⟨fun h3=>?_,fun h3=>?_⟩
  ·have hn:n<0:=by
    by_cases hn:n<0
    ·exact hn
    ·rw[ho,if_neg hn] at h3;omega
   rw[if_pos hn] at ho
   have e1:IntKind.i64.wrap (0-n.tmod 10)=((n.natAbs % 10:Nat):Int):=by rw[Ba (by omega) (by omega)];omega
   have e2:IntKind.i64.wrap (((n.natAbs % 10:Nat):Int)+1)=((n.natAbs % 10+1:Nat):Int):=by rw[Ba (by omega) (by omega)];omega
   rw[e1,e2,e0]
   rw[Bd]
   refine⟨by omega,i0,?_⟩
   rw[Int.toNat_natCast,Int.toNat_natCast,BfF _ (by omega)]
   rw[Bd]
   exact⟨by simp only[List.length_cons,List.length_nil];omega,(WD hb).symm⟩
  ·have e1:n.tmod 10=((n.natAbs % 10:Nat):Int):=by
    rw[ho];split
    ·rename_i hn;rw[ho,if_pos hn] at h3;omega
    ·rfl
   have e2:IntKind.i64.wrap (((n.natAbs % 10:Nat):Int)+1)=((n.natAbs % 10+1:Nat):Int):=by rw[Ba (by omega) (by omega)];omega
   rw[e1,e2,e0]
   rw[Bd]
   refine⟨by omega,i0,?_⟩
   rw[Int.toNat_natCast,Int.toNat_natCast,BfF _ (by omega)]
   rw[Bd]
   exact⟨by simp only[List.length_cons,List.length_nil];omega,(WD hb).symm⟩
theorem Bn9:∀(z:Nat) (n:Int),Bt n->n.natAbs<z->ACalls Tryz.prog 171 [.int .i64 n] ⟨[],[]⟩ (SpecR (sC [.int .i64 n] (.str (BA n))) ())
 |0,_,_,hz=>absurd hz (by omega)
 |z+1,n,h,hz=>Bmw n h (by
  intro k ds S A hk
  unfold BjX at hk
  split at hk
  ·split at hk
   ·injection hk with hk;subst hk
    exact BW fun ⟨h1,h2⟩=>⟨Bk _,Bn9 z _ h1 (by omega)⟩
   ·cases hk
  ·cases hk)
theorem Bj1(n:Int)(h:Bt n):ACalls Tryz.prog 171 [.int .i64 n] ⟨[],[]⟩ (SpecR (sC [.int .i64 n] (.str (BA n))) ()):=Bn9 _ n h (Nat.lt_succ_self _)
def BfM:Con:=fun k ds S=>match k with
 |135=>match ds with
  | [.int .i64 n]=>some (pC [.int .i64 n] (.str (BA n)) (Bt n))
  |_=>none
 |171=>match ds with
  | [.int .i64 n]=>some (pC [.int .i64 n] (.str (BA n)) (Bt n))
  |_=>none
 |k=>BdK k ds S
theorem BdW:ConOk Tryz.prog BfM:=by
 intro k ds S A h
 unfold BfM at h
 split at h
 ·split at h
  ·injection h with h;subst h
   exact BW fun h1=>⟨Bk _,BmL _ h1⟩
  ·cases h
 ·split at h
  ·injection h with h;subst h
   exact BW fun h1=>⟨Bk _,Bj1 _ h1⟩
  ·cases h
 ·exact Wu _ _ _ _ h
theorem gTz : Tryz.prog.globalNamed "math/bits.deBruijn64tab" = some 3 := by kernel_rfl
theorem BmV(w:World)(hc:w.cell? ⟨3,(IntKind.u64.wrap (bits BinOp.and IntKind.u64 16 (IntKind.u64.wrap (-16))*285870213051353865) / 288230376151711744).toNat,none⟩=some (.int .u8 4)):Calls Tryz.prog 184 #[.int .u64 16] w fun e w'=>e=.returned (.int .i64 4)/\Go.RowKit.Below w.heap.size w w':=by
 go_enter Tryz.func184,Tryz.ntmps184
 go_wp2
 all_goals go_ret
 all_goals exact⟨rfl,Go.RowKit.Below.refl _ _⟩
theorem BqV:ACalls Tryz.prog 184 [.int .u64 16] ⟨[],[]⟩ (SpecR (sC [.int .u64 16] (.int .i64 4)) ()):=by
 refine ACalls.of_shelf_g ⟨_,Tryz.func184,by kernel_rfl,by kernel_rfl⟩ fun C args w ha hG hb=>?_
 obtain ⟨u,e,hu⟩:=EK ha
 have e2:args=[u].toArray:=by rw[<- e]
 subst e2
 simp only[Rep] at hu;subst hu
 have ht : Lib.TabIs Tryz.prog w "math/bits.deBruijn64tab" .u8 (Lib.deBruijn64tab.map Int.ofNat) := Bal hG.2.1 hb
 have hc:=ht.cell gTz 15 (by decide)
 exact (BmV w hc).mono fun e w' ⟨h1,h2⟩=>⟨⟨_,h1,by simp[Rep]⟩,h2⟩
def Bl6:Con:=fun k ds S=>match k with
 |184=>some (pC ds (.int .i64 4) (BD ds [.int .u64 16]))
 |k=>BdK k ds S
theorem Bkp:ConOk Tryz.prog Bl6:=by
 intro k ds S A h
 unfold Bl6 at h
 split at h
 ·injection h with h;subst h
  exact BW fun h1=>⟨Bk _,B9 h1 BqV⟩
 ·exact Wu _ _ _ _ h
def Ba0(k:Nat):UInt8:=[48,49,50,51,52,53,54,55,56,57,97,98,99,100,101,102].getD k 0
def Gw(n:Nat):List UInt8:=if n<16 then [Ba0 n] else [Ba0 (n / 16),Ba0 (n % 16)]
noncomputable def Ehb:Senv:={ EC Bl6 102 5 [10,11,12,13,14,15,16,17,18,28,30,34,46,68,89,94] (fun _=>([],[])) with unr:=fun b=>match b with | 0=>2 | _=>0 }
noncomputable section
def Qg1:List UInt8:=[(48:UInt8),(49:UInt8),(50:UInt8),(51:UInt8),(52:UInt8),(53:UInt8),(54:UInt8),(55:UInt8),(56:UInt8),(57:UInt8),(97:UInt8),(98:UInt8),(99:UInt8),(100:UInt8),(101:UInt8),(102:UInt8),(103:UInt8),(104:UInt8),(105:UInt8),(106:UInt8),(107:UInt8),(108:UInt8),(109:UInt8),(110:UInt8),(111:UInt8),(112:UInt8),(113:UInt8),(114:UInt8),(115:UInt8),(116:UInt8),(117:UInt8),(118:UInt8),(119:UInt8),(120:UInt8),(121:UInt8),(122:UInt8)]
def QoI(a:Int):Int:=(BI Qg1 (Int.toNat (Int.fdiv a (16:Int))))
def QoJ(a:Int):Int:=(BI Qg1 (Int.toNat (UF IntKind.u64 a (15:Int))))
def QoK(a:Int):List D:=[ZB (QoI a),ZB (QoJ a)]
def Qa:D:=ZB Z0
def QoL:Prop:=SM N0/\(∀(i:Nat),i<N0->Cw (List D) [] [])/\True
def QoM(a:Int):Int:=(BI Qg1 (Int.toNat a))
def QoN(a:Int):List D:=[ZB (QoM a)]
end
theorem BmM(n:Int)(h:0<=n/\n<128):ACalls Tryz.prog 177 [.sl 1 0 (fun _=>[]) .nil,.int .u64 n,.int .i64 16,.bool false,.bool false] ⟨[],[]⟩ (SpecR (sC [.sl 1 0 (fun _=>[]) .nil,.int .u64 n,.int .i64 16,.bool false,.bool false] (.tup [.sl 1 0 (fun _=>[]) .nil,.str (Gw n.toNat)])) ()):=by
 refine Bg (A:=sC _ _) (x:=()) (E:=Ehb) (eOk Bkp rfl) Tryz.func177 rfl (by kernel_rfl) rfl (by simp[sC,Ehb,EC,E0]) ?_
 refine Bi (T :=
  (SM false/\True)/\∀(x:Nat),True->True/\(SM (16:Int)/\True)/\∀(y:Unit),True->ifB (decide ((16:Int)<=n)) (Bc (Z0<=UF IntKind.u64 n (15:Int)/\UF IntKind.u64 n (15:Int)<36) (SM x/\ifB (decide ((16:Int)<=Int.fdiv n (16:Int))) (Bc (Z0<=UF IntKind.u64 (Int.fdiv n (16:Int)) (15:Int)/\UF IntKind.u64 (Int.fdiv n (16:Int)) (15:Int)<36) (SM x/\False)) (Bc (Z0<=Int.fdiv n (16:Int)/\Int.fdiv n (16:Int)<36) (SM x/\True/\SM x/\chk (List.all (QoK n) byteB&&decide (LN (List.take N2 (List.drop (63:Nat) (Qa::Qa::Qa::Qa::Qa::Qa::Qa::Qa::Qa::Qa::Qa::Qa::Qa::Qa::Qa::Qa::Qa::Qa::Qa::Qa::Qa::Qa::Qa::Qa::Qa::Qa::Qa::Qa::Qa::Qa::Qa::Qa::Qa::Qa::Qa::Qa::Qa::Qa::Qa::Qa::Qa::Qa::Qa::Qa::Qa::Qa::Qa::Qa::Qa::Qa::Qa::Qa::Qa::Qa::Qa::Qa::Qa::Qa::Qa::Qa::Qa::Qa::Qa::QoK n)))=N2)) (True/\∃(y:Unit),True/\(QoL/\[UInt8.ofNat (Int.toNat (QoI n)),UInt8.ofNat (Int.toNat (QoJ n))]=Gw (Int.toNat n)/\True)/\True/\True))))) (Bc (Z0<=n/\n<36) (SM x/\True/\SM x/\chk (List.all (QoN n) byteB&&decide (LN (List.take N1 (List.drop (64:Nat) (Qa::Qa::Qa::Qa::Qa::Qa::Qa::Qa::Qa::Qa::Qa::Qa::Qa::Qa::Qa::Qa::Qa::Qa::Qa::Qa::Qa::Qa::Qa::Qa::Qa::Qa::Qa::Qa::Qa::Qa::Qa::Qa::Qa::Qa::Qa::Qa::Qa::Qa::Qa::Qa::Qa::Qa::Qa::Qa::Qa::Qa::Qa::Qa::Qa::Qa::Qa::Qa::Qa::Qa::Qa::Qa::Qa::Qa::Qa::Qa::Qa::Qa::Qa::Qa::QoN n)))=N1)) (True/\∃(y:Unit),True/\(QoL/\[UInt8.ofNat (Int.toNat (QoM n))]=Gw (Int.toNat n)/\True)/\True/\True)))) (by kernel_rfl) ?_
 delta BI LN N0 N1 N2 SM U0 Z0 ZB Qg1 QoI QoJ QoK Qa QoL QoM QoN
 obtain ⟨m,rfl⟩:∃m:Nat,n=m:=⟨n.toNat,by omega⟩
 have hm:m<128:=by omega
 refine⟨⟨rfl,trivial⟩,fun x _=>⟨trivial,⟨rfl,trivial⟩,fun _ _=>?_⟩⟩
 simp only[Bf,Bd,Bb,true_and,and_true,exists_const,decide_eq_true_eq,decide_eq_false_iff_not,Bool.and_eq_true,Int.toNat_natCast,and_false,implies_true]
 have ha:UF .u64 (m:Int) 15=((m % 16:Nat):Int):=by
  have h1:UF .u64 (m:Int) ((15:Nat):Int)=((m &&& 15:Nat):Int):=Bkm rfl (by simp only[IntKind.bits];omega) (by simp only[IntKind.bits];omega)
  rw[show ((15:Nat):Int)=15 from rfl] at h1
  rw[h1,show (15:Nat)=2 ^ 4-1 from rfl,Nat.and_two_pow_sub_one_eq_mod]
 have hf:(m:Int).fdiv 16=((m / 16:Nat):Int):=BiS m 16
 have hd:∀k,k<16->([48,49,50,51,52,53,54,55,56,57,97,98,99,100,101,102,103,104,105,106,107,108,109,110,111,112,113,114,115,116,117,118,119,120,121,122]:List UInt8).getD k 0=Ba0 k:=by decide
 have hb:∀b:UInt8,byteB (.int .u8 (b.toNat:Int))=true:=fun b=>by
  have:=b.toNat_lt
  simp only[byteB,Bool.and_eq_true,decide_eq_true_eq];omega
 simp only[ha,hf,Int.toNat_natCast]
 refine⟨fun h16=>⟨by omega,by omega,fun _=>⟨by omega,⟨?_,rfl⟩,?_⟩⟩,fun h16=>⟨by omega,⟨?_,rfl⟩,?_⟩⟩
 ·rw[hd _ (by omega),hd _ (by omega)];simp only[List.all_cons,List.all_nil,hb];rfl
 ·rw[hd _ (by omega),hd _ (by omega)];simp only[UInt8.ofNat_toNat];unfold Gw;rw[if_neg (by omega)]
 ·rw[hd _ (by omega)];simp only[List.all_cons,List.all_nil,hb];rfl
 ·rw[hd _ (by omega)];simp only[UInt8.ofNat_toNat];unfold Gw;rw[if_pos (by omega)]
def BlO:Con:=fun k ds S=>match k with
 |177=>match ds with
  | [_,.int .u64 n,_,_,_]=>some (pC ds (.tup [.sl 1 0 (fun _=>[]) .nil,.str (Gw n.toNat)]) (BD ds [.sl 1 0 (fun _=>[]) .nil,.int .u64 n,.int .i64 16,.bool false,.bool false]/\0<=n/\n<128))
  |_=>none
 |k=>BfM k ds S
theorem BkO:ConOk Tryz.prog BlO:=by
 intro k ds S A h
 unfold BlO at h
 split at h
 ·split at h
  ·injection h with h;subst h
   exact BW fun h1=>⟨Bk _,B9 h1.1 (BmM _ h1.2)⟩
  ·cases h
 ·exact BdW _ _ _ _ h
noncomputable def Ehx:Senv:=EC BlO 8 2 [4] (fun _=>([],[]))
theorem Bpd(n:Int)(h:0<=n/\n<128):ACalls Tryz.prog 162 [.int .i64 n,.int .i64 16] ⟨[],[]⟩ (SpecR (sC [.int .i64 n,.int .i64 16] (.str (Gw n.toNat))) ()):=by
 refine Bg (A:=sC _ _) (x:=()) (E:=Ehx) (eOk BkO rfl) Tryz.func162 rfl (by kernel_rfl) rfl (by simp[sC,Ehx,EC,E0]) ?_
 refine Bi (T :=
  (((SM N0/\(∀(i:Nat),i<N0->Cw (List D) [] [])/\True)/\SM (IntKind.wrap IntKind.u64 n)/\SM (16:Int)/\decide (n<Z0)=false/\SM false/\True)/\Z0<=IntKind.wrap IntKind.u64 n/\IntKind.wrap IntKind.u64 n<128)/\∀(y:Unit),True->True/\RT (Gw (Int.toNat (IntKind.wrap IntKind.u64 n))=Gw (Int.toNat n))) (by kernel_rfl) ?_
 delta N0 SM Z0 RT
 have e:IntKind.u64.wrap n=n:=by rw[IntKind.wrap_u64];omega
 have e1:decide (n<0)=false:=by simp;omega
 simp only[e,e1]
 simpa using h
def Rl(P:Program)(TS:List Nat)(t:Nat):Bool :=
 match P.underlying t with
 |some (.slice e)=>TS.contains e&&decide (P.bytesOf e<=4096)
 |some (.struct fs)=>fs.toList.all fun f=>TS.contains f.type
 |some (.pointer e)=>TS.contains e
 |some (.array _ e)=>TS.contains e
 |some (.map k e)=>TS.contains e&&decide (P.bytesOf k+P.bytesOf e<=4096)
 |_=>true
theorem BcY{H:Type}(d:DataW H):1<=Rows.uptoBulk d:=by
 cases d with
 |lit l=>cases l<;>simp[Rows.uptoBulk]
 |nil=>simp[Rows.uptoBulk]
 |ptr d=>simp[Rows.uptoBulk]
 |slice elems spare=>simp[Rows.uptoBulk]
 |agg parts=>simp[Rows.uptoBulk]
 |iface t d=>simp[Rows.uptoBulk]
 |map entries=>simp[Rows.uptoBulk]
 |held h=>simp[Rows.uptoBulk]
theorem U5{H:Type}:∀l:List (DataW H),l.length<=Rows.uptoBulkAll l
 | []=>by simp[Rows.uptoBulkAll]
 |x::r=>by
  have:=BcY x
  have:=U5 r
  simp only[Rows.uptoBulkAll,List.length_cons]
  omega
theorem Bc8{H:Type}:∀l:List (Go.Lit×DataW H),l.length<=Rows.uptoBulkEntries l
 | []=>by simp[Rows.uptoBulkEntries]
 |(k,d)::r=>by
  have:=BcY d
  have:=Bc8 r
  have h:1<=Rows.uptoBulkEntry (k,d):=by cases k<;>simp[Rows.uptoBulkEntry]
  simp only[Rows.uptoBulkEntries,List.length_cons]
  omega
theorem Bb9{a b c:Nat}(h1:a<=c)(h2:b<=4096):a*b<=8192*c:=by
 calc a*b<=c*4096:=Nat.mul_le_mul h1 h2
  _<=8192*c:=by omega
mutual
theorem BlX{P:Program}{TS:List Nat}(hT:∀t∈TS,Rl P TS t=true){H:Type}:∀(d:DataW H) (t:Nat),t∈TS->∀x∈d.weights P t,x<=8192*Rows.uptoBulk d
 |.lit l,t,_,x,hx=>by
  cases l with
  |string bytes =>
   simp only[DataW.weights,List.mem_singleton] at hx
   simp only[Rows.uptoBulk]
   omega
  |_=>simp[DataW.weights] at hx
 |.nil,t,_,x,hx=>by simp[DataW.weights] at hx
 |.ptr d,t,ht,x,hx=>by
  have ho:=hT t ht
  simp only[DataW.weights] at hx
  unfold Rl at ho
  split at hx
  ·rename_i e hu
   rw[hu] at ho
   have:=BlX hT d e (by simpa using ho) x hx
   simp only[Rows.uptoBulk]
   omega
  ·simp at hx
 |.slice elems spare,t,ht,x,hx=>by
  have ho:=hT t ht
  simp only[DataW.weights] at hx
  unfold Rl at ho
  split at hx
  ·rename_i e hu
   rw[hu] at ho
   simp only[Bool.and_eq_true,decide_eq_true_eq] at ho
   have he:e∈TS:=by simpa using ho.1
   simp only[Rows.uptoBulk]
   rcases List.mem_cons.1 hx with rfl | hx
   ·exact Nat.le_trans (Bb9 (Nat.add_le_add (U5 elems) (U5 spare)) ho.2) (by omega)
   ·rcases List.mem_append.1 hx with hx | hx
    ·have:=UN hT elems e he x hx
     omega
    ·have:=UN hT spare e he x hx
     omega
  ·simp at hx
 |.agg parts,t,ht,x,hx=>by
  have ho:=hT t ht
  simp only[DataW.weights] at hx
  unfold Rl at ho
  split at hx
  ·rename_i fs hu
   rw[hu] at ho
   have:=Ws hT (fs.toList.map (·.type)) parts (fun t h=>by
    obtain ⟨f,hf,rfl⟩:=List.mem_map.1 h
    simpa using List.all_eq_true.1 ho f hf) x hx
   simp only[Rows.uptoBulk]
   omega
  ·rename_i e hu
   rw[hu] at ho
   have:=UN hT parts e (by simpa using ho) x hx
   simp only[Rows.uptoBulk]
   omega
  ·simp at hx
 |.iface _ _,t,_,x,hx=>by simp[DataW.weights] at hx
 |.map entries,t,ht,x,hx=>by
  have ho:=hT t ht
  simp only[DataW.weights] at hx
  unfold Rl at ho
  split at hx
  ·rename_i k e hu
   rw[hu] at ho
   simp only[Bool.and_eq_true,decide_eq_true_eq] at ho
   simp only[Rows.uptoBulk]
   rcases List.mem_cons.1 hx with rfl | hx
   ·exact Nat.le_trans (Bb9 (Bc8 entries) ho.2) (by omega)
   ·have:=Bgl hT entries e (by simpa using ho.1) x hx
    omega
  ·simp at hx
 |.held _,t,_,x,hx=>by simp[DataW.weights] at hx
theorem UN{P:Program}{TS:List Nat}(hT:∀t∈TS,Rl P TS t=true){H:Type}:∀(l:List (DataW H)) (e:Nat),e∈TS->∀x∈DataW.weightsAll P e l,x<=8192*Rows.uptoBulkAll l
 | [],e,_,x,hx=>by simp[DataW.weightsAll] at hx
 |d::r,e,he,x,hx=>by
  simp only[DataW.weightsAll] at hx
  simp only[Rows.uptoBulkAll]
  rcases List.mem_append.1 hx with hx | hx
  ·have:=BlX hT d e he x hx;omega
  ·have:=UN hT r e he x hx;omega
theorem Ws{P:Program}{TS:List Nat}(hT:∀t∈TS,Rl P TS t=true){H:Type}:∀(ts:List Nat) (l:List (DataW H)),(∀t∈ts,t∈TS)->∀x∈DataW.weightsEach P ts l,x<=8192*Rows.uptoBulkAll l
 | [],l,_,x,hx=>by simp[DataW.weightsEach] at hx
 |t::ts,[],_,x,hx=>by simp[DataW.weightsEach] at hx
 |t::ts,d::r,ht,x,hx=>by
  simp only[DataW.weightsEach] at hx
  simp only[Rows.uptoBulkAll]
  rcases List.mem_append.1 hx with hx | hx
  ·have:=BlX hT d t (ht t (by simp)) x hx;omega
  ·have:=Ws hT ts r (fun u hu=>ht u (by simp[hu])) x hx;omega
theorem Bgl{P:Program}{TS:List Nat}(hT:∀t∈TS,Rl P TS t=true){H:Type}:∀(l:List (Go.Lit×DataW H)) (e:Nat),e∈TS->∀x∈DataW.weightsEntries P e l,x<=8192*Rows.uptoBulkEntries l
 | [],e,_,x,hx=>by simp[DataW.weightsEntries] at hx
 |(k,d)::r,e,he,x,hx=>by
  simp only[DataW.weightsEntries] at hx
  simp only[Rows.uptoBulkEntries]
  rcases List.mem_append.1 hx with hx | hx
  ·cases k with
   |string bytes =>
    simp only[DataW.weightsEntry] at hx
    simp only[Rows.uptoBulkEntry]
    rcases List.mem_cons.1 hx with rfl | hx
    ·omega
    ·have:=BlX hT d e he x hx;omega
   |_ =>
    simp only[DataW.weightsEntry] at hx
    simp only[Rows.uptoBulkEntry]
    have:=BlX hT d e he x hx;omega
  ·have:=Bgl hT r e he x hx;omega
end
theorem BgE{P:Program}{TS:List Nat}(hT:∀t∈TS,Rl P TS t=true){H:Type}{ts:List Nat}(hts:∀t∈ts,t∈TS){ds:List (DataW H)}(hk:Rows.uptoSmall H ds=true):(DataW.weightsEach P ts ds).all (·<=BC)=true:=by
 have hb:Rows.uptoBulkAll ds<=1048576:=of_decide_eq_true hk
 refine List.all_eq_true.2 fun x hx=>?_
 have:=Ws hT ts ds hts x hx
 unfold BC
 simp only[decide_eq_true_eq]
 omega
mutual
inductive Nd where
 |mk (kd at_ cl:Int) (tx:List UInt8) (pr op:Int) (va:Arr) (ki:List Nd) (bo:List Sm) (de sl ss:Int)
inductive Sm where
 |mk (kd at_:Int) (nm:List UInt8) (sl:Int) (te nd:Nd)
end
def Nd.kd:Nd->Int | .mk x _ _ _ _ _ _ _ _ _ _ _=>x
def Nd.at_:Nd->Int | .mk _ x _ _ _ _ _ _ _ _ _ _=>x
def Nd.cl:Nd->Int | .mk _ _ x _ _ _ _ _ _ _ _ _=>x
def Nd.tx:Nd->List UInt8 | .mk _ _ _ x _ _ _ _ _ _ _ _=>x
def Nd.pr:Nd->Int | .mk _ _ _ _ x _ _ _ _ _ _ _=>x
def Nd.op:Nd->Int | .mk _ _ _ _ _ x _ _ _ _ _ _=>x
def Nd.va:Nd->Arr | .mk _ _ _ _ _ _ x _ _ _ _ _=>x
def Nd.ki:Nd->List Nd | .mk _ _ _ _ _ _ _ x _ _ _ _=>x
def Nd.bo:Nd->List Sm | .mk _ _ _ _ _ _ _ _ x _ _ _=>x
def Nd.de:Nd->Int | .mk _ _ _ _ _ _ _ _ _ x _ _=>x
def Nd.sl:Nd->Int | .mk _ _ _ _ _ _ _ _ _ _ x _=>x
def Nd.ss:Nd->Int | .mk _ _ _ _ _ _ _ _ _ _ _ x=>x
def Sm.kd:Sm->Int | .mk x _ _ _ _ _=>x
def Sm.at_:Sm->Int | .mk _ x _ _ _ _=>x
def Sm.nm:Sm->List UInt8 | .mk _ _ x _ _ _=>x
def Sm.sl:Sm->Int | .mk _ _ _ x _ _=>x
def Sm.te:Sm->Nd | .mk _ _ _ _ x _=>x
def Sm.nd:Sm->Nd | .mk _ _ _ _ _ x=>x
def nd0:Nd:=.mk 0 0 0 [] 0 0 (.mk 0 [] [] []) [] [] 0 0 0
instance:Inhabited Nd:=⟨nd0⟩
instance:Inhabited Sm:=⟨.mk 0 0 [] 0 nd0 nd0⟩
def lsl(w:Nat)(l:List (List D)):D:=.sl w l.length (fun i=>l.getD i []) .any
mutual
def Nd.row:Nd->List D
 |.mk kd at_ cl tx pr op va ki bo de sl ss=>[.int .i64 kd,.int .i64 at_,.int .i64 cl,.str tx,.int .i64 pr,.int .i64 op,.int .i64 va.k,isl va.sh .any,isl va.nu .any,gsl 4 Arr.row va.it,lsl 15 (Mm ki),lsl 34 (Ee bo),.int .i64 de,.int .i64 sl,.int .i64 ss]
def Sm.row:Sm->List D
 |.mk kd at_ nm sl te nd=>.int .i64 kd::.int .i64 at_::.str nm::.int .i64 sl::(te.row++nd.row)
def Mm:List Nd->List (List D)
 | []=>[]
 |x::r=>x.row::Mm r
def Ee:List Sm->List (List D)
 | []=>[]
 |x::r=>x.row::Ee r
end
mutual
def Nd.ok:Nd->Prop
 |.mk kd at_ cl _ pr op va ki bo de sl ss=>(Bt kd/\Bt at_/\Bt cl/\Bt pr/\Bt op/\Bt de/\Bt sl/\Bt ss)/\va.ok/\Ux ki/\Up bo
def Sm.ok:Sm->Prop
 |.mk kd at_ _ sl te nd=>(Bt kd/\Bt at_/\Bt sl)/\te.ok/\nd.ok
def Ux:List Nd->Prop
 | []=>True
 |x::r=>x.ok/\Ux r
def Up:List Sm->Prop
 | []=>True
 |x::r=>x.ok/\Up r
end
mutual
/-- Nothing in it is longer than a machine's memory. -/
def Nd.sm:Nd->Prop
 |.mk _ _ _ tx _ _ va ki bo _ _ _=>(tx.length<=BC/\ki.length<=BC/\bo.length<=BC)/\va.sm/\ON ki/\OW bo
def Sm.sm:Sm->Prop
 |.mk _ _ nm _ te nd=>nm.length<=BC/\te.sm/\nd.sm
def ON:List Nd->Prop
 | []=>True
 |x::r=>x.sm/\ON r
def OW:List Sm->Prop
 | []=>True
 |x::r=>x.sm/\OW r
end
theorem Ia:∀(l:List Nd),Mm l=l.map Nd.row
 | []=>by simp only[Mm,List.map_nil]
 |a::l=>by simp only[Mm,List.map_cons,Ia l]
theorem Ec:∀(l:List Sm),Ee l=l.map Sm.row
 | []=>by simp only[Ee,List.map_nil]
 |a::l=>by simp only[Ee,List.map_cons,Ec l]
theorem TV:∀(l:List Nd),Ux l↔∀a∈l,a.ok
 | []=>by simp[Ux]
 |a::l=>by simp only[Ux,List.forall_mem_cons,TV l]
theorem TG:∀(l:List Sm),Up l↔∀a∈l,a.ok
 | []=>by simp[Up]
 |a::l=>by simp only[Up,List.forall_mem_cons,TG l]
theorem TH:∀(l:List Nd),ON l↔∀a∈l,a.sm
 | []=>by simp[ON]
 |a::l=>by simp only[ON,List.forall_mem_cons,TH l]
theorem MJ:∀(l:List Sm),OW l↔∀a∈l,a.sm
 | []=>by simp[OW]
 |a::l=>by simp only[OW,List.forall_mem_cons,MJ l]
def Nd.rowE(n:Nd):List D:=[.int .i64 n.kd,.int .i64 n.at_,.int .i64 n.cl,.str n.tx,.int .i64 n.pr,.int .i64 n.op,.int .i64 n.va.k,isl n.va.sh .any,isl n.va.nu .any,gsl 4 Arr.row n.va.it,gsl 15 Nd.row n.ki,gsl 34 Sm.row n.bo,.int .i64 n.de,.int .i64 n.sl,.int .i64 n.ss]
def Nd.row1(n:Nd):List D:=n.rowE
def Sm.row1(s:Sm):List D:=.int .i64 s.kd::.int .i64 s.at_::.str s.nm::.int .i64 s.sl::(s.te.rowE++s.nd.rowE)
def Nd.row2(n:Nd):List D:=[.int .i64 n.kd,.int .i64 n.at_,.int .i64 n.cl,.str n.tx,.int .i64 n.pr,.int .i64 n.op,.int .i64 n.va.k,isl n.va.sh .any,isl n.va.nu .any,gsl 4 Arr.row n.va.it,gsl 15 Nd.row1 n.ki,gsl 34 Sm.row1 n.bo,.int .i64 n.de,.int .i64 n.sl,.int .i64 n.ss]
def Sm.row2(s:Sm):List D:=.int .i64 s.kd::.int .i64 s.at_::.str s.nm::.int .i64 s.sl::(s.te.row2++s.nd.row2)
theorem OF:∀ {a a' b b':List D},wkL a a'->wkL b b'->wkL (a++b) (a'++b')
 | [],[],_,_,_,h=>h
 | [],_::_,_,_,h,_=>by simp[wkL] at h
 |_::_,[],_,_,h,_=>by simp[wkL] at h
 |x::a,y::a',b,b',h,h2=>by
  simp only[wkL,List.cons_append] at h ⊢
  exact⟨h.1,OF h.2 h2⟩
theorem Be6{α:Type}[Inhabited α]{w:Nat}{g:α->List D}{l:List α}:wkD (lsl w (l.map g)) (gsl w g l):=by
 simp only[lsl,gsl,wkD,Bb]
 refine⟨by simp,by simp,fun i hi=>?_,by simp[BG]⟩
 have hi:i<l.length:=by simpa using hi
 have:(l.map g).getD i []=g (l.getD i default):=by simp[List.getD_eq_getElem?_getD,hi]
 rw[this]
 exact Be _
theorem U2{α:Type}[Inhabited α]{w:Nat}{g g':α->List D}{l:List α}(h:∀x,wkL (g x) (g' x)):wkD (gsl w g l) (gsl w g' l):=by
 simp only[gsl,wkD,Bb]
 exact⟨by simp,trivial,fun i _=>h _,by simp[BG]⟩
theorem Bl7(n:Nd):wkL n.row n.row1:=by
 cases n with
 |mk kd at_ cl tx pr op va ki bo de sl ss =>
  simp only[Nd.row,Nd.row1,Nd.rowE,Nd.kd,Nd.at_,Nd.cl,Nd.tx,Nd.pr,Nd.op,Nd.va,Nd.ki,Nd.bo,Nd.de,Nd.sl,Nd.ss,wkL,Ia,Ec]
  exact⟨Bh _,Bh _,Bh _,Bh _,Bh _,Bh _,Bh _,Bh _,Bh _,Bh _,Be6,Be6,Bh _,Bh _,Bh _,trivial⟩
theorem Boh(s:Sm):wkL s.row s.row1:=by
 cases s with
 |mk kd at_ nm sl te nd =>
  simp only[Sm.row,Sm.row1,Sm.kd,Sm.at_,Sm.nm,Sm.sl,Sm.te,Sm.nd,wkL]
  exact⟨Bh _,Bh _,Bh _,Bh _,OF (Bl7 _) (Bl7 _)⟩
theorem Mq(n:Nd):wkL n.row1 n.row2:=by
 simp only[Nd.row1,Nd.rowE,Nd.row2,wkL]
 exact⟨Bh _,Bh _,Bh _,Bh _,Bh _,Bh _,Bh _,Bh _,Bh _,Bh _,U2 Bl7,U2 Boh,Bh _,Bh _,Bh _,trivial⟩
theorem dn:(default:Nd)=Nd.mk 0 0 0 [] 0 0 (Arr.mk 0 [] [] []) [] [] 0 0 0:=of_eq_true (eq_true rfl)
theorem dm:(default:Sm)=Sm.mk 0 0 [] 0 (Nd.mk 0 0 0 [] 0 0 (Arr.mk 0 [] [] []) [] [] 0 0 0) (Nd.mk 0 0 0 [] 0 0 (Arr.mk 0 [] [] []) [] [] 0 0 0):=of_eq_true (eq_true rfl)
def RNd:List D->Prop:=fun ds=>∃n:Nd,(n.ok/\n.sm)/\ds=n.row
def RSm:List D->Prop:=fun ds=>∃s:Sm,(s.ok/\s.sm)/\ds=s.row
theorem BfR(W:World)(m:Nat)(hn:∀k,k<m->ReadAt Tryz.prog W k 40 RNd):ReadAt Tryz.prog W m 44 RSm:=by
 cases m with
 |zero=>exact .zero _ _
 |succ k =>
  refine (Io Tryz.underlying44 (by kernel_rfl) (Rs:=[RInt .i64,RInt .i64,RStr,RInt .i64,RNd,RNd]) ⟨IR (by kernel_rfl) W k,IR (by kernel_rfl) W k,Uq (by kernel_rfl) W k,IR (by kernel_rfl) W k,hn k (Nat.lt_succ_self k),hn k (Nat.lt_succ_self k),trivial⟩).mono ?_
  rintro ds ⟨_,_,h1,⟨_,_,h2,⟨_,_,h3,⟨_,_,h4,⟨_,_,h5,⟨_,_,h6,h7,rfl⟩,rfl⟩,rfl⟩,rfl⟩,rfl⟩,rfl⟩
  obtain rfl:_=[]:=h7
  obtain ⟨kd,kd1,rfl⟩:=Eo _ h1
  obtain ⟨at_,at1,rfl⟩:=Eo _ h2
  obtain ⟨nm,rfl,nm1⟩:=h3
  obtain ⟨sl,sl1,rfl⟩:=Eo _ h4
  obtain ⟨te,⟨te1,te2⟩,rfl⟩:=h5
  obtain ⟨nd,⟨nd1,nd2⟩,rfl⟩:=h6
  refine⟨.mk kd at_ nm sl te nd,⟨?_,?_⟩,?_⟩
  ·simp only[Sm.ok]
   exact⟨⟨kd1,at1,sl1⟩,te1,nd1⟩
  ·simp only[Sm.sm]
   exact⟨nm1,te2,nd2⟩
  ·simp only[Sm.row,List.cons_append,List.nil_append,List.append_nil]
theorem Bnx(W:World):∀n,ReadAt Tryz.prog W n 40 RNd:=by
 intro n
 induction n using Nat.strongRecOn with
 |_ n ih =>
  cases n with
  |zero=>exact .zero _ _
  |succ m =>
   have hk:ReadAt Tryz.prog W m 38 (RSliceA 15 RNd):=by
    cases m with
    |zero=>exact .zero _ _
    |succ k=>exact GD (w:=15) Tryz.underlying38 (by kernel_rfl) (by decide) (by decide +kernel) (ih k (by omega))
   have hb:ReadAt Tryz.prog W m 22 (RSliceA 34 RSm):=by
    cases m with
    |zero=>exact .zero _ _
    |succ k=>exact GD (w:=34) Tryz.underlying22 (by kernel_rfl) (by decide) (by decide +kernel) (BfR W k fun j hj=>ih j (by omega))
   have ri:∀t,Tryz.prog.underlying t=some (.int .i64)->ReadAt Tryz.prog W m t (RInt .i64):=fun t ht=>IR ht W m
   refine (Io Tryz.underlying40 (by kernel_rfl) (Rs:=[RInt .i64,RInt .i64,RInt .i64,RStr,RInt .i64,RInt .i64,RArr,RSliceA 15 RNd,RSliceA 34 RSm,RInt .i64,RInt .i64,RInt .i64])
    ⟨ri _ (by kernel_rfl),ri _ (by kernel_rfl),ri _ (by kernel_rfl),Uq (by kernel_rfl) W m,ri _ (by kernel_rfl),ri _ (by kernel_rfl),BcT W m,hk,hb,ri _ (by kernel_rfl),ri _ (by kernel_rfl),ri _ (by kernel_rfl),trivial⟩).weak ?_
   rintro _ ds vs ⟨_,_,h1,⟨_,_,h2,⟨_,_,h3,⟨_,_,h4,⟨_,_,h5,⟨_,_,h6,⟨_,_,h7,⟨_,_,h8,⟨_,_,h9,⟨_,_,h10,⟨_,_,h11,⟨_,_,h12,h13,rfl⟩,rfl⟩,rfl⟩,rfl⟩,rfl⟩,rfl⟩,rfl⟩,rfl⟩,rfl⟩,rfl⟩,rfl⟩,rfl⟩ hr
   obtain rfl:_=[]:=h13
   obtain ⟨kd,kd1,rfl⟩:=Eo _ h1
   obtain ⟨at_,at1,rfl⟩:=Eo _ h2
   obtain ⟨cl,cl1,rfl⟩:=Eo _ h3
   obtain ⟨tx,rfl,tx1⟩:=h4
   obtain ⟨pr,pr1,rfl⟩:=Eo _ h5
   obtain ⟨op,op1,rfl⟩:=Eo _ h6
   obtain ⟨va,⟨va1,va2⟩,rfl⟩:=h7
   obtain ⟨l,l1,l2,rfl⟩:=h8
   obtain ⟨b,b1,b2,rfl⟩:=h9
   obtain ⟨de,de1,rfl⟩:=Eo _ h10
   obtain ⟨sl,sl1,rfl⟩:=Eo _ h11
   obtain ⟨ss,ss1,rfl⟩:=Eo _ h12
   obtain ⟨ki,qk,rfl⟩:=C5 (g:=Nd.row) (Q:=fun a=>a.ok/\a.sm) (fun x hx=>hx) l l1
   obtain ⟨bo,qb,rfl⟩:=C5 (g:=Sm.row) (Q:=fun a=>a.ok/\a.sm) (fun x hx=>hx) b b1
   have l2:ki.length<=BC:=by simpa using l2
   have b2:bo.length<=BC:=by simpa using b2
   refine⟨(Nd.mk kd at_ cl tx pr op va ki bo de sl ss).row,⟨_,⟨?_,?_⟩,rfl⟩,OD _ _ ?_ _ _ hr⟩
   ·simp only[Nd.ok]
    exact⟨⟨kd1,at1,cl1,pr1,op1,de1,sl1,ss1⟩,va1,(TV _).2 fun a ha=>(qk a ha).1,(TG _).2 fun a ha=>(qb a ha).1⟩
   ·simp only[Nd.sm]
    exact⟨⟨tx1,l2,b2⟩,va2,(TH _).2 fun a ha=>(qk a ha).2,(MJ _).2 fun a ha=>(qb a ha).2⟩
   ·simp only[Nd.row,Ia,Ec,List.cons_append,List.nil_append,List.append_nil,wkL]
    refine⟨Bh _,Bh _,Bh _,Bh _,Bh _,Bh _,?_⟩
    have h:=OF (BjP va) (Be (lsl 15 (ki.map Nd.row)::lsl 34 (bo.map Sm.row)::[D.int .i64 de,D.int .i64 sl,D.int .i64 ss]))
    simp only[Arr.row1,List.cons_append,List.nil_append] at h
    exact h
def dig(b:UInt8):Bool:=decide (48<=b.toNat)&&decide (b.toNat<=57)
def low(b:UInt8):Bool:=decide (97<=b.toNat)&&decide (b.toNat<=122)
def asc(s:String):List UInt8:=s.toUTF8.data.toList
def resL : List (List UInt8) := ["X", "Y", "F", "G", "self", "arg", "min", "max", "and", "or", "not", "shape", "reshape", "tally", "depth", "stack", "iota", "take", "drop", "first", "reverse", "rotate", "transpose", "from", "pick", "select", "amend", "up", "down", "sort", "find", "in", "unique", "where", "copy", "expand", "cut", "encode", "decode", "box", "open", "same", "kind", "ord", "chr", "format", "left", "right", "each", "swap", "outer", "inner", "rank", "power", "stencil", "atop", "over"].map asc
def sgnL : List (List UInt8) := ["+", "-", "*", "%", "|", "^", "<", "<=", "=", "~=", ">=", ">", ",", "/", "\\"].map asc
def RP(s:List UInt8):Bool:=resL.contains s||sgnL.contains s
structure Tok where
 kind:Int
 at_:Int
 len:Int
 num:Int
 text:List UInt8
deriving Inhabited,DecidableEq
def Tok.row(t:Tok):List D:=[.int .i64 t.kind,.int .i64 t.at_,.int .i64 t.len,.int .i64 t.num,.str t.text]
def CW:List UInt8->List UInt8->Bool
 | [],_=>false
 |b::r,s=>(b==32&&decide (s.length<r.length)&&r.take s.length==s&&r.getD s.length 0==32)||CW r s
def EH(t s:List UInt8):Bool:=!s.isEmpty&&s.all (fun b=>b != 32)&&CW t s
def Tx(ws:List (List UInt8)):List UInt8:=ws.flatMap (fun w=>32::w)++[32]
theorem Rf(w:List UInt8)(ws:List (List UInt8)):Tx (w::ws)=32::(w++Tx ws):=by simp[Tx]
theorem Be1(ws:List (List UInt8)):∃r,Tx ws=32::r:=by
 cases ws with
 |nil=>exact⟨[],rfl⟩
 |cons w ws=>exact⟨_,Rf w ws⟩
theorem Uo(s r:List UInt8):∀(w:List UInt8),(∀b∈w,b≠32)->CW (w++r) s=CW r s
 | [],_=>rfl
 |b::w,h=>by
  have hb:(b==32)=false:=by simpa using h b (by simp)
  simp only[List.cons_append,CW,hb,Bool.false_and,Bool.false_or]
  exact Uo s r w fun c hc=>h c (by simp[hc])
theorem BeK{s w r : List UInt8}(hs : ∀b∈s, b≠32)(hw : ∀b∈w, b≠32) :
  (decide (s.length<(w++32::r).length)&&(w++32::r).take s.length==s&&(w++32::r).getD s.length 0==32)=(s==w):=by
 by_cases h:s=w
 ·subst h
  simp
 ·have h2:(s==w)=false:=by simpa using h
  rw[h2]
  by_cases h3:(w++32::r).take s.length=s
  ·by_cases h4:(w++32::r).getD s.length 0=32
   ·exfalso
    rcases Nat.lt_trichotomy s.length w.length with hl | hl | hl
    ·rw[List.getD_eq_getElem?_getD,List.getElem?_append_left hl,List.getElem?_eq_getElem hl] at h4
     exact hw _ (List.getElem_mem hl) h4
    ·rw[hl,List.take_left] at h3
     exact h h3.symm
    ·have:(32:UInt8)∈s:=by
      rw[<- h3]
      have:s.length=w.length+(s.length-w.length-1+1):=by omega
      rw[this,List.take_append]
      simp
     exact hs _ this rfl
   ·have h4:((w++32::r).getD s.length 0==32)=false:=by simpa using h4
    rw[h4,Bool.and_false]
  ·have h3:((w++32::r).take s.length==s)=false:=by simpa using h3
   rw[h3,Bool.and_false,Bool.false_and]
theorem OJ{s:List UInt8}(hs:∀b∈s,b≠32):∀(ws:List (List UInt8)),(∀w∈ws,∀b∈w,b≠32)->CW (Tx ws) s=ws.contains s
 | [],_=>by simp[Tx,CW]
 |w::ws,h=>by
  obtain ⟨r,hr⟩:=Be1 ws
  have ih:=OJ hs ws fun v hv=>h v (by simp[hv])
  rw[Rf]
  simp only[CW,beq_self_eq_true,Bool.true_and,List.contains_cons]
  rw[Uo s _ w (h w (by simp)),ih]
  congr 1
  rw[hr]
  exact BeK hs (h w (by simp))
theorem OG{s:List UInt8}(ws:List (List UInt8))(h:(ws.all fun w=>!w.isEmpty&&w.all fun b=>b != 32)=true):EH (Tx ws) s=ws.contains s:=by
 have h1:∀w∈ws,w≠[]/\∀b∈w,b≠32:=fun w hw=>by
  have:=List.all_eq_true.1 h w hw
  simp only[Bool.and_eq_true,Bool.not_eq_true',List.isEmpty_eq_false_iff,List.all_eq_true,bne_iff_ne] at this
  exact this
 unfold EH
 cases he:s.isEmpty with
 |true =>
  have:s=[]:=List.isEmpty_iff.1 he
  subst this
  cases hc:ws.contains [] with
  |false=>rfl
  |true=>exact ((h1 [] (by simpa using hc)).1 rfl).elim
 |false =>
  cases ha:s.all fun b=>b != 32 with
  |false =>
   cases hc:ws.contains s with
   |false=>rfl
   |true =>
    have:=(h1 s (by simpa using hc)).2
    rw[List.all_eq_false] at ha
    obtain ⟨b,hb,hb2⟩:=ha
    exact (this b hb (by simpa using hb2)).elim
  |true =>
   simp only[Bool.not_false,Bool.true_and]
   exact OJ (fun b hb=>by simpa using List.all_eq_true.1 ha b hb) ws fun w hw=>(h1 w hw).2
def Bdi : List UInt8 := asc " X Y F G self arg min max and or not shape reshape tally depth stack iota take drop first reverse rotate transpose from pick select amend up down sort find in unique where copy expand cut encode decode box open same kind ord chr format left right each swap outer inner rank power stencil atop over "
def BcL : List UInt8 := asc " + - * % | ^ < <= = ~= >= > , / \\ "
theorem Bda:Bdi=Tx resL:=by decide +kernel
theorem BcC:BcL=Tx sgnL:=by decide +kernel
theorem Bc6(s:List UInt8):EH Bdi s=resL.contains s:=by rw[Bda];exact OG _ (by decide +kernel)
theorem BcU(s:List UInt8):EH BcL s=sgnL.contains s:=by rw[BcC];exact OG _ (by decide +kernel)
def sep(b:UInt8):Prop:=b=10\/b=32
def TT(w:List UInt8):Bool:=!w.isEmpty&&low (w.getD 0 0)&&w.all fun b=>low b||dig b
def Cd(w:List UInt8):Bool:=TT w&&decide (w.length<=32)&&!RP w
end Go.Proofs.YtnlplccjbojloaaGreatDoor
