/- Functions of the given program and what each of them computes: lemmas towards the statement, their conditions stated with each of them. -/
import Derived.Test.YtnlplccjbojloaaGreatDoorAb2
import Derived.KernelRfl
import Derived.Shelf.Strings.Builder1
import Derived.Shelf.Strings.Builder2
import Derived.Shelf.Strings.OnBuilder
import Derived.Shelf.Small.Strs
import Derived.Shelf.Strings.BuilderF
import Derived.Shelf.Strconv.Itoa0
import Derived.Shelf.Strconv.Itoa1
import Derived.Shelf.LaysM
import Derived.Shelf.Strconv.Itoa2
import Derived.Shelf.Strconv.Itoa3
import Derived.Shelf.Strconv.Itoa4
import Derived.Shelf.Strings.Search1
import Derived.Shelf.Strings.Prefix
import Derived.Shelf.Bits.Mul64
import Derived.Shelf.Strings.Repeat
import Derived.Lib.AppendIntMem
import Derived.Lib.ItoaLen
import Derived.Test.YtnlplccjbojloaaGreatDoorRows
import Derived.Lib.Join
import Derived.Lib.Builder
import Derived.Lib.UnsafeStr
import Derived.Test.YtnlplccjbojloaaGreatDoorCards
import Derived.Test.YtnlplccjbojloaaGreatDoorTie
import Derived.Deep.DeepHandedRow
import Derived.Stop.LaidErr
import Derived.Lib.Bytealg
namespace Go.Proofs.YtnlplccjbojloaaGreatDoor
open Go Go.Ab
noncomputable def tab:List (Nat×TI):=[
 (0,⟨TypeDesc.tuple #[],1,0,[.unk]⟩),
 (1,⟨TypeDesc.func #[] #[] false,1,8,[.nilf]⟩),
 (2,⟨TypeDesc.int .i64,1,8,[.int .i64 0]⟩),
 (3,⟨TypeDesc.int .i64,1,8,[.int .i64 0]⟩),
 (4,⟨TypeDesc.bool,1,1,[.bool false]⟩),
 (5,⟨TypeDesc.int .u8,1,1,[.int .u8 0]⟩),
 (9,⟨TypeDesc.string,1,16,[.str []]⟩),
 (20,⟨TypeDesc.interface #[],1,16,[.nili]⟩),
 (21,⟨TypeDesc.int .i32,1,4,[.int .i32 0]⟩),
 (22,⟨TypeDesc.slice 44,1,24,[.sl 1 0 (fun _=>[]) .nil]⟩),
 (23,⟨Tryz.t23.desc,1,24,[.sl 1 0 (fun _=>[]) .nil]⟩),
 (24,⟨Tryz.t23.desc,1,24,[.sl 1 0 (fun _=>[]) .nil]⟩),
 (25,⟨TypeDesc.func #[24] #[4] false,1,8,[.nilf]⟩),
 (26,⟨TypeDesc.func #[] #[4] false,1,8,[.nilf]⟩),
 (27,⟨TypeDesc.func #[24] #[9] false,1,8,[.nilf]⟩),
 (28,⟨TypeDesc.func #[22,3] #[3] false,1,8,[.nilf]⟩),
 (29,⟨TypeDesc.int .i64,1,8,[.int .i64 0]⟩),
 (30,⟨TypeDesc.int .i64,1,8,[.int .i64 0]⟩),
 (31,⟨TypeDesc.int .i64,1,8,[.int .i64 0]⟩),
 (32,⟨TypeDesc.int .i64,1,8,[.int .i64 0]⟩),
 (33,⟨TypeDesc.int .i64,1,8,[.int .i64 0]⟩),
 (34,⟨TypeDesc.slice 3,1,24,[.sl 1 0 (fun _=>[]) .nil]⟩),
 (35,⟨TypeDesc.slice 37,1,24,[.sl 1 0 (fun _=>[]) .nil]⟩),
 (36,⟨Tryz.t36.desc,4,80,[.int .i64 0,.sl 1 0 (fun _=>[]) .nil,.sl 1 0 (fun _=>[]) .nil,.sl 1 0 (fun _=>[]) .nil]⟩),
 (37,⟨Tryz.t36.desc,4,80,[.int .i64 0,.sl 1 0 (fun _=>[]) .nil,.sl 1 0 (fun _=>[]) .nil,.sl 1 0 (fun _=>[]) .nil]⟩),
 (38,⟨TypeDesc.slice 40,1,24,[.sl 1 0 (fun _=>[]) .nil]⟩),
 (39,⟨Tryz.t39.desc,15,208,[.int .i64 0,.int .i64 0,.int .i64 0,.str [],.int .i64 0,.int .i64 0,.int .i64 0,.sl 1 0 (fun _=>[]) .nil,.sl 1 0 (fun _=>[]) .nil,.sl 1 0 (fun _=>[]) .nil,.sl 1 0 (fun _=>[]) .nil,.sl 1 0 (fun _=>[]) .nil,.int .i64 0,.int .i64 0,.int .i64 0]⟩),
 (40,⟨Tryz.t39.desc,15,208,[.int .i64 0,.int .i64 0,.int .i64 0,.str [],.int .i64 0,.int .i64 0,.int .i64 0,.sl 1 0 (fun _=>[]) .nil,.sl 1 0 (fun _=>[]) .nil,.sl 1 0 (fun _=>[]) .nil,.sl 1 0 (fun _=>[]) .nil,.sl 1 0 (fun _=>[]) .nil,.int .i64 0,.int .i64 0,.int .i64 0]⟩),
 (41,⟨TypeDesc.func #[32] #[40] false,1,8,[.nilf]⟩),
 (42,⟨TypeDesc.int .i64,1,8,[.int .i64 0]⟩),
 (43,⟨Tryz.t43.desc,34,456,[.int .i64 0,.int .i64 0,.str [],.int .i64 0,.int .i64 0,.int .i64 0,.int .i64 0,.str [],.int .i64 0,.int .i64 0,.int .i64 0,.sl 1 0 (fun _=>[]) .nil,.sl 1 0 (fun _=>[]) .nil,.sl 1 0 (fun _=>[]) .nil,.sl 1 0 (fun _=>[]) .nil,.sl 1 0 (fun _=>[]) .nil,.int .i64 0,.int .i64 0,.int .i64 0,.int .i64 0,.int .i64 0,.int .i64 0,.str [],.int .i64 0,.int .i64 0,.int .i64 0,.sl 1 0 (fun _=>[]) .nil,.sl 1 0 (fun _=>[]) .nil,.sl 1 0 (fun _=>[]) .nil,.sl 1 0 (fun _=>[]) .nil,.sl 1 0 (fun _=>[]) .nil,.int .i64 0,.int .i64 0,.int .i64 0]⟩),
 (44,⟨Tryz.t43.desc,34,456,[.int .i64 0,.int .i64 0,.str [],.int .i64 0,.int .i64 0,.int .i64 0,.int .i64 0,.str [],.int .i64 0,.int .i64 0,.int .i64 0,.sl 1 0 (fun _=>[]) .nil,.sl 1 0 (fun _=>[]) .nil,.sl 1 0 (fun _=>[]) .nil,.sl 1 0 (fun _=>[]) .nil,.sl 1 0 (fun _=>[]) .nil,.int .i64 0,.int .i64 0,.int .i64 0,.int .i64 0,.int .i64 0,.int .i64 0,.str [],.int .i64 0,.int .i64 0,.int .i64 0,.sl 1 0 (fun _=>[]) .nil,.sl 1 0 (fun _=>[]) .nil,.sl 1 0 (fun _=>[]) .nil,.sl 1 0 (fun _=>[]) .nil,.sl 1 0 (fun _=>[]) .nil,.int .i64 0,.int .i64 0,.int .i64 0]⟩),
 (45,⟨TypeDesc.int .i64,1,8,[.int .i64 0]⟩),
 (46,⟨TypeDesc.func #[24] #[45] false,1,8,[.nilf]⟩),
 (47,⟨TypeDesc.pointer 50,1,8,[.nilp]⟩),
 (48,⟨TypeDesc.slice 5,1,24,[.sl 1 0 (fun _=>[]) .nil]⟩),
 (49,⟨Tryz.t49.desc,2,32,[.nilp,.sl 1 0 (fun _=>[]) .nil]⟩),
 (50,⟨Tryz.t49.desc,2,32,[.nilp,.sl 1 0 (fun _=>[]) .nil]⟩),
 (51,⟨Tryz.t51.desc,4,56,[.nilp,.sl 1 0 (fun _=>[]) .nil,.str [],.int .i64 0]⟩),
 (52,⟨Tryz.t51.desc,4,56,[.nilp,.sl 1 0 (fun _=>[]) .nil,.str [],.int .i64 0]⟩),
 (53,⟨TypeDesc.slice 9,1,24,[.sl 1 0 (fun _=>[]) .nil]⟩),
 (54,⟨TypeDesc.func #[24] #[53] false,1,8,[.nilf]⟩),
 (55,⟨TypeDesc.func #[9,56,58] #[] false,1,8,[.nilf]⟩),
 (56,⟨TypeDesc.func #[9,9] #[4] false,1,8,[.nilf]⟩),
 (57,⟨TypeDesc.func #[9,3] #[9] false,1,8,[.nilf]⟩),
 (58,⟨TypeDesc.func #[3] #[9] false,1,8,[.nilf]⟩),
 (59, ⟨TypeDesc.interface #[("Error", 62)], 1, 16, [.nili]⟩),
 (60, ⟨TypeDesc.interface #[("Error", 62)], 1, 16, [.nili]⟩),
 (61,⟨TypeDesc.func #[5] #[60] false,1,8,[.nilf]⟩),
 (62,⟨TypeDesc.func #[] #[9] false,1,8,[.nilf]⟩),
 (63,⟨TypeDesc.func #[22,3] #[53] false,1,8,[.nilf]⟩),
 (64,⟨TypeDesc.func #[9] #[4] false,1,8,[.nilf]⟩),
 (65,⟨TypeDesc.func #[5] #[4] false,1,8,[.nilf]⟩),
 (66,⟨TypeDesc.func #[40,3] #[3] false,1,8,[.nilf]⟩),
 (67,⟨TypeDesc.func #[44] #[38] false,1,8,[.nilf]⟩),
 (68,⟨TypeDesc.func #[40,3] #[4] false,1,8,[.nilf]⟩),
 (69,⟨TypeDesc.func #[40] #[3] false,1,8,[.nilf]⟩),
 (70,⟨TypeDesc.func #[22,4] #[4] false,1,8,[.nilf]⟩),
 (71,⟨TypeDesc.func #[22] #[4] false,1,8,[.nilf]⟩),
 (72,⟨TypeDesc.func #[40] #[53] false,1,8,[.nilf]⟩),
 (73,⟨TypeDesc.pointer 52,1,8,[.nilp]⟩),
 (74,⟨TypeDesc.tuple #[3,60],1,0,[.unk]⟩),
 (75,⟨TypeDesc.func #[9] #[3,60] false,1,8,[.nilf]⟩),
 (76,⟨TypeDesc.int .u64,1,8,[.int .u64 0]⟩),
 (77,⟨TypeDesc.tuple #[76,76],1,0,[.unk]⟩),
 (78,⟨TypeDesc.func #[76,76] #[76,76] false,1,8,[.nilf]⟩),
 (79,⟨TypeDesc.func #[3] #[] false,1,8,[.nilf]⟩),
 (80,⟨TypeDesc.func #[] #[3] false,1,8,[.nilf]⟩),
 (81,⟨TypeDesc.pointer 5,1,8,[.nilp]⟩),
 (82,⟨TypeDesc.func #[53,40,89,3] #[53] false,1,8,[.nilf]⟩),
 (83,⟨TypeDesc.func #[38,85] #[4] false,1,8,[.nilf]⟩),
 (84,⟨TypeDesc.func #[40] #[38] false,1,8,[.nilf]⟩),
 (85,⟨TypeDesc.func #[40] #[4] false,1,8,[.nilf]⟩),
 (86,⟨TypeDesc.func #[40] #[] false,1,8,[.nilf]⟩),
 (87,⟨TypeDesc.map 9 3,1,8,[.nmap]⟩),
 (88,⟨TypeDesc.func #[89,91] #[4] false,1,8,[.nilf]⟩),
 (89,⟨TypeDesc.slice 29,1,24,[.sl 1 0 (fun _=>[]) .nil]⟩),
 (90,⟨TypeDesc.func #[22,29] #[4] false,1,8,[.nilf]⟩),
 (91,⟨TypeDesc.func #[29] #[4] false,1,8,[.nilf]⟩),
 (92,⟨TypeDesc.func #[40] #[9] false,1,8,[.nilf]⟩),
 (93,⟨TypeDesc.func #[9,3] #[3] false,1,8,[.nilf]⟩),
 (94,⟨TypeDesc.int .u32,1,4,[.int .u32 0]⟩),
 (95,⟨TypeDesc.tuple #[94,94],1,0,[.unk]⟩),
 (96,⟨TypeDesc.func #[94,94] #[94,94] false,1,8,[.nilf]⟩),
 (97,⟨TypeDesc.int .u64,1,8,[.int .u64 0]⟩),
 (98,⟨TypeDesc.tuple #[97,97],1,0,[.unk]⟩),
 (99,⟨TypeDesc.func #[97,97] #[97,97] false,1,8,[.nilf]⟩),
 (100,⟨TypeDesc.unsafePointer,1,8,[.nilp]⟩),
 (101,⟨TypeDesc.func #[100] #[100] false,1,8,[.nilf]⟩),
 (102,⟨TypeDesc.func #[40,3] #[53] false,1,8,[.nilf]⟩),
 (103,⟨TypeDesc.func #[38,85] #[3] false,1,8,[.nilf]⟩),
 (104,⟨TypeDesc.func #[40,29] #[4] false,1,8,[.nilf]⟩),
 (105,⟨TypeDesc.func #[32] #[9] false,1,8,[.nilf]⟩),
 (106,⟨TypeDesc.func #[31] #[9] false,1,8,[.nilf]⟩),
 (107,⟨TypeDesc.func #[89,91] #[3] false,1,8,[.nilf]⟩),
 (108,⟨TypeDesc.func #[22,109] #[4] false,1,8,[.nilf]⟩),
 (109,⟨TypeDesc.func #[44] #[4] false,1,8,[.nilf]⟩),
 (110,⟨TypeDesc.func #[40] #[45] false,1,8,[.nilf]⟩),
 (111,⟨TypeDesc.func #[9,5] #[3] false,1,8,[.nilf]⟩),
 (112,⟨TypeDesc.func #[3] #[48] false,1,8,[.nilf]⟩),
 (113,⟨TypeDesc.func #[40,40] #[4] false,1,8,[.nilf]⟩),
 (114,⟨TypeDesc.func #[37] #[4] false,1,8,[.nilf]⟩),
 (115,⟨TypeDesc.func #[37] #[45] false,1,8,[.nilf]⟩),
 (116,⟨TypeDesc.func #[40,117] #[4] true,1,8,[.nilf]⟩),
 (117,⟨TypeDesc.slice 30,1,24,[.sl 1 0 (fun _=>[]) .nil]⟩),
 (118,⟨TypeDesc.func #[117,3] #[117] false,1,8,[.nilf]⟩),
 (119,⟨TypeDesc.array 56 9,56,896,[.str [],.str [],.str [],.str [],.str [],.str [],.str [],.str [],.str [],.str [],.str [],.str [],.str [],.str [],.str [],.str [],.str [],.str [],.str [],.str [],.str [],.str [],.str [],.str [],.str [],.str [],.str [],.str [],.str [],.str [],.str [],.str [],.str [],.str [],.str [],.str [],.str [],.str [],.str [],.str [],.str [],.str [],.str [],.str [],.str [],.str [],.str [],.str [],.str [],.str [],.str [],.str [],.str [],.str [],.str [],.str []]⟩),
 (120,⟨TypeDesc.array 12 9,12,192,[.str [],.str [],.str [],.str [],.str [],.str [],.str [],.str [],.str [],.str [],.str [],.str []]⟩),
 (121,⟨TypeDesc.func #[22,109] #[3] false,1,8,[.nilf]⟩),
 (122,⟨TypeDesc.func #[37] #[9] false,1,8,[.nilf]⟩),
 (123,⟨TypeDesc.func #[38,89] #[9] true,1,8,[.nilf]⟩),
 (124,⟨TypeDesc.func #[40,89] #[9] true,1,8,[.nilf]⟩),
 (125,⟨TypeDesc.func #[44] #[9] false,1,8,[.nilf]⟩),
 (126,⟨TypeDesc.func #[53,9] #[9] false,1,8,[.nilf]⟩),
 (127,⟨TypeDesc.func #[40,4,4,4,4,4,4] #[4] false,1,8,[.nilf]⟩),
 (128,⟨TypeDesc.func #[31] #[30] false,1,8,[.nilf]⟩),
 (129,⟨TypeDesc.func #[37,37] #[4] false,1,8,[.nilf]⟩),
 (130,⟨TypeDesc.func #[22,22] #[4] false,1,8,[.nilf]⟩),
 (131,⟨TypeDesc.func #[37] #[45,3,3] false,1,8,[.nilf]⟩),
 (132,⟨TypeDesc.func #[3] #[4] false,1,8,[.nilf]⟩),
 (133,⟨TypeDesc.tuple #[45,3,3],1,0,[.unk]⟩),
 (134,⟨TypeDesc.func #[38,117,135] #[4] false,1,8,[.nilf]⟩),
 (135,⟨TypeDesc.func #[40,30] #[4] false,1,8,[.nilf]⟩),
 (136,⟨TypeDesc.func #[89,29] #[4] false,1,8,[.nilf]⟩),
 (137,⟨TypeDesc.tuple #[45,3],1,0,[.unk]⟩),
 (138,⟨TypeDesc.func #[37] #[45,3] false,1,8,[.nilf]⟩),
 (139,⟨TypeDesc.func #[34,34] #[4] false,1,8,[.nilf]⟩),
 (140,⟨TypeDesc.func #[38,89] #[9] false,1,8,[.nilf]⟩),
 (141,⟨TypeDesc.func #[40,4] #[9] false,1,8,[.nilf]⟩),
 (142,⟨TypeDesc.func #[40,89] #[4] false,1,8,[.nilf]⟩),
 (143,⟨TypeDesc.func #[22,9] #[9] false,1,8,[.nilf]⟩),
 (144,⟨TypeDesc.func #[34,132] #[4] false,1,8,[.nilf]⟩),
 (145,⟨TypeDesc.func #[34] #[4] false,1,8,[.nilf]⟩),
 (146,⟨TypeDesc.func #[34] #[3] false,1,8,[.nilf]⟩),
 (147,⟨TypeDesc.func #[21,34] #[9] true,1,8,[.nilf]⟩),
 (148,⟨TypeDesc.func #[53] #[9] true,1,8,[.nilf]⟩),
 (149,⟨TypeDesc.func #[37] #[37] false,1,8,[.nilf]⟩),
 (150,⟨TypeDesc.func #[37,3] #[37] false,1,8,[.nilf]⟩),
 (151,⟨TypeDesc.func #[34] #[9] false,1,8,[.nilf]⟩),
 (152,⟨TypeDesc.func #[89,29] #[3] false,1,8,[.nilf]⟩),
 (153,⟨TypeDesc.func #[34] #[45] false,1,8,[.nilf]⟩),
 (154,⟨TypeDesc.func #[37] #[3] false,1,8,[.nilf]⟩),
 (155,⟨TypeDesc.func #[34,132] #[3] false,1,8,[.nilf]⟩),
 (156,⟨TypeDesc.func #[21,21] #[9] false,1,8,[.nilf]⟩),
 (157,⟨TypeDesc.func #[34,3] #[4] false,1,8,[.nilf]⟩),
 (158,⟨TypeDesc.func #[2,3] #[9] false,1,8,[.nilf]⟩),
 (159,⟨TypeDesc.func #[34,3] #[3] false,1,8,[.nilf]⟩),
 (160,⟨TypeDesc.func #[3,3] #[9] false,1,8,[.nilf]⟩),
 (161,⟨TypeDesc.array 24 5,24,24,[.int .u8 0,.int .u8 0,.int .u8 0,.int .u8 0,.int .u8 0,.int .u8 0,.int .u8 0,.int .u8 0,.int .u8 0,.int .u8 0,.int .u8 0,.int .u8 0,.int .u8 0,.int .u8 0,.int .u8 0,.int .u8 0,.int .u8 0,.int .u8 0,.int .u8 0,.int .u8 0,.int .u8 0,.int .u8 0,.int .u8 0,.int .u8 0]⟩),
 (162,⟨TypeDesc.func #[97] #[3] false,1,8,[.nilf]⟩),
 (163,⟨TypeDesc.func #[48,97] #[] false,1,8,[.nilf]⟩),
 (164,⟨TypeDesc.tuple #[48,9],1,0,[.unk]⟩),
 (165,⟨TypeDesc.func #[48,97,3,4,4] #[48,9] false,1,8,[.nilf]⟩),
 (166,⟨TypeDesc.func #[3] #[3] false,1,8,[.nilf]⟩),
 (167,⟨TypeDesc.func #[4] #[3] false,1,8,[.nilf]⟩),
 (168,⟨TypeDesc.array 20 97,20,160,[.int .u64 0,.int .u64 0,.int .u64 0,.int .u64 0,.int .u64 0,.int .u64 0,.int .u64 0,.int .u64 0,.int .u64 0,.int .u64 0,.int .u64 0,.int .u64 0,.int .u64 0,.int .u64 0,.int .u64 0,.int .u64 0,.int .u64 0,.int .u64 0,.int .u64 0,.int .u64 0]⟩),
 (169,⟨TypeDesc.array 65 5,65,65,List.replicate 65 (.int .u8 0)⟩),
 (170,⟨TypeDesc.func #[76] #[3] false,1,8,[.nilf]⟩),
 (171,⟨TypeDesc.func #[94] #[3] false,1,8,[.nilf]⟩),
 (172,⟨TypeDesc.array 32 5,32,32,[.int .u8 0,.int .u8 0,.int .u8 0,.int .u8 0,.int .u8 0,.int .u8 0,.int .u8 0,.int .u8 0,.int .u8 0,.int .u8 0,.int .u8 0,.int .u8 0,.int .u8 0,.int .u8 0,.int .u8 0,.int .u8 0,.int .u8 0,.int .u8 0,.int .u8 0,.int .u8 0,.int .u8 0,.int .u8 0,.int .u8 0,.int .u8 0,.int .u8 0,.int .u8 0,.int .u8 0,.int .u8 0,.int .u8 0,.int .u8 0,.int .u8 0,.int .u8 0]⟩),
 (173,⟨TypeDesc.array 64 5,64,64,[.int .u8 0,.int .u8 0,.int .u8 0,.int .u8 0,.int .u8 0,.int .u8 0,.int .u8 0,.int .u8 0,.int .u8 0,.int .u8 0,.int .u8 0,.int .u8 0,.int .u8 0,.int .u8 0,.int .u8 0,.int .u8 0,.int .u8 0,.int .u8 0,.int .u8 0,.int .u8 0,.int .u8 0,.int .u8 0,.int .u8 0,.int .u8 0,.int .u8 0,.int .u8 0,.int .u8 0,.int .u8 0,.int .u8 0,.int .u8 0,.int .u8 0,.int .u8 0,.int .u8 0,.int .u8 0,.int .u8 0,.int .u8 0,.int .u8 0,.int .u8 0,.int .u8 0,.int .u8 0,.int .u8 0,.int .u8 0,.int .u8 0,.int .u8 0,.int .u8 0,.int .u8 0,.int .u8 0,.int .u8 0,.int .u8 0,.int .u8 0,.int .u8 0,.int .u8 0,.int .u8 0,.int .u8 0,.int .u8 0,.int .u8 0,.int .u8 0,.int .u8 0,.int .u8 0,.int .u8 0,.int .u8 0,.int .u8 0,.int .u8 0,.int .u8 0]⟩),
 (181,⟨TypeDesc.func #[100,100] #[4] false,1,8,[.nilf]⟩)]
theorem tc{P:Program}{l:List (Nat×TI)}{t:Nat}{d:TypeDesc}{a b:Nat}{z:List D}(h1:P.underlying t=some d)(h:TabOk P (IA l))(h2:(P.info? t).map (fun i=>(i.size,i.bytes,i.zero.map fun z=>(z.cells.size,z.cells.toList.map T1)))=some (a,b,some (a,z)):=by kernel_rfl):TabOk P (IA ((t,⟨d,a,b,z⟩)::l)):=TabOk.cons (ti:=⟨d,a,b,z⟩) h1 h2 h
theorem BdM:TabOk Tryz.prog (IA tab) :=
 tc Tryz.underlying0 <|
 tc Tryz.underlying1 <|
 tc Tryz.underlying2 <|
 tc Tryz.underlying3 <|
 tc Tryz.underlying4 <|
 tc Tryz.underlying5 <|
 tc Tryz.underlying9 <|
 tc Tryz.underlying20 <|
 tc Tryz.underlying21 <|
 tc Tryz.underlying22 <|
 tc Tryz.underlying23 <|
 tc Tryz.underlying24 <|
 tc Tryz.underlying25 <|
 tc Tryz.underlying26 <|
 tc Tryz.underlying27 <|
 tc Tryz.underlying28 <|
 tc Tryz.underlying29 <|
 tc Tryz.underlying30 <|
 tc Tryz.underlying31 <|
 tc Tryz.underlying32 <|
 tc Tryz.underlying33 <|
 tc Tryz.underlying34 <|
 tc Tryz.underlying35 <|
 tc Tryz.underlying36 <|
 tc Tryz.underlying37 <|
 tc Tryz.underlying38 <|
 tc Tryz.underlying39 <|
 tc Tryz.underlying40 <|
 tc Tryz.underlying41 <|
 tc Tryz.underlying42 <|
 tc Tryz.underlying43 <|
 tc Tryz.underlying44 <|
 tc Tryz.underlying45 <|
 tc Tryz.underlying46 <|
 tc Tryz.underlying47 <|
 tc Tryz.underlying48 <|
 tc Tryz.underlying49 <|
 tc Tryz.underlying50 <|
 tc Tryz.underlying51 <|
 tc Tryz.underlying52 <|
 tc Tryz.underlying53 <|
 tc Tryz.underlying54 <|
 tc Tryz.underlying55 <|
 tc Tryz.underlying56 <|
 tc Tryz.underlying57 <|
 tc Tryz.underlying58 <|
 tc Tryz.underlying59 <|
 tc Tryz.underlying60 <|
 tc Tryz.underlying61 <|
 tc Tryz.underlying62 <|
 tc Tryz.underlying63 <|
 tc Tryz.underlying64 <|
 tc Tryz.underlying65 <|
 tc Tryz.underlying66 <|
 tc Tryz.underlying67 <|
 tc Tryz.underlying68 <|
 tc Tryz.underlying69 <|
 tc Tryz.underlying70 <|
 tc Tryz.underlying71 <|
 tc Tryz.underlying72 <|
 tc Tryz.underlying73 <|
 tc Tryz.underlying74 <|
 tc Tryz.underlying75 <|
 tc Tryz.underlying76 <|
 tc Tryz.underlying77 <|
 tc Tryz.underlying78 <|
 tc Tryz.underlying79 <|
 tc Tryz.underlying80 <|
 tc Tryz.underlying81 <|
 tc Tryz.underlying82 <|
 tc Tryz.underlying83 <|
 tc Tryz.underlying84 <|
 tc Tryz.underlying85 <|
 tc Tryz.underlying86 <|
 tc Tryz.underlying87 <|
 tc Tryz.underlying88 <|
 tc Tryz.underlying89 <|
 tc Tryz.underlying90 <|
 tc Tryz.underlying91 <|
 tc Tryz.underlying92 <|
 tc Tryz.underlying93 <|
 tc Tryz.underlying94 <|
 tc Tryz.underlying95 <|
 tc Tryz.underlying96 <|
 tc Tryz.underlying97 <|
 tc Tryz.underlying98 <|
 tc Tryz.underlying99 <|
 tc Tryz.underlying100 <|
 tc Tryz.underlying101 <|
 tc Tryz.underlying102 <|
 tc Tryz.underlying103 <|
 tc Tryz.underlying104 <|
 tc Tryz.underlying105 <|
 tc Tryz.underlying106 <|
 tc Tryz.underlying107 <|
 tc Tryz.underlying108 <|
 tc Tryz.underlying109 <|
 tc Tryz.underlying110 <|
 tc Tryz.underlying111 <|
 tc Tryz.underlying112 <|
 tc Tryz.underlying113 <|
 tc Tryz.underlying114 <|
 tc Tryz.underlying115 <|
 tc Tryz.underlying116 <|
 tc Tryz.underlying117 <|
 tc Tryz.underlying118 <|
 tc Tryz.underlying119 <|
 tc Tryz.underlying120 <|
 tc Tryz.underlying121 <|
 tc Tryz.underlying122 <|
 tc Tryz.underlying123 <|
 tc Tryz.underlying124 <|
 tc Tryz.underlying125 <|
 tc Tryz.underlying126 <|
 tc Tryz.underlying127 <|
 tc Tryz.underlying128 <|
 tc Tryz.underlying129 <|
 tc Tryz.underlying130 <|
 tc Tryz.underlying131 <|
 tc Tryz.underlying132 <|
 tc Tryz.underlying133 <|
 tc Tryz.underlying134 <|
 tc Tryz.underlying135 <|
 tc Tryz.underlying136 <|
 tc Tryz.underlying137 <|
 tc Tryz.underlying138 <|
 tc Tryz.underlying139 <|
 tc Tryz.underlying140 <|
 tc Tryz.underlying141 <|
 tc Tryz.underlying142 <|
 tc Tryz.underlying143 <|
 tc Tryz.underlying144 <|
 tc Tryz.underlying145 <|
 tc Tryz.underlying146 <|
 tc Tryz.underlying147 <|
 tc Tryz.underlying148 <|
 tc Tryz.underlying149 <|
 tc Tryz.underlying150 <|
 tc Tryz.underlying151 <|
 tc Tryz.underlying152 <|
 tc Tryz.underlying153 <|
 tc Tryz.underlying154 <|
 tc Tryz.underlying155 <|
 tc Tryz.underlying156 <|
 tc Tryz.underlying157 <|
 tc Tryz.underlying158 <|
 tc Tryz.underlying159 <|
 tc Tryz.underlying160 <|
 tc Tryz.underlying161 <|
 tc Tryz.underlying162 <|
 tc Tryz.underlying163 <|
 tc Tryz.underlying164 <|
 tc Tryz.underlying165 <|
 tc Tryz.underlying166 <|
 tc Tryz.underlying167 <|
 tc Tryz.underlying168 <|
 tc Tryz.underlying169 <|
 tc Tryz.underlying170 <|
 tc Tryz.underlying171 <|
 tc Tryz.underlying172 <|
 tc Tryz.underlying173 <|
 tc Tryz.underlying181 <|
 TabOk.nil _
noncomputable def BkW:List (Nat×Frm):=[
 (37,{ fn:=Tryz.f37,n:=8,V:=2,cross:=[4],ord:=fun _=>([],[]) }),
 (38,{ fn:=Tryz.f38,n:=25,V:=2,cross:=[7,21],ord:=fun id=>match id with | 3=>([0,1,2,3,5,6,7,8,9,11,4,10,12],[4]) | _=>([],[]) }),
 (39,{ fn:=Tryz.f39,n:=8,V:=1,cross:=[2],ord:=fun _=>([],[]) }),
 (60,{ fn:=Tryz.f60,n:=17,V:=2,cross:=[4,5,6],ord:=fun _=>([],[]) }),
 (61,{ fn:=Tryz.f61,n:=51,V:=2,cross:=[4,5,6,7,8,9,10,11,12,13],ord:=fun _=>([],[]) }),
 (62,{ fn:=Tryz.f62,n:=18,V:=2,cross:=[4],ord:=fun _=>([],[]) }),
 (63,{ fn:=Tryz.f63,n:=30,V:=2,cross:=[4],ord:=fun id=>match id with | 0=>([0,1,2,3,6,9,10,11,12,13,4,5,7,8,14,15],[4,8]) | _=>([],[]) }),
 (120,{ fn:=Tryz.f120,n:=9,V:=3,cross:=[4],ord:=fun _=>([],[]) }),
 (131,{ fn:=Tryz.f131,n:=9,V:=2,cross:=[4],ord:=fun _=>([],[]) }),
 (132,{ fn:=Tryz.f132,n:=5,V:=1,cross:=[2],ord:=fun _=>([],[]) }),
 (134,{ fn:=Tryz.f134,n:=8,V:=1,cross:=[2,5],ord:=fun _=>([],[]) }),
 (156,{ fn:=Tryz.f156,n:=16,V:=3,cross:=[4,5,11],ord:=fun _=>([],[]) }),
 (160,{ fn:=Tryz.f160,n:=9,V:=2,cross:=[4],ord:=fun _=>([],[]) }),
 (161,{ fn:=Tryz.f161,n:=5,V:=1,cross:=[2],ord:=fun _=>([],[]) }),
 (170,{ fn:=Tryz.f170,n:=54,V:=2,cross:=[4,5,6,7,8,9,11,17,23,34],ord:=fun _=>([],[]) }),
 (174,{ fn:=Tryz.f174,n:=15,V:=1,cross:=[2,4],ord:=fun _=>([],[]) }),
 (175,{ fn:=Tryz.f175,n:=15,V:=1,cross:=[2,3],ord:=fun _=>([],[]) }),
 (176,{ fn:=Tryz.f176,n:=167,V:=2,cross:=[4,5,6,7,8,9,10,11,12,13,14,15,16,20,99,139,161],ord:=fun id=>match id with | 7=>([0,1,2,3,4,5,6,7,8,9,10,11,12,13,14],[12,14]) | 8=>([0,1,2,3,4,5,6,7,8,9,10,11,12,13,14],[12,14]) | 9=>([0,1,2,3,4,5,6,7,8,9,10,11,12,13,14],[12,14]) | 10=>([0,1,2,3,4,5,6,7,8,9,10,11,12,13,14],[12,14]) | 17=>([0,1,2,3,4,5,6,7,8,9,10,11,12,13,14],[12,14]) | 18=>([0,1,2,3,4,5,6,7,8,9,10,11,12,13,14],[12,14]) | 23=>([0,1,2,3,4,5,6,7,8,9,10,11,12,13,14],[12,14]) | _=>([],[]) }),
 (178,{ fn:=Tryz.f178,n:=8,V:=1,cross:=[2,4],ord:=fun _=>([],[]) }),
 (180,{ fn:=Tryz.f180,n:=6,V:=1,cross:=[2],ord:=fun _=>([],[]) }),
 (181,{ fn:=Tryz.f181,n:=25,V:=1,cross:=[2,4,8,14],ord:=fun _=>([],[]) }),
 (182,{ fn:=Tryz.f182,n:=4,V:=1,cross:=[2,3],ord:=fun _=>([],[]) }),
 (183,{ fn:=Tryz.f183,n:=8,V:=1,cross:=[2],ord:=fun _=>([],[]) }),
 (185,{ fn:=Tryz.f185,n:=14,V:=1,cross:=[2,4],ord:=fun _=>([],[]) }),
 (186,{ fn:=Tryz.f186,n:=14,V:=1,cross:=[2,4],ord:=fun _=>([],[]) })]
abbrev eqs:List Nat:=[]
theorem BeT:∀t,eqs.contains t=true->Tryz.prog.eqGuardType Tryz.prog.depth t=false/\Tryz.prog.stoodInHeld t=false:=by
 intro t h
 exact absurd h (by simp[eqs])
theorem Bii:FrmOk Tryz.prog (Oy BkW) :=
 FrmOk.cons Tryz.func37 rfl (by decide) <|
 FrmOk.cons Tryz.func38 rfl (by decide) <|
 FrmOk.cons Tryz.func39 rfl (by decide) <|
 FrmOk.cons Tryz.func60 rfl (by decide) <|
 FrmOk.cons Tryz.func61 rfl (by decide) <|
 FrmOk.cons Tryz.func62 rfl (by decide) <|
 FrmOk.cons Tryz.func63 rfl (by decide) <|
 FrmOk.cons Tryz.func120 rfl (by decide) <|
 FrmOk.cons Tryz.func131 rfl (by decide) <|
 FrmOk.cons Tryz.func132 rfl (by decide) <|
 FrmOk.cons Tryz.func134 rfl (by decide) <|
 FrmOk.cons Tryz.func156 rfl (by decide) <|
 FrmOk.cons Tryz.func160 rfl (by decide) <|
 FrmOk.cons Tryz.func161 rfl (by decide) <|
 FrmOk.cons Tryz.func170 rfl (by decide) <|
 FrmOk.cons Tryz.func174 rfl (by decide) <|
 FrmOk.cons Tryz.func175 rfl (by decide) <|
 FrmOk.cons Tryz.func176 rfl (by decide) <|
 FrmOk.cons Tryz.func178 rfl (by decide) <|
 FrmOk.cons Tryz.func180 rfl (by decide) <|
 FrmOk.cons Tryz.func181 rfl (by decide) <|
 FrmOk.cons Tryz.func182 rfl (by decide) <|
 FrmOk.cons Tryz.func183 rfl (by decide) <|
 FrmOk.cons Tryz.func185 rfl (by decide) <|
 FrmOk.cons Tryz.func186 rfl (by decide) <|
 FrmOk.nil _
end Go.Proofs.YtnlplccjbojloaaGreatDoor
namespace Go.Proofs
open Go.Shelf
def Tryz.lays156_ren:Go.Shelf.Ren:=⟨fun | 156=>104 | 165=>38 | 166=>35 | 169=>20 | 240=>40 | 241=>63 | 276=>64 | 277=>86 | n=>n,fun | 31=>53 | 9=>9 | 3=>3 | 4=>4 | 0=>0 | 20=>20 | 72=>50 | 76=>74 | 70=>47 | 37=>48 | 75=>60 | 127=>81 | 164=>100 | 5=>5 | 80=>62 | n=>n,fun | n=>n⟩
theorem Tryz.lays156:Go.Proofs.Lays.n156 Tryz.prog Tryz.lays156_ren:={
 mixed:=by kernel_rfl
 f156:=Tryz.func104.trans (congrArg some (by kernel_rfl))
 f165:=Tryz.func38.trans (congrArg some (by kernel_rfl))
 f166:=Tryz.func35.trans (congrArg some (by kernel_rfl))
 f169:=Tryz.func20.trans (congrArg some (by kernel_rfl))
 f240:=Tryz.func40.trans (congrArg some (by kernel_rfl))
 f241:=Tryz.func63.trans (congrArg some (by kernel_rfl))
 f276:=Tryz.func64.trans (congrArg some (by kernel_rfl))
 f277:=Tryz.func86.trans (congrArg some (by kernel_rfl))
 t0:=Tryz.underlying0
 a0:=Tryz.isAgg0
 z0:=Tryz.sizeOf0
 v0:=Tryz.zeroValue0
 t3:=Tryz.underlying3
 a3:=Tryz.isAgg3
 z3:=Tryz.sizeOf3
 v3:=Tryz.zeroValue3
 t4:=Tryz.underlying4
 a4:=Tryz.isAgg4
 z4:=Tryz.sizeOf4
 v4:=Tryz.zeroValue4
 t9:=Tryz.underlying9
 a9:=Tryz.isAgg9
 z9:=Tryz.sizeOf9
 v9:=Tryz.zeroValue9
 t20:=Tryz.underlying20
 a20:=Tryz.isAgg20
 z20:=Tryz.sizeOf20
 v20:=Tryz.zeroValue20
 t31:=Tryz.underlying53
 a31:=Tryz.isAgg53
 z31:=Tryz.sizeOf53
 v31:=Tryz.zeroValue53
 t37:=Tryz.underlying48
 a37:=Tryz.isAgg48
 z37:=Tryz.sizeOf48
 v37:=Tryz.zeroValue48
 t70:=Tryz.underlying47
 a70:=Tryz.isAgg47
 z70:=Tryz.sizeOf47
 v70:=Tryz.zeroValue47
 t72:=Tryz.underlying50
 a72:=Tryz.isAgg50
 z72:=Tryz.sizeOf50
 v72:=Tryz.zeroValue50
 t75:=Tryz.underlying60
 a75:=Tryz.isAgg60
 z75:=Tryz.sizeOf60
 v75:=Tryz.zeroValue60
 t76:=Tryz.underlying74
 a76:=Tryz.isAgg74
 z76:=Tryz.sizeOf74
 v76:=Tryz.zeroValue74
 t127:=Tryz.underlying81
 a127:=Tryz.isAgg81
 z127:=Tryz.sizeOf81
 v127:=Tryz.zeroValue81
 t164:=Tryz.underlying100
 a164:=Tryz.isAgg100
 z164:=Tryz.sizeOf100
 v164:=Tryz.zeroValue100 }
theorem Tryz.Builder_Extra_156:Builder.Extra Tryz.prog Tryz.lays156_ren:={
 sizeBuilder:=by kernel_rfl
 liesBuilder:=by kernel_rfl
 t5:=Tryz.underlying5
 a5:=Tryz.isAgg5
 z5:=Tryz.sizeOf5
 v5:=Tryz.zeroValue5
 infoByte:=by kernel_rfl
 cellsByte:=by kernel_rfl
 sizeByte:=by kernel_rfl
 neB5:=by decide }
open Go.RowKit in
theorem Tryz.strings_Join_none(a : Option Addr)(c : Nat)(sep : ByteArray)(w : World) :
  Calls Tryz.prog 104 #[.slice a 0 c,.string sep] w fun e w'=>e=.returned (.string ⟨#[]⟩)/\w'=w:=Any.strings_Join_none Tryz.lays156 Tryz.Builder_Extra_156 a c sep w
open Go.RowKit in
theorem Tryz.strings_Join(bk o c : Nat)(xs : List ByteArray)(sep : ByteArray)(w : World)(hcells : ∀(j : Nat) x, xs[j]? =some x -> w.cell? ⟨bk, o+j, none⟩=some (.string x))(hbk : bk<w.heap.size)(hN : xs.length<=140737488355328)(hcap : xs.length<=c)(hlen : (Lib.join (xs.map (·.data.toList)) sep.data.toList).length<=140737488355328) :
  Calls Tryz.prog 104 #[.slice (some ⟨bk,o,none⟩) xs.length c,.string sep] w fun e w'=>e=.returned (.string ⟨(Lib.join (xs.map (·.data.toList)) sep.data.toList).toArray⟩)/\Below w.heap.size w w':=Any.strings_Join Tryz.lays156 Tryz.Builder_Extra_156 bk o c xs sep w hcells hbk hN hcap hlen
def Tryz.laysM171_ren:Go.Shelf.Ren:=⟨fun | 171=>154 | 243=>161 | 246=>170 | 283=>174 | 284=>175 | 285=>176 | 286=>177 | 129=>181 | 317=>180 | 318=>182 | 319=>183 | 320=>184 | 337=>185 | 338=>186 | n=>n,fun | 3=>3 | 9=>9 | 2=>2 | 4=>4 | 171=>161 | 0=>0 | 53=>97 | 37=>48 | 5=>5 | 173=>164 | 212=>168 | 51=>94 | 20=>20 | 213=>169 | 46=>76 | 232=>172 | 233=>173 | n=>n,fun | 17=>1 | 18=>2 | 19=>3 | n=>n⟩
theorem Tryz.laysM171:Go.Proofs.LaysM.n171 Tryz.prog Tryz.laysM171_ren:={
 mixed:=by kernel_rfl
 f129:=Tryz.func181.trans (congrArg some (by kernel_rfl))
 f171:=Tryz.func154.trans (congrArg some (by kernel_rfl))
 f243:=Tryz.func161.trans (congrArg some (by kernel_rfl))
 f246:=Tryz.func170.trans (congrArg some (by kernel_rfl))
 f283:=Tryz.func174.trans (congrArg some (by kernel_rfl))
 f284:=Tryz.func175.trans (congrArg some (by kernel_rfl))
 f285:=Tryz.func176.trans (congrArg some (by kernel_rfl))
 f286:=Tryz.func177.trans (congrArg some (by kernel_rfl))
 f317:=Tryz.func180.trans (congrArg some (by kernel_rfl))
 f318:=Tryz.func182.trans (congrArg some (by kernel_rfl))
 f319:=Tryz.func183.trans (congrArg some (by kernel_rfl))
 f320:=Tryz.func184.trans (congrArg some (by kernel_rfl))
 f337:=Tryz.func185.trans (congrArg some (by kernel_rfl))
 f338:=Tryz.func186.trans (congrArg some (by kernel_rfl))
 t0:=Tryz.underlying0
 a0:=Tryz.isAgg0
 z0:=Tryz.sizeOf0
 v0:=Tryz.zeroValue0
 t2:=Tryz.underlying2
 a2:=Tryz.isAgg2
 z2:=Tryz.sizeOf2
 v2:=Tryz.zeroValue2
 t3:=Tryz.underlying3
 a3:=Tryz.isAgg3
 z3:=Tryz.sizeOf3
 v3:=Tryz.zeroValue3
 t4:=Tryz.underlying4
 a4:=Tryz.isAgg4
 z4:=Tryz.sizeOf4
 v4:=Tryz.zeroValue4
 t5:=Tryz.underlying5
 a5:=Tryz.isAgg5
 z5:=Tryz.sizeOf5
 v5:=Tryz.zeroValue5
 t9:=Tryz.underlying9
 a9:=Tryz.isAgg9
 z9:=Tryz.sizeOf9
 v9:=Tryz.zeroValue9
 t20:=Tryz.underlying20
 a20:=Tryz.isAgg20
 z20:=Tryz.sizeOf20
 v20:=Tryz.zeroValue20
 t37:=Tryz.underlying48
 a37:=Tryz.isAgg48
 z37:=Tryz.sizeOf48
 v37:=Tryz.zeroValue48
 t46:=Tryz.underlying76
 a46:=Tryz.isAgg76
 z46:=Tryz.sizeOf76
 v46:=Tryz.zeroValue76
 t51:=Tryz.underlying94
 a51:=Tryz.isAgg94
 z51:=Tryz.sizeOf94
 v51:=Tryz.zeroValue94
 t53:=Tryz.underlying97
 a53:=Tryz.isAgg97
 z53:=Tryz.sizeOf97
 v53:=Tryz.zeroValue97
 t171:=Tryz.underlying161
 a171:=Tryz.isAgg161
 z171:=Tryz.sizeOf161
 v171:=Tryz.zeroValue161
 t173:=Tryz.underlying164
 a173:=Tryz.isAgg164
 z173:=Tryz.sizeOf164
 v173:=Tryz.zeroValue164
 t212:=Tryz.underlying168
 a212:=Tryz.isAgg168
 z212:=Tryz.sizeOf168
 v212:=Tryz.zeroValue168
 t213:=Tryz.underlying169
 a213:=Tryz.isAgg169
 z213:=Tryz.sizeOf169
 t232:=Tryz.underlying172
 a232:=Tryz.isAgg172
 z232:=Tryz.sizeOf172
 v232:=Tryz.zeroValue172
 t233:=Tryz.underlying173
 a233:=Tryz.isAgg173
 z233:=Tryz.sizeOf173
 v233:=Tryz.zeroValue173
 g17:=by kernel_rfl
 g18:=by kernel_rfl
 g19:=by kernel_rfl
 i0:=by kernel_rfl
 i2:=by kernel_rfl
 i3:=by kernel_rfl
 i4:=by kernel_rfl
 i5:=by kernel_rfl
 i9:=by kernel_rfl
 i20:=by kernel_rfl
 i37:=by kernel_rfl
 i46:=by kernel_rfl
 i51:=by kernel_rfl
 i53:=by kernel_rfl
 i171:=by kernel_rfl
 i173:=by kernel_rfl
 i212:=by kernel_rfl
 i232:=by kernel_rfl
 i233:=by kernel_rfl
 m17:=by kernel_rfl
 m18:=by kernel_rfl
 m19:=by kernel_rfl }
open Go.RowKit Go.Sort Go.Lib in
theorem Tryz.strconv_Itoa(n : Int)(h0 : -9223372036854775808 ≤ n)(h1 : n ≤ 9223372036854775807)(w : World)(htab : Lib.TabIs Tryz.prog w "internal/strconv.uint64pow10" .u64 Lib.pow10Tab) :
  Calls Tryz.prog 154 #[.int .i64 n] w fun e w'=>e=.returned (.string ⟨(Lib.itoa n).toArray⟩)/\∃k os,w'=grow (w.drewN k) os:=Any.strconv_Itoa Tryz.laysM171 n h0 h1 w htab
def Tryz.lays212_ren:Go.Shelf.Ren:=⟨fun | 212=>36 | 263=>60 | 264=>61 | n=>n,fun | 46=>76 | 51=>94 | 146=>95 | 53=>97 | 148=>98 | n=>n,fun | n=>n⟩
theorem Tryz.lays212:Go.Proofs.Lays.n212 Tryz.prog Tryz.lays212_ren:={
 mixed:=by kernel_rfl
 f212:=Tryz.func36.trans (congrArg some (by kernel_rfl))
 f263:=Tryz.func60.trans (congrArg some (by kernel_rfl))
 f264:=Tryz.func61.trans (congrArg some (by kernel_rfl))
 t46:=Tryz.underlying76
 a46:=Tryz.isAgg76
 z46:=Tryz.sizeOf76
 v46:=Tryz.zeroValue76
 t51:=Tryz.underlying94
 a51:=Tryz.isAgg94
 z51:=Tryz.sizeOf94
 v51:=Tryz.zeroValue94
 t53:=Tryz.underlying97
 a53:=Tryz.isAgg97
 z53:=Tryz.sizeOf97
 v53:=Tryz.zeroValue97
 t146:=Tryz.underlying95
 a146:=Tryz.isAgg95
 z146:=Tryz.sizeOf95
 v146:=Tryz.zeroValue95
 t148:=Tryz.underlying98
 a148:=Tryz.isAgg98
 z148:=Tryz.sizeOf98
 v148:=Tryz.zeroValue98 }
open Go.RowKit Go.Lib in
theorem Tryz.bits_Mul(x y : Nat)(hx : x<18446744073709551616)(hy : y<18446744073709551616)(w : World) :
  Calls Tryz.prog 36 #[.int .u64 x,.int .u64 y] w fun e w'=>e=.returned (.tuple #[.int .u64 ((x*y / 18446744073709551616:Nat):Int),.int .u64 ((x*y % 18446744073709551616:Nat):Int)])/\w'=w:=Any.bits_Mul Tryz.lays212 x y hx hy w
def Tryz.lays105_ren:Go.Shelf.Ren:=⟨fun | 105=>18 | 212=>36 | 99=>37 | 165=>38 | 166=>35 | 170=>39 | 169=>20 | 263=>60 | 264=>61 | 206=>62 | 240=>40 | 241=>63 | 276=>64 | 277=>86 | n=>n,fun | 9=>9 | 3=>3 | 4=>4 | 20=>20 | 0=>0 | 46=>76 | 109=>77 | 5=>5 | 72=>50 | 76=>74 | 51=>94 | 146=>95 | 53=>97 | 148=>98 | 70=>47 | 37=>48 | 75=>60 | 127=>81 | 164=>100 | 80=>62 | n=>n,fun | n=>n⟩
theorem Tryz.lays105:Go.Proofs.Lays.n105 Tryz.prog Tryz.lays105_ren:={
 mixed:=by kernel_rfl
 f99:=Tryz.func37.trans (congrArg some (by kernel_rfl))
 f105:=Tryz.func18.trans (congrArg some (by kernel_rfl))
 f165:=Tryz.func38.trans (congrArg some (by kernel_rfl))
 f166:=Tryz.func35.trans (congrArg some (by kernel_rfl))
 f169:=Tryz.func20.trans (congrArg some (by kernel_rfl))
 f170:=Tryz.func39.trans (congrArg some (by kernel_rfl))
 f206:=Tryz.func62.trans (congrArg some (by kernel_rfl))
 f212:=Tryz.func36.trans (congrArg some (by kernel_rfl))
 f240:=Tryz.func40.trans (congrArg some (by kernel_rfl))
 f241:=Tryz.func63.trans (congrArg some (by kernel_rfl))
 f263:=Tryz.func60.trans (congrArg some (by kernel_rfl))
 f264:=Tryz.func61.trans (congrArg some (by kernel_rfl))
 f276:=Tryz.func64.trans (congrArg some (by kernel_rfl))
 f277:=Tryz.func86.trans (congrArg some (by kernel_rfl))
 t0:=Tryz.underlying0
 a0:=Tryz.isAgg0
 z0:=Tryz.sizeOf0
 v0:=Tryz.zeroValue0
 t3:=Tryz.underlying3
 a3:=Tryz.isAgg3
 z3:=Tryz.sizeOf3
 v3:=Tryz.zeroValue3
 t4:=Tryz.underlying4
 a4:=Tryz.isAgg4
 z4:=Tryz.sizeOf4
 v4:=Tryz.zeroValue4
 t5:=Tryz.underlying5
 a5:=Tryz.isAgg5
 z5:=Tryz.sizeOf5
 v5:=Tryz.zeroValue5
 t9:=Tryz.underlying9
 a9:=Tryz.isAgg9
 z9:=Tryz.sizeOf9
 v9:=Tryz.zeroValue9
 t20:=Tryz.underlying20
 a20:=Tryz.isAgg20
 z20:=Tryz.sizeOf20
 v20:=Tryz.zeroValue20
 t37:=Tryz.underlying48
 a37:=Tryz.isAgg48
 z37:=Tryz.sizeOf48
 v37:=Tryz.zeroValue48
 t46:=Tryz.underlying76
 a46:=Tryz.isAgg76
 z46:=Tryz.sizeOf76
 v46:=Tryz.zeroValue76
 t51:=Tryz.underlying94
 a51:=Tryz.isAgg94
 z51:=Tryz.sizeOf94
 v51:=Tryz.zeroValue94
 t53:=Tryz.underlying97
 a53:=Tryz.isAgg97
 z53:=Tryz.sizeOf97
 v53:=Tryz.zeroValue97
 t70:=Tryz.underlying47
 a70:=Tryz.isAgg47
 z70:=Tryz.sizeOf47
 v70:=Tryz.zeroValue47
 t72:=Tryz.underlying50
 a72:=Tryz.isAgg50
 z72:=Tryz.sizeOf50
 v72:=Tryz.zeroValue50
 t75:=Tryz.underlying60
 a75:=Tryz.isAgg60
 z75:=Tryz.sizeOf60
 v75:=Tryz.zeroValue60
 t76:=Tryz.underlying74
 a76:=Tryz.isAgg74
 z76:=Tryz.sizeOf74
 v76:=Tryz.zeroValue74
 t109:=Tryz.underlying77
 a109:=Tryz.isAgg77
 z109:=Tryz.sizeOf77
 v109:=Tryz.zeroValue77
 t127:=Tryz.underlying81
 a127:=Tryz.isAgg81
 z127:=Tryz.sizeOf81
 v127:=Tryz.zeroValue81
 t146:=Tryz.underlying95
 a146:=Tryz.isAgg95
 z146:=Tryz.sizeOf95
 v146:=Tryz.zeroValue95
 t148:=Tryz.underlying98
 a148:=Tryz.isAgg98
 z148:=Tryz.sizeOf98
 v148:=Tryz.zeroValue98
 t164:=Tryz.underlying100
 a164:=Tryz.isAgg100
 z164:=Tryz.sizeOf100
 v164:=Tryz.zeroValue100 }
theorem Tryz.Builder_Extra_105:Builder.Extra Tryz.prog Tryz.lays105_ren:={
 sizeBuilder:=by kernel_rfl
 liesBuilder:=by kernel_rfl
 t5:=Tryz.underlying5
 a5:=Tryz.isAgg5
 z5:=Tryz.sizeOf5
 v5:=Tryz.zeroValue5
 infoByte:=by kernel_rfl
 cellsByte:=by kernel_rfl
 sizeByte:=by kernel_rfl
 neB5:=by decide }
open Go.RowKit Go.Lib in
theorem Tryz.strings_Repeat(s : ByteArray)(c : Nat)(w : World)(hc : c<=9223372036854775807)(hlen : s.size*c<=140737488355328) :
  Calls Tryz.prog 18 #[.string s,.int .i64 c] w fun e w'=>e=.returned (.string ⟨(Lib.repeatL s.data.toList c).toArray⟩)/\Below w.heap.size w w':=Any.strings_Repeat Tryz.lays105 Tryz.Builder_Extra_105 s c w hc hlen
end Go.Proofs
namespace Go.Proofs.YtnlplccjbojloaaGreatDoor
open Go Go.Ab
theorem mix:Tryz.prog.follows .mixedOrders=true:=by kernel_rfl
def SM{α:Type}(x:α):Prop:=x=x
def Z0:Int:=0
def Z1:Int:=1
def N0:Nat:=0
def N1:Nat:=1
def N2:Nat:=2
def N4:Nat:=4
def N6:Nat:=6
def U0:UInt8:=0
def LN{α:Type}(l:List α):Nat:=List.length l
def LI{α:Type}(l:List α):Int:=(↑(List.length l):Int)
def BI(l:List UInt8)(i:Nat):Int:=(↑(UInt8.toNat (List.getD l i (0:UInt8))):Int)
def NI(x:Nat):Int:=(↑x:Int)
def TN(x:Nat):Nat:=Int.toNat (↑x:Int)
def TL{α:Type}(l:List α):Nat:=Int.toNat (↑(List.length l):Int)
def GI(l:List Int)(i:Nat):Int:=List.getD l i (0:Int)
def ZI(a:Int):D:=D.int IntKind.i64 a
def ZB(a:Int):D:=D.int IntKind.u8 a
def SI(l:List Int):D:=D.sl 1 (List.length l) (fun i=>[D.int IntKind.i64 (List.getD l i (0:Int))]) Mode.any
abbrev Con:=Nat->List D->St->Option FnSpec
noncomputable def E0(con:Con)(n V:Nat)(cross:List Nat)(ord:Nat->List Nat×List Nat):Senv where
 P:=Tryz.prog
 tt:=IA tab
 n:=n
 dfs:=[]
 V:=V
 cross:=cross
 gh:=fun _=>[]
 gr:=[]
 unr:=fun _=>0
 cut:=fun _ _ _=>none
 ann:=fun _ _ _=>none
 ord:=ord
 con:=con
 eqs:=eqs
noncomputable def EC(con:Con)(n V:Nat)(cross:List Nat)(ord:Nat->List Nat×List Nat):Senv :=
 { E0 con n V cross ord with auto:=true,inl:=Bb4 { E0 con 0 0 [] (fun _=>([],[])) with auto:=true } (Oy BkW) 9 }
abbrev Eu:Con:=fun _ _ _=>none
theorem BL:ConOk Tryz.prog Eu:=fun _ _ _ _ h=>nomatch h
theorem eOk{con:Con}(hc:ConOk Tryz.prog con){E:Senv}(h:E={ EC con E.n E.V E.cross E.ord with gh:=E.gh,gr:=E.gr,unr:=E.unr,cut:=E.cut,ann:=E.ann,cut2:=E.cut2,ann2:=E.ann2,own:=E.own,gz:=E.gz,mg:=E.mg,pvt:=E.pvt,bcut:=E.bcut,bd:=E.bd }):EnvOk E:=by
 rw[h]
 exact⟨BdM,hc,mix,fun k ds S R h=>Bf6 (E:={ E0 con 0 0 [] (fun _=>([],[])) with auto:=true }) BdM hc mix Bii BeT 9 k ds S R h,BeT⟩
def pC(ds:List D)(d:D)(p:Prop):FnSpec where
 β:=Unit
 α:=Unit
 args:=fun _=>ds
 st:=fun _=>⟨[],[]⟩
 pre:=fun _=>p
 post:=fun _ _=>True
 res:=fun _ _=>.ret d
 out:=fun _ _=>⟨[],[]⟩
 fit:=some ()
def pQ{α:Type}(ds:List D)(d:α->D)(q:α->Prop)(p:Prop):FnSpec where
 β:=Unit
 α:=α
 args:=fun _=>ds
 st:=fun _=>⟨[],[]⟩
 pre:=fun _=>p
 post:=fun _ y=>q y
 res:=fun _ y=>.ret (d y)
 out:=fun _ _=>⟨[],[]⟩
 fit:=some ()
theorem Bmq(S:St):leS ⟨[],[]⟩ S:=by simp[leS,Bb,Go.Ab.nodupB,leO,leT]
theorem BZ{k : Nat}{ds : List D}{S : St}{us : List D}{d : D}{p : Prop}(h : p -> BD ds us /\ ACalls Tryz.prog k us ⟨[], []⟩ (SpecR (sC us d) ())) :
  (∀x,(pC us d p).pre x->ACalls Tryz.prog k ((pC us d p).args x) ((pC us d p).st x) (SpecR (pC us d p) x))/\(∀x,(pC us d p).fit=some x->(pC us d p).pre x->BD ds ((pC us d p).args x)/\leS ((pC us d p).st x) S)/\((pC us d p).all=true->∀x,(pC us d p).pre x->BD ds ((pC us d p).args x)/\(pC us d p).st x=S) :=
 ⟨fun _ hp=>(h hp).2.mono fun _ _ ⟨_,_h1,h2,h3⟩=>⟨(),trivial,h2,h3⟩,fun _ _ hp=>⟨(h hp).1,Bmq S⟩,fun e=>nomatch e⟩
theorem Gt{α:Type}[Inhabited α]{l:List α}{i:Nat}(h:i<l.length):l.drop i=l.getD i default::l.drop (i+1):=by
 rw[List.drop_eq_getElem_cons h]
 simp[List.getD_eq_getElem?_getD,h]
theorem B6{α:Type}[Inhabited α]{l:List α}{i:Nat}(h:i<l.length):l.take (i+1)=l.take i++[l.getD i default]:=by
 rw[List.take_add_one]
 simp[List.getD_eq_getElem?_getD,h]
def RT(p:Prop):Prop:=True/\∃(y:Unit),True/\p/\True/\True
def bsl(l:List UInt8)(m:Ab.Mode):D:=.sl 1 l.length (fun i=>[.int .u8 ((l.getD i 0).toNat:Int)]) m
def isl(l:List Int)(m:Ab.Mode):D:=.sl 1 l.length (fun i=>[.int .i64 (l.getD i 0)]) m
inductive Arr where
 |mk (kind:Int) (shape nums:List Int) (items:List Arr)
def Br(z:Int):Prop:=-9223372036854775808<=z/\z<=9223372036854775807
mutual
def Arr.row:Arr->List D
 |.mk k s n is=>[.int .i64 k,isl s .any,isl n .any,.sl 4 (Tr is).length (fun i=>(Tr is).getD i []) .any]
def Tr:List Arr->List (List D)
 | []=>[]
 |a::r=>a.row::Tr r
end
mutual
def Arr.ok:Arr->Prop
 |.mk k s n is=>Br k/\(∀z∈s,Br z)/\(∀z∈n,Br z)/\s.length<=maxLen/\n.length<=maxLen/\is.length<=maxLen/\okL is
def okL:List Arr->Prop
 | []=>True
 |a::r=>a.ok/\okL r
end
mutual
/-- Nothing in it is longer than a machine's memory. -/
def Arr.sm:Arr->Prop
 |.mk _ s n is=>s.length<=BC/\n.length<=BC/\is.length<=BC/\smL is
def smL:List Arr->Prop
 | []=>True
 |a::r=>a.sm/\smL r
end
theorem BfD:∀(l:List Arr),smL l↔∀a∈l,a.sm
 | []=>by simp[smL]
 |a::l=>by simp only[smL,List.forall_mem_cons,BfD l]
theorem Ch{n:Nat}(h:n<=BC):n<=maxLen:=Nat.le_trans h (by decide)
theorem GU:∀(l:List Arr),Tr l=l.map Arr.row
 | []=>rfl
 |a::l=>by simp only[Tr,List.map_cons,GU l]
theorem E7:∀(l:List Arr),okL l↔∀a∈l,a.ok
 | []=>by simp[okL]
 |a::l=>by simp only[okL,List.forall_mem_cons,E7 l]
def RInts:List D->Prop:=fun ds=>∃l:List Int,(∀z∈l,Br z)/\l.length<=BC/\ds=[isl l .any]
def RArr:List D->Prop:=fun ds=>∃a:Arr,(a.ok/\a.sm)/\ds=a.row
theorem Ek:∀x,RInt .i64 x->∃z,Br z/\x=[.int .i64 z]:=by
 rintro x ⟨n,rfl,h1,h2⟩
 simp only[IntKind.min,IntKind.max,IntKind.signed,IntKind.bits] at h1 h2
 exact⟨n,⟨by simpa using h1,by simp at h2;omega⟩,rfl⟩
theorem R0(W:World)(n:Nat):ReadAt Tryz.prog W n 34 RInts:=by
 cases n with
 |zero=>exact .zero _ _
 |succ n =>
  refine (GD (w:=1) Tryz.underlying34 (by kernel_rfl) (by decide) (by decide +kernel) (IQ Tryz.underlying3 W n)).weak ?_
  rintro _ ds vs ⟨l,h1,h2,rfl⟩ h
  obtain ⟨l',q,rfl⟩:=C5 Ek l h1
  refine⟨_,⟨l',q,by simpa using h2,rfl⟩,Cn _ _ ?_ _ _ h⟩
  simp only[isl,BD,Bn,Bb]
  refine⟨⟨by simp,by simp,fun i hi=>?_,by simp[BG]⟩,trivial⟩
  have hi:i<l'.length:=by simpa using hi
  simp[List.getD_eq_getElem?_getD,hi]
theorem BcK(W:World):∀n,ReadAt Tryz.prog W n 37 RArr
 |0=>.zero _ _
 |n+1=>by
  have hi:ReadAt Tryz.prog W n 35 (RSliceA 4 RArr):=by
   cases n with
   |zero=>exact .zero _ _
   |succ m=>exact GD (w:=4) Tryz.underlying35 (by kernel_rfl) (by decide) (by decide +kernel) (BcK W m)
  refine (Iy Tryz.underlying37 (by kernel_rfl) (Rs:=[RInt .i64,RInts,RInts,RSliceA 4 RArr]) ⟨IQ (by kernel_rfl) W n,R0 W n,R0 W n,hi,trivial⟩).mono ?_
  rintro ds ⟨_,_,h1,⟨_,_,h2,⟨_,_,h3,⟨_,_,h4,h5,rfl⟩,rfl⟩,rfl⟩,rfl⟩
  obtain rfl:_=[]:=h5
  obtain ⟨k,hk,rfl⟩:=Ek _ h1
  obtain ⟨s,s1,s2,rfl⟩:=h2
  obtain ⟨m,m1,m2,rfl⟩:=h3
  obtain ⟨l,l1,l2,rfl⟩:=h4
  obtain ⟨is,q,rfl⟩:=C5 (g:=Arr.row) (Q:=fun a=>a.ok/\a.sm) (fun x hx=>hx) l l1
  have l2:is.length<=BC:=by simpa using l2
  refine⟨.mk k s m is,⟨?_,?_⟩,?_⟩
  ·simp only[Arr.ok]
   exact⟨hk,s1,m1,Ch s2,Ch m2,Ch l2,(E7 _).2 fun a ha=>(q a ha).1⟩
  ·simp only[Arr.sm]
   exact⟨s2,m2,l2,(BfD _).2 fun a ha=>(q a ha).2⟩
  ·simp only[Arr.row,GU,List.cons_append,List.nil_append]
def gsl{α:Type}[Inhabited α](w:Nat)(g:α->List D)(l:List α):D:=.sl w l.length (fun i=>g (l.getD i default)) .any
instance:Inhabited Arr:=⟨.mk 0 [] [] []⟩
def DA:Arr:=Arr.mk (0:Int) [] [] []
def GA(l:List Arr)(i:Nat):Arr:=List.getD l i (Arr.mk (0:Int) [] [] [])
def Bio:List D->Int
 | [.int _ z]=>z
 |_=>0
def Bj(n:Nat)(f:Nat->List D):List Int:=(List.range n).map fun i=>Bio (f i)
theorem B0(l:List Int):Bj l.length (fun i=>[D.int .i64 (l.getD i 0)])=l:=by
 apply List.ext_getElem
 ·simp[Bj]
 ·intro i h1 h2
  simp[Bj,Bio,List.getD_eq_getElem?_getD,h2]
def IntsP(n:Nat)(f:Nat->List D):Prop:=∀i,i<n->f i=[.int .i64 (Bio (f i))]
theorem CB{n:Nat}{f:Nat->List D}{m:Ab.Mode}(h:IntsP n f):BD [.sl 1 n f m] [isl (Bj n f) .any]:=by
 simp only[isl,BD,Bn,Bb]
 refine⟨⟨by simp,by simp[Bj],fun i hi=>?_,by simp[BG]⟩,trivial⟩
 have e:(Bj n f).getD i 0=Bio (f i):=by simp[Bj,List.getD_eq_getElem?_getD,hi]
 rw[e]
 exact h i hi
def goO:List Int->Int->Option Int
 | [],p=>some p
 |d::r,p=>if d<0\/65536<d then none else if d=0 then goO r p else if 65536<p*d then none else goO r (p*d)
def E4(s:List Int):Bool:=decide (s.length<=8)&&(goO s 1).isSome
def CK(s:List Int):Int:=if s.contains 0 then 0 else (goO s 1).getD 0
structure GoHead (l:List Int) (i:Nat) (p:Int):Prop where
 hi:i<=l.length
 h1:1<=p
 h2:p<=65536
 hg:goO (l.drop i) p=goO l 1
theorem GoHead.init(l:List Int):GoHead l 0 1:=⟨Nat.zero_le _,by omega,by omega,by simp⟩
theorem Om{l:List Int}{i:Nat}(h:i<l.length):l.drop i=l.getD i 0::l.drop (i+1):=Gt h
theorem GoHead.step{l : List Int}{i : Nat}{p : Int}(h : GoHead l i p)(hlt : i<l.length) :
  (l.getD i 0<0->goO l 1=none)/\(65536<l.getD i 0->goO l 1=none)/\(l.getD i 0=0->GoHead l (i+1) p) /\
  (¬l.getD i 0<0->¬65536<l.getD i 0->0<=p*l.getD i 0/\p*l.getD i 0<=4294967296/\(65536<p*l.getD i 0->l.getD i 0≠0->goO l 1=none)/\(¬65536<p*l.getD i 0->l.getD i 0≠0->GoHead l (i+1) (p*l.getD i 0))):=by
 have hg:=h.hg
 rw[Om hlt,goO] at hg
 generalize l.getD i 0=d at *
 refine⟨fun h0=>?_,fun h0=>?_,fun h0=>?_,fun h0 h3=>?_⟩
 ·rw[if_pos (.inl h0)] at hg;exact hg.symm
 ·rw[if_pos (.inr h0)] at hg;exact hg.symm
 ·subst h0
  simp at hg
  exact⟨by omega,h.h1,h.h2,hg⟩
 ·have b1:0<=p*d:=Int.mul_nonneg (by have:=h.h1;omega) (by omega)
  have b2:p*d<=65536*65536:=Int.mul_le_mul h.h2 (by omega) (by omega) (by omega)
  refine⟨b1,by omega,fun h4 h5=>?_,fun h4 h5=>?_⟩
  ·rw[if_neg (by omega),if_neg h5,if_pos h4] at hg;exact hg.symm
  ·rw[if_neg (by omega),if_neg h5,if_neg h4] at hg
   refine⟨by omega,?_,by omega,hg⟩
   have:0<p*d:=Int.mul_pos (by have:=h.h1;omega) (by omega)
   omega
theorem GoHead.done{l:List Int}{i:Nat}{p:Int}(h:GoHead l i p)(hge:¬(i:Int)<l.length):goO l 1=some p:=by
 have hg:=h.hg
 have:i=l.length:=by have:=h.hi;omega
 rw[this,List.drop_length,goO] at hg
 exact hg.symm
noncomputable def Eright(l:List Int):Senv:={ EC Eu 31 1 [2,3,5,8,9,10,11,12,15,22,29] (fun _=>([],[])) with
 ann:=fun b _ _=>match b with
  |0=>some { slots:=[11,3],keep:=[9,10],α:=Nat×Int,st:=fun y=>([.int .i64 y.1,.int .i64 y.2],⟨[],[]⟩),inv:=fun y=>GoHead l y.1 y.2,mu:=fun y=>l.length-y.1 }
  |_=>none }
noncomputable section
def Qgr(a:List Int):Prop:=True/\∃(_y:Unit),True/\false=E4 a/\True/\True
def Qaf(a:List Int)(b:Nat)(c:Int):Prop:=GoHead a b c
def VQ(a:List Int)(b:Nat):Int:=GI a (Int.toNat (↑b:Int))
def Qgs(a:List Int)(b:Nat):Bool:=bif decide (VQ a b<Z0) then true else decide ((65536:Int)<VQ a b)
def QNF(a:List Int):D:=SI a
def Qno(a:List Int):Prop:=SM (QNF a)/\SM (ZI (LI a))/\True
end
theorem Bkq(l:List Int):ACalls Tryz.prog 133 [isl l .any] ⟨[],[]⟩ (SpecR (sC [isl l .any] (.bool (E4 l))) ()):=by
 refine Bg (A:=sC _ _) (x:=()) (E:=Eright l) (eOk BL rfl) Tryz.func133 rfl (by kernel_rfl) rfl (by simp[sC,Eright,EC,E0]) ?_
 refine Bi (T :=
  ifB (decide ((8:Int)<(LI l))) (Qgr l) ((∃(x:Nat×Int),Qaf l x.1 x.2/\(Z0=(NI x.1)/\Z1=x.2/\True)/\True/\True)/\∀(x:Nat×Int),Qaf l x.1 x.2->ifB (decide ((NI x.1)<(LI l))) (Bc (Z0<=(NI x.1)/\(NI x.1)<(LI l)) (ifB (decide (VQ l x.1<Z0)) (true=Qgs l x.1/\True) (decide ((65536:Int)<VQ l x.1)=Qgs l x.1/\True)/\ifB (Qgs l x.1) (Qgr l) (ifB (VQ l x.1==Z0) (Qno l/\∃(y:Nat×Int),Qaf l y.1 y.2/\LN l-y.1<LN l-x.1/\(IntKind.wrap IntKind.i64 ((NI x.1)+Z1)=(NI y.1)/\x.2=y.2/\True)/\True/\True) (ifB (decide ((65536:Int)<IntKind.wrap IntKind.i64 (x.2*VQ l x.1))) (Qgr l) (Qno l/\∃(y:Nat×Int),Qaf l y.1 y.2/\LN l-y.1<LN l-x.1/\(IntKind.wrap IntKind.i64 ((NI x.1)+Z1)=(NI y.1)/\IntKind.wrap IntKind.i64 (x.2*VQ l x.1)=y.2/\True)/\True/\True))))) (RT (true=E4 l)))) (by kernel_rfl) ?_
 delta GI LI LN N1 NI SI SM Z0 Z1 ZI Qgr Qaf VQ Qgs QNF Qno RT
 simp only[Int.toNat_natCast,Bf,Bd,decide_eq_true_eq,decide_eq_false_iff_not,true_and,and_true,beq_iff_eq,Bool.cond_true_left,beq_eq_false_iff_ne,ne_eq,exists_const]
 have no:goO l 1=none->false=E4 l:=fun h=>by simp[E4,h]
 refine⟨fun h=>?_,fun h8=>⟨⟨(0,1),GoHead.init l,rfl,rfl⟩,?_⟩⟩
 ·have:¬l.length<=8:=by omega
  simp[E4,this]
 rintro ⟨i,p⟩ hh
 simp only at hh ⊢
 refine⟨fun hlt=>?_,fun hge=>?_⟩
 rotate_left
 ·have:l.length<=8:=by omega
  simp[E4,hh.done hge,this]
 have hlt':i<l.length:=by omega
 obtain ⟨s1,s2,s3,s4⟩:=hh.step hlt'
 refine⟨by omega,⟨fun h=>by rw[decide_eq_true h];rfl,fun h=>by rw[decide_eq_false h];rfl⟩,fun h=>no ?_,fun h=>?_⟩
 ·rw[Bool.or_eq_true,decide_eq_true_eq,decide_eq_true_eq] at h
  exact h.elim s1 s2
 ·rw[Bool.or_eq_false_iff,decide_eq_false_iff_not,decide_eq_false_iff_not] at h
  obtain ⟨b1,b2,s5,s6⟩:=s4 h.1 h.2
  have hw:IntKind.i64.wrap (p*l.getD i 0)=p*l.getD i 0:=Ba (by omega) (by omega)
  rw[hw]
  exact⟨fun hd=>⟨(i+1,p),s3 hd,by simp only;omega,Ba (by omega) (by omega),rfl⟩,fun hd=>⟨fun h4=>no (s5 h4 hd),fun h4=>⟨(i+1,p*l.getD i 0),s6 h4 hd,by simp only;omega,Ba (by omega) (by omega),rfl⟩⟩⟩
noncomputable def Erprod(l:List Int):Senv:={ EC Eu 30 1 [2,3,4,8,15,20,28] (fun _=>([],[])) with
 ann:=fun b _ _=>match b with
  |0=>some { slots:=[4,3],keep:=[0],α:=Nat×Int,st:=fun y=>([.int .i64 y.1,.int .i64 y.2],⟨[],[]⟩),inv:=fun y=>GoHead l y.1 y.2,mu:=fun y=>l.length-y.1 }
  |_=>none }
noncomputable section
def Qag(a:List Int)(b:Nat)(c:Int):Prop:=GoHead a b c
def Qgt(a:List Int):Prop:=True/\∃(_y:Unit),True/\(65537:Int)=Option.getD (goO a Z1) (65537:Int)/\True/\True
def QNG(a:List Int):D:=SI a
def Qnp(a:List Int):Prop:=SM (QNG a)/\True
end
theorem BjU(l:List Int)(h0:∀z∈l,0<=z)(hl:l.length<=maxLen):ACalls Tryz.prog 158 [isl l .any] ⟨[],[]⟩ (SpecR (sC [isl l .any] (.int .i64 ((goO l 1).getD 65537))) ()):=by
 refine Bg (A:=sC _ _) (x:=()) (E:=Erprod l) (eOk BL rfl) Tryz.func158 rfl (by kernel_rfl) rfl (by simp[sC,Erprod,EC,E0]) ?_
 refine Bi (T :=
  (∃(x:Nat×Int),Qag l x.1 x.2/\(Z0=(NI x.1)/\Z1=x.2/\True)/\True/\True)/\∀(x:Nat×Int),Qag l x.1 x.2->ifB (decide ((NI x.1)<(LI l))) (Bc (Z0<=(NI x.1)/\(NI x.1)<(LI l)) (ifB (decide ((65536:Int)<GI l (TN x.1))) (Qgt l) (Bc (Z0<=(NI x.1)/\(NI x.1)<(LI l)) (ifB (decide (Z0<GI l (TN x.1))) (Bc (Z0<=(NI x.1)/\(NI x.1)<(LI l)) (ifB (decide ((65536:Int)<IntKind.wrap IntKind.i64 (x.2*GI l (TN x.1)))) (Qgt l) (Qnp l/\∃(y:Nat×Int),Qag l y.1 y.2/\LN l-y.1<LN l-x.1/\(IntKind.wrap IntKind.i64 ((NI x.1)+Z1)=(NI y.1)/\IntKind.wrap IntKind.i64 (x.2*GI l (TN x.1))=y.2/\True)/\True/\True))) (ifB (decide ((65536:Int)<x.2)) (Qgt l) (Qnp l/\∃(y:Nat×Int),Qag l y.1 y.2/\LN l-y.1<LN l-x.1/\(IntKind.wrap IntKind.i64 ((NI x.1)+Z1)=(NI y.1)/\x.2=y.2/\True)/\True/\True)))))) (RT (x.2=Option.getD (goO l Z1) (65537:Int)))) (by kernel_rfl) ?_
 delta GI LI LN N1 NI SI SM TN Z0 Z1 ZI Qag Qgt QNG Qnp RT
 simp only[Int.toNat_natCast,Bf,Bd,decide_eq_true_eq,decide_eq_false_iff_not,true_and,and_true,exists_const]
 have no:goO l 1=none->(65537:Int)=(goO l 1).getD 65537:=fun h=>by simp[h]
 refine⟨⟨(0,1),GoHead.init l,rfl,rfl⟩,?_⟩
 rintro ⟨i,p⟩ hh
 simp only at hh ⊢
 refine⟨fun hlt=>?_,fun hge=>by simp[hh.done hge]⟩
 have hlt':i<l.length:=by omega
 obtain ⟨s1,s2,s3,s4⟩:=hh.step hlt'
 have hd0:0<=l.getD i 0:=h0 _ (by rw[List.getD_eq_getElem?_getD,List.getElem?_eq_getElem hlt'];exact List.getElem_mem hlt')
 simp only[maxLen] at hl
 refine⟨by omega,fun h=>no (s2 h),fun h=>⟨by omega,?_⟩⟩
 obtain ⟨b1,b2,s5,s6⟩:=s4 (by omega) h
 have hw:IntKind.i64.wrap (p*l.getD i 0)=p*l.getD i 0:=Ba (by omega) (by omega)
 rw[hw]
 refine⟨fun hd=>⟨by omega,fun h4=>no (s5 h4 (by omega)),fun h4=>⟨(i+1,p*l.getD i 0),s6 h4 (by omega),by simp only;omega,Ba (by omega) (by omega),rfl⟩⟩,fun hd=>⟨fun h4=>absurd h4 (by have:=hh.h2;omega),fun _=>⟨(i+1,p),s3 (by omega),by simp only;omega,Ba (by omega) (by omega),rfl⟩⟩⟩
theorem Bh5(s:List UInt8)(n:Int)(h0:0<=n)(hn:n<=9223372036854775807)(hl:s.length*n.toNat<=140737488355328):ACalls Tryz.prog 18 [.str s,.int .i64 n] ⟨[],[]⟩ (SpecR (sC [.str s,.int .i64 n] (.str (Lib.repeatL s n.toNat))) ()):=by
 refine ACalls.of_shelf ⟨_,Tryz.func18,by kernel_rfl,by kernel_rfl⟩ fun C args w ha=>?_
 obtain ⟨u,v,e,hu,hv⟩:=IJ ha
 have e2:args=[u,v].toArray:=by rw[<- e]
 subst e2
 simp only[Rep] at hu hv;subst hu hv
 have:=Tryz.strings_Repeat ⟨s.toArray⟩ n.toNat w (by omega) (by simpa[ByteArray.size] using hl)
 rw[show ((n.toNat:Nat):Int)=n by omega] at this
 exact this.mono fun e w' ⟨h1,h2⟩=>⟨⟨_,h1,by simp[Rep]⟩,h2⟩
def BmF:Con:=fun k ds _=>match k with
 |18=>match ds with
  | [.str s,.int .i64 n]=>some (pC [.str s,.int .i64 n] (.str (Lib.repeatL s n.toNat)) (0<=n/\n<=9223372036854775807/\s.length*n.toNat<=140737488355328))
  |_=>none
 |_=>none
theorem Bga:ConOk Tryz.prog BmF:=by
 intro k ds S A h
 unfold BmF at h
 split at h
 ·split at h
  ·injection h with h;subst h
   exact BZ fun ⟨h1,h2,h3⟩=>⟨Bk _,Bh5 _ _ h1 h2 h3⟩
  ·cases h
 ·cases h
theorem OD(s:List UInt8):∀i,Lib.repeatL s i++s=Lib.repeatL s (i+1)
 |0=>by simp[Lib.repeatL]
 |i+1=>by rw[Lib.repeatL,List.append_assoc,OD s i,<- Lib.repeatL]
def Ig(p:Int->Bool):List Int->Nat->Int
 | [],_=>-1
 |d::r,i=>if p d then (i:Int) else Ig p r (i+1)
theorem Tc(p:Int->Bool):∀(l:List Int) (i:Nat),decide (0<=Ig p l i)=l.any p
 | [],i=>rfl
 |d::r,i=>by
  rw[Ig,List.any_cons]
  split
  ·rename_i h;rw[h];simp
  ·rename_i h
   rw[Tc p r (i+1)]
   simp[h]
structure IdxHead (p:Int->Bool) (l:List Int) (i:Nat):Prop where
 hi:i<=l.length
 hg:Ig p (l.drop i) i=Ig p l 0
theorem IdxHead.step{p:Int->Bool}{l:List Int}{i:Nat}(h:IdxHead p l i)(hlt:i<l.length):(p (l.getD i 0)=true->Ig p l 0=i)/\(p (l.getD i 0)=false->IdxHead p l (i+1)):=by
 have hg:=h.hg
 rw[Om hlt,Ig] at hg
 refine⟨fun e=>?_,fun e=>?_⟩
 ·rw[if_pos e] at hg;exact hg.symm
 ·rw[if_neg (by rw[e];exact Bool.false_ne_true)] at hg;exact⟨by omega,hg⟩
theorem IdxHead.done{p:Int->Bool}{l:List Int}{i:Nat}(h:IdxHead p l i)(hge:¬(i:Int)<l.length):Ig p l 0 = -1:=by
 have hg:=h.hg
 have:i=l.length:=by have:=h.hi;omega
 rw[this,List.drop_length,Ig] at hg
 exact hg.symm
def Bo0(p:Int->Bool)(l:List Int)(keep:List Nat):LoopAnn:={ slots:=[8],keep:=keep,α:=Nat,st:=fun i=>([.int .i64 i],⟨[],[]⟩),inv:=fun i=>IdxHead p l i,mu:=fun i=>l.length-i }
noncomputable def Eidx(l:List Int)(v:Int):Senv:={ EC Eu 19 2 [4,5,7,8,9,16] (fun _=>([],[])) with
 ann:=fun b _ _=>match b with
  |0=>some (Bo0 (fun d=>v==d) l [0,1,6,7])
  |_=>none }
noncomputable section
def Qgu(a:Int)(b:List Int)(c:Nat):Prop:=IdxHead (fun (d:Int)=>a==d) b c
def QNH(a:List Int):D:=SI a
end
theorem Bo3(l:List Int)(v:Int)(hl:l.length<=maxLen):ACalls Tryz.prog 169 [isl l .any,.int .i64 v] ⟨[],[]⟩ (SpecR (sC [isl l .any,.int .i64 v] (.int .i64 (Ig (fun d=>v==d) l 0))) ()):=by
 refine Bg (A:=sC _ _) (x:=()) (E:=Eidx l v) (eOk BL rfl) Tryz.func169 rfl (by kernel_rfl) rfl (by simp[sC,Eidx,EC,E0]) ?_
 refine Bi (T :=
  (∃(x:Nat),Qgu v l x/\(Z0=(↑x:Int)/\True)/\True/\True)/\∀(x:Nat),Qgu v l x->ifB (decide ((↑x:Int)<(LI l))) (Bc (Z0<=(↑x:Int)/\(↑x:Int)<(LI l)) (ifB (v==GI l (Int.toNat (↑x:Int))) (RT ((↑x:Int)=Ig (fun (d:Int)=>v==d) l N0)) ((SM (QNH l)/\SM (ZI v)/\SM D.unk/\SM (ZI (LI l))/\True)/\∃(y:Nat),Qgu v l y/\LN l-y<LN l-x/\(IntKind.wrap IntKind.i64 ((↑x:Int)+Z1)=(↑y:Int)/\True)/\True/\True))) (RT ((-1:Int)=Ig (fun (d:Int)=>v==d) l N0))) (by kernel_rfl) ?_
 delta GI LI LN N0 N1 SI SM Z0 Z1 ZI Qgu QNH RT
 simp only[Int.toNat_natCast,Bf,Bd,decide_eq_true_eq,decide_eq_false_iff_not,true_and,and_true,exists_const]
 simp only[maxLen] at hl
 refine⟨⟨0,⟨Nat.zero_le _,by simp⟩,rfl⟩,fun i hh=>⟨fun hlt=>?_,fun hge=>(hh.done hge).symm⟩⟩
 have hlt':i<l.length:=by omega
 obtain ⟨s1,s2⟩:=hh.step hlt'
 exact⟨by omega,fun h=>(s1 h).symm,fun h=>⟨i+1,s2 h,by omega,Ba (by omega) (by omega)⟩⟩
noncomputable def Eneg(l:List Int):Senv:={ EC Eu 19 2 [4,5,7,8,9,16] (fun _=>([],[])) with
 ann:=fun b _ _=>match b with
  |0=>some (Bo0 (fun d=>decide (d<0)) l [0,1,6,7])
  |_=>none }
noncomputable section
def Qgv(a:List Int)(b:Nat):Prop:=IdxHead (fun (d:Int)=>decide (d<Z0)) a b
def Qnq(a:List Int):Int:=Ig (fun (d:Int)=>decide (d<Z0)) a N0
def QNI(a:List Int):D:=SI a
end
theorem Bow(l:List Int)(hl:l.length<=maxLen):ACalls Tryz.prog 152 [isl l .any,.fn (.func 132) [] []] ⟨[],[]⟩ (SpecR (sC [isl l .any,.fn (.func 132) [] []] (.int .i64 (Ig (fun d=>decide (d<0)) l 0))) ()):=by
 refine Bg (A:=sC _ _) (x:=()) (E:=Eneg l) (eOk BL rfl) Tryz.func152 rfl (by kernel_rfl) rfl (by simp[sC,Eneg,EC,E0]) ?_
 refine Bi (T :=
  (∃(x:Nat),Qgv l x/\(Z0=(↑x:Int)/\True)/\True/\True)/\∀(x:Nat),Qgv l x->ifB (decide ((↑x:Int)<(LI l))) (Bc (Z0<=(↑x:Int)/\(↑x:Int)<(LI l)) (True/\ifB (decide (GI l (Int.toNat (↑x:Int))<Z0)) (RT ((↑x:Int)=Qnq l)) ((SM (QNI l)/\SM (D.fn (Fn.func (132:Nat)) [] [])/\SM D.unk/\SM (ZI (LI l))/\True)/\∃(y:Nat),Qgv l y/\LN l-y<LN l-x/\(IntKind.wrap IntKind.i64 ((↑x:Int)+Z1)=(↑y:Int)/\True)/\True/\True))) (RT ((-1:Int)=Qnq l))) (by kernel_rfl) ?_
 delta GI LI LN N0 N1 SI SM Z0 Z1 ZI Qgv Qnq QNI RT
 simp only[Int.toNat_natCast,Bf,Bd,decide_eq_true_eq,decide_eq_false_iff_not,true_and,and_true,exists_const]
 simp only[maxLen] at hl
 refine⟨⟨0,⟨Nat.zero_le _,by simp⟩,rfl⟩,fun i hh=>⟨fun hlt=>?_,fun hge=>(hh.done hge).symm⟩⟩
 have hlt':i<l.length:=by omega
 obtain ⟨s1,s2⟩:=hh.step hlt'
 exact⟨by omega,fun h=>(s1 (decide_eq_true h)).symm,fun h=>⟨i+1,s2 (decide_eq_false h),by omega,Ba (by omega) (by omega)⟩⟩
theorem BQ(l:List Int):IntsP l.length (fun i=>[D.int .i64 (l.getD i 0)]):=fun _ _=>rfl
def BaI:Con:=fun k ds S=>match k with
 |169=>match ds with
  | [.sl 1 n f _,.int .i64 v]=>some (pC ds (.int .i64 (Ig (fun d=>v==d) (Bj n f) 0)) (IntsP n f/\n<=maxLen))
  |_=>none
 |152=>match ds with
  | [.sl 1 n f _,.fn (.func 132) [] []]=>some (pC ds (.int .i64 (Ig (fun d=>decide (d<0)) (Bj n f) 0)) (IntsP n f/\n<=maxLen))
  |_=>none
 |133=>match ds with
  | [.sl 1 n f _]=>some (pC ds (.bool (E4 (Bj n f))) (IntsP n f))
  |_=>none
 |158=>match ds with
  | [.sl 1 n f _]=>some (pC ds (.int .i64 ((goO (Bj n f) 1).getD 65537)) (IntsP n f/\(∀z∈Bj n f,0<=z)/\n<=maxLen))
  |_=>none
 |k=>BmF k ds S
theorem BJ(n:Nat)(f:Nat->List D):(Bj n f).length=n:=by simp[Bj]
theorem Ca{k:Nat}{ds us:List D}{d:D}(hw:BD ds us)(h:ACalls Tryz.prog k us ⟨[],[]⟩ (SpecR (sC us d) ())):ACalls Tryz.prog k ds ⟨[],[]⟩ (SpecR (sC ds d) ()) :=
 (ACalls.weakArgs h hw).mono fun _ _ ⟨_,_h1,h2,h3⟩=>⟨(),trivial,h2,h3⟩
theorem Tb:ConOk Tryz.prog BaI:=by
 intro k ds S A h
 unfold BaI at h
 split at h
 ·split at h
  ·injection h with h;subst h
   exact BZ fun ⟨h1,h2⟩=>⟨Bk _,Ca (us:=[isl (Bj _ _) .any,_]) ⟨(CB h1).1,Bp _,trivial⟩ (Bo3 _ _ (by rw[BJ];exact h2))⟩
  ·cases h
 ·split at h
  ·injection h with h;subst h
   exact BZ fun ⟨h1,h2⟩=>⟨Bk _,Ca (us:=[isl (Bj _ _) .any,_]) ⟨(CB h1).1,Bp _,trivial⟩ (Bow _ (by rw[BJ];exact h2))⟩
  ·cases h
 ·split at h
  ·injection h with h;subst h
   exact BZ fun h1=>⟨Bk _,Ca (CB h1) (Bkq _)⟩
  ·cases h
 ·split at h
  ·injection h with h;subst h
   exact BZ fun ⟨h1,h2,h3⟩=>⟨Bk _,Ca (CB h1) (BjU _ h2 (by rw[BJ];exact h3))⟩
  ·cases h
 ·exact Bga _ _ _ _ h
noncomputable def Eprod(l:List Int):Senv:={ EC BaI 19 1 [2,3,5,7,8,9,10,11] (fun _=>([],[])) with
 ann:=fun b _ _=>match b with
  |0=>some { slots:=[10,3],keep:=[8,9],α:=Nat×Int,st:=fun y=>([.int .i64 y.1,.int .i64 y.2],⟨[],[]⟩),inv:=fun y=>GoHead l y.1 y.2,mu:=fun y=>l.length-y.1 }
  |_=>none }
noncomputable section
def QNJ(a:List Int):D:=SI a
end
theorem Bnn(l:List Int)(h:E4 l=true):ACalls Tryz.prog 153 [isl l .any] ⟨[],[]⟩ (SpecR (sC [isl l .any] (.int .i64 (CK l))) ()):=by
 refine Bg (A:=sC _ _) (x:=()) (E:=Eprod l) (eOk Tb rfl) Tryz.func153 rfl (by kernel_rfl) rfl (by simp[sC,Eprod,EC,E0]) ?_
 refine Bi (T :=
  ((IntsP (LN l) fun i=>[ZI (GI l i)])/\LN l<=9223372036854775807)/\∀(y:Unit),True->True/\ifB (decide (Z0<=Ig (fun (d:Int)=>Z0==d) (Bj (LN l) fun i=>[ZI (GI l i)]) N0)) (RT (Z0=CK l)) ((∃(x:Nat×Int),GoHead l x.1 x.2/\(Z0=(NI x.1)/\Z1=x.2/\True)/\True/\True)/\∀(x:Nat×Int),GoHead l x.1 x.2->ifB (decide ((NI x.1)<(LI l))) (Bc (Z0<=(NI x.1)/\(NI x.1)<(LI l)) ((SM (QNJ l)/\SM (ZI (LI l))/\True)/\∃(y:Nat×Int),GoHead l y.1 y.2/\LN l-y.1<LN l-x.1/\(IntKind.wrap IntKind.i64 ((NI x.1)+Z1)=(NI y.1)/\IntKind.wrap IntKind.i64 (x.2*GI l (TN x.1))=y.2/\True)/\True/\True)) (RT (x.2=CK l)))) (by kernel_rfl) ?_
 delta GI LI LN N0 N1 NI SI SM TN Z0 Z1 ZI QNJ RT
 simp only[B0,Tc,Int.toNat_natCast,Bf,Bd,decide_eq_true_eq,decide_eq_false_iff_not,true_and,and_true,exists_const]
 simp only[E4,Bool.and_eq_true,decide_eq_true_eq] at h
 have hcon:(l.any fun d=>0==d)=l.contains 0:=by
  rw[Bool.eq_iff_iff,List.contains_iff_mem,List.any_eq_true]
  constructor
  ·rintro ⟨z,hz,e⟩
   have e:0=z:=by simpa using e
   rw[e];exact hz
  ·exact fun hm=>⟨0,hm,rfl⟩
 rw[hcon]
 refine⟨⟨BQ l,by omega⟩,fun _ _=>⟨fun hz=>by rw[CK,if_pos hz],fun hz=>⟨⟨(0,1),GoHead.init l,rfl,rfl⟩,?_⟩⟩⟩
 rintro ⟨i,p⟩ hh
 simp only at hh ⊢
 refine⟨fun hlt=>?_,fun hge=>by rw[CK,if_neg (by rw[hz];exact Bool.false_ne_true),hh.done hge];rfl⟩
 have hlt':i<l.length:=by omega
 obtain ⟨s1,s2,s3,s4⟩:=hh.step hlt'
 have hne:l.getD i 0≠0:=by
  intro e
  have:l.contains 0=true:=by
   rw[List.contains_iff_mem,<- e,List.getD_eq_getElem?_getD,List.getElem?_eq_getElem hlt'];exact List.getElem_mem hlt'
  rw[this] at hz;cases hz
 have n1:¬l.getD i 0<0:=fun e=>by rw[s1 e] at h;exact absurd h.2 (by simp)
 have n2:¬65536<l.getD i 0:=fun e=>by rw[s2 e] at h;exact absurd h.2 (by simp)
 obtain ⟨b1,b2,s5,s6⟩:=s4 n1 n2
 have n3:¬65536<p*l.getD i 0:=fun e=>by rw[s5 e hne] at h;exact absurd h.2 (by simp)
 exact⟨by omega,(i+1,p*l.getD i 0),s6 n3 hne,by simp only;omega,Ba (by omega) (by omega),Ba (by omega) (by omega)⟩
noncomputable def Edims(l:List Int):Senv:={ EC BaI 21 1 [2,3,6,10,17,20] (fun _=>([],[])) with
 ann:=fun b _ _=>match b with
  |0=>some { slots:=[3],keep:=[0],α:=Nat,st:=fun i=>([.int .i64 i],⟨[],[]⟩),inv:=fun i=>i<=l.length/\∀z∈l.take i,0<=z,mu:=fun i=>l.length-i }
  |_=>none }
theorem Ba0:∀(l:List Int) (p:Int),p<=65536->∀q,goO l p=some q->q<=65536
 | [],p,hp,q,h=>by rw[goO] at h;injection h with h;omega
 |d::r,p,hp,q,h=>by
  rw[goO] at h
  split at h
  ·cases h
  ·split at h
   ·exact Ba0 r p hp q h
   ·split at h
    ·cases h
    ·exact Ba0 r _ (by omega) q h
def Ec(s:List Int):Int:=if 8<s.length then 15 else if s.any (fun d=>decide (d<0)) then 16 else if (goO s 1).isSome then 0 else 21
noncomputable section
def Qah(a:List Int):Int:=Ec a
def Qgw(a:Nat)(b:List Int):Prop:=a<=LN b/\∀(z:Int),z∈List.take a b->Z0<=z
def QNK(a:List Int):D:=SI a
def Qnr(a:List Int):List Int:=Bj (LN a) fun i=>[ZI (GI a i)]
end
theorem BmA(l:List Int):ACalls Tryz.prog 143 [isl l .any] ⟨[],[]⟩ (SpecR (sC [isl l .any] (.int .i64 (Ec l))) ()):=by
 refine Bg (A:=sC _ _) (x:=()) (E:=Edims l) (eOk Tb rfl) Tryz.func143 rfl (by kernel_rfl) rfl (by simp[sC,Edims,EC,E0]) ?_
 refine Bi (T :=
  ifB (decide ((8:Int)<(LI l))) (RT ((15:Int)=Qah l)) ((∃(x:Nat),Qgw x l/\(Z0=(↑x:Int)/\True)/\True/\True)/\∀(x:Nat),Qgw x l->ifB (decide ((↑x:Int)<(LI l))) (Bc (Z0<=(↑x:Int)/\(↑x:Int)<(LI l)) (ifB (decide (GI l (Int.toNat (↑x:Int))<Z0)) (RT ((16:Int)=Qah l)) ((SM (QNK l)/\True)/\∃(y:Nat),Qgw y l/\LN l-y<LN l-x/\(IntKind.wrap IntKind.i64 ((↑x:Int)+Z1)=(↑y:Int)/\True)/\True/\True))) (((IntsP (LN l) fun i=>[ZI (GI l i)])/\(∀(z:Int),z∈Qnr l->Z0<=z)/\LN l<=9223372036854775807)/\∀(y:Unit),True->ifB (decide ((65536:Int)<Option.getD (goO (Qnr l) Z1) (65537:Int))) (RT ((21:Int)=Qah l)) (RT (Z0=Qah l))))) (by kernel_rfl) ?_
 delta GI LI LN N1 SI SM Z0 Z1 ZI Qah Qgw QNK Qnr RT
 simp only[B0,Int.toNat_natCast,Bf,Bd,decide_eq_true_eq,decide_eq_false_iff_not,true_and,and_true,exists_const]
 have tk:∀i,i<l.length->∀P:Int->Prop,(∀z∈l.take i,P z)->P (l.getD i 0)->∀z∈l.take (i+1),P z:=fun i hi P h1 h2 z hz=>by
  rw[List.take_add_one,List.mem_append] at hz
  rcases hz with hz | hz
  ·exact h1 z hz
  ·rw[List.getElem?_eq_getElem hi] at hz
   simp at hz
   rw[hz]
   simpa[List.getD_eq_getElem?_getD,hi] using h2
 refine⟨fun h=>?_,fun h8=>⟨⟨0,⟨Nat.zero_le _,by simp⟩,rfl⟩,fun i hh=>⟨fun hlt=>?_,fun hge=>?_⟩⟩⟩
 ·have:8<l.length:=by omega
  simp[Ec,this]
 ·have hlt':i<l.length:=by omega
  have h8':¬8<l.length:=by omega
  refine⟨by omega,fun h=>?_,fun h=>⟨i+1,⟨by omega,tk i hlt' _ hh.2 (by omega)⟩,by omega,Ba (by omega) (by omega)⟩⟩
  have:l.any (fun d=>decide (d<0))=true:=by
   rw[List.any_eq_true]
   refine⟨l.getD i 0,?_,decide_eq_true h⟩
   rw[List.getD_eq_getElem?_getD,List.getElem?_eq_getElem hlt'];exact List.getElem_mem hlt'
  rw[Ec,if_neg h8',if_pos this]
 ·have hi:i=l.length:=by omega
  rw[hi,List.take_length] at hh
  have h8':¬8<l.length:=by omega
  have hnn:¬l.any (fun d=>decide (d<0))=true:=by
   rw[List.any_eq_true]
   rintro ⟨z,hz,h⟩
   have:=hh.2 z hz
   simp at h
   omega
  refine⟨⟨BQ l,hh.2,by omega⟩,fun _ _=>?_⟩
  rw[Ec,if_neg h8',if_neg hnn]
  have hb:=Ba0 l 1 (by omega)
  cases hg:goO l 1 with
  |none=>simp
  |some p=>have:=hb p hg;simp;omega
noncomputable def Ecount(l:List Int):Senv:={ EC BaI 17 1 [2,3,7,14] (fun _=>([],[])) with
 ann:=fun b _ _=>match b with
  |0=>some { slots:=[3],keep:=[0],α:=Nat,st:=fun i=>([.int .i64 i],⟨[],[]⟩),inv:=fun i=>i<=l.length/\∀z∈l.take i,z≠0,mu:=fun i=>l.length-i }
  |_=>none }
noncomputable section
def Qgx(a:Nat)(b:List Int):Prop:=a<=LN b/\∀(z:Int),z∈List.take a b->z≠Z0
def QNL(a:List Int):D:=SI a
def Qns(a:List Int):List Int:=Bj (LN a) fun i=>[ZI (GI a i)]
end
theorem Bkh(l:List Int)(h:Ec l=0):ACalls Tryz.prog 145 [isl l .any] ⟨[],[]⟩ (SpecR (sC [isl l .any] (.int .i64 (CK l))) ()):=by
 refine Bg (A:=sC _ _) (x:=()) (E:=Ecount l) (eOk Tb rfl) Tryz.func145 rfl (by kernel_rfl) rfl (by simp[sC,Ecount,EC,E0]) ?_
 refine Bi (T :=
  (∃(x:Nat),Qgx x l/\(Z0=(↑x:Int)/\True)/\True/\True)/\∀(x:Nat),Qgx x l->ifB (decide ((↑x:Int)<(LI l))) (Bc (Z0<=(↑x:Int)/\(↑x:Int)<(LI l)) (ifB (GI l (Int.toNat (↑x:Int))==Z0) (RT (Z0=CK l)) ((SM (QNL l)/\True)/\∃(y:Nat),Qgx y l/\LN l-y<LN l-x/\(IntKind.wrap IntKind.i64 ((↑x:Int)+Z1)=(↑y:Int)/\True)/\True/\True))) (((IntsP (LN l) fun i=>[ZI (GI l i)])/\(∀(z:Int),z∈Qns l->Z0<=z)/\LN l<=9223372036854775807)/\∀(y:Unit),True->RT (Option.getD (goO (Qns l) Z1) (65537:Int)=CK l))) (by kernel_rfl) ?_
 delta GI LI LN N1 SI SM Z0 Z1 ZI Qgx QNL Qns RT
 simp only[B0,Int.toNat_natCast,Bf,Bd,decide_eq_true_eq,decide_eq_false_iff_not,true_and,and_true,exists_const]
 have tk:∀i,i<l.length->∀P:Int->Prop,(∀z∈l.take i,P z)->P (l.getD i 0)->∀z∈l.take (i+1),P z:=fun i hi P h1 h2 z hz=>by
  rw[List.take_add_one,List.mem_append] at hz
  rcases hz with hz | hz
  ·exact h1 z hz
  ·rw[List.getElem?_eq_getElem hi] at hz
   simp at hz
   rw[hz]
   simpa[List.getD_eq_getElem?_getD,hi] using h2
 have hl8:l.length<=8:=by
  unfold Ec at h
  split at h
  ·cases h
  ·omega
 have hnn:∀z∈l,0<=z:=by
  intro z hz
  unfold Ec at h
  split at h
  ·cases h
  ·split at h
   ·cases h
   ·rename_i hn
    rw[List.any_eq_true] at hn
    by_cases h0:z<0
    ·exact (hn ⟨z,hz,decide_eq_true h0⟩).elim
    ·omega
 have hg:(goO l 1).isSome=true:=by
  unfold Ec at h
  (repeat' split at h)<;>first | assumption | (cases h;done)
 refine⟨⟨0,⟨Nat.zero_le _,by simp⟩,rfl⟩,fun i hh=>⟨fun hlt=>?_,fun hge=>?_⟩⟩
 ·have hlt':i<l.length:=by omega
  refine⟨by omega,fun h=>?_,fun h=>⟨i+1,⟨by omega,tk i hlt' _ hh.2 (by simpa using h)⟩,by omega,Ba (by omega) (by omega)⟩⟩
  have h0:l.getD i 0=0:=by simpa using h
  have:l.contains 0=true:=by
   rw[List.contains_iff_mem,<- h0,List.getD_eq_getElem?_getD,List.getElem?_eq_getElem hlt'];exact List.getElem_mem hlt'
  rw[CK,if_pos this]
 ·have hi:i=l.length:=by omega
  rw[hi,List.take_length] at hh
  refine⟨⟨BQ l,hnn,by omega⟩,fun _ _=>?_⟩
  have:¬l.contains 0=true:=by
   rw[List.contains_iff_mem]
   exact fun hm=>hh.2 0 hm rfl
  rw[CK,if_neg this]
  cases hgo:goO l 1 with
  |none=>rw[hgo] at hg;cases hg
  |some p=>rfl
def B8(k:Int)(s:List Int)(nn ni:Nat):Int :=
 if k=1\/k=2\/k=3 then
  if Ec s≠0 then Ec s
  else if ((if k=3 then (ni:Int) else nn)≠CK s)\/((if k=3 then (nn:Int) else ni)≠0) then 16 else 0
 else 14
def Up:Con:=fun k ds S=>match k with
 |153=>match ds with
  | [.sl 1 n f _]=>some (pC ds (.int .i64 (CK (Bj n f))) (IntsP n f/\E4 (Bj n f)=true))
  |_=>none
 |143=>match ds with
  | [.sl 1 n f _]=>some (pC ds (.int .i64 (Ec (Bj n f))) (IntsP n f))
  |_=>none
 |145=>match ds with
  | [.sl 1 n f _]=>some (pC ds (.int .i64 (CK (Bj n f))) (IntsP n f/\Ec (Bj n f)=0))
  |_=>none
 |k=>BaI k ds S
theorem IX:ConOk Tryz.prog Up:=by
 intro k ds S A h
 unfold Up at h
 split at h
 ·split at h
  ·injection h with h;subst h
   exact BZ fun ⟨h1,h2⟩=>⟨Bk _,Ca (CB h1) (Bnn _ h2)⟩
  ·cases h
 ·split at h
  ·injection h with h;subst h
   exact BZ fun h1=>⟨Bk _,Ca (CB h1) (BmA _)⟩
  ·cases h
 ·split at h
  ·injection h with h;subst h
   exact BZ fun ⟨h1,h2⟩=>⟨Bk _,Ca (CB h1) (Bkh _ h2)⟩
  ·cases h
 ·exact Tb _ _ _ _ h
noncomputable def Eform:Senv:=EC Up 44 5 [12,13,16,20,25,29,34] (fun id=>match id with | 1=>([0,1,2,3,4,5,6,7],[]) | _=>([],[]))
noncomputable section
def Zg(a:Int)(b:List Int)(c d:Nat):Int:=B8 a b c d
def Qnt(a:Int)(b:List Int)(c d:Nat):Prop:=RT ((15:Int)=Zg a b c d)
def XF(a:List Int):Prop:=IntsP (LN a) fun i=>[ZI (GI a i)]
def Qnu(a:List Int):Prop:=XF a/\LN a<=9223372036854775807
def Qgy(a:List Int):List Int:=Bj (LN a) fun i=>[ZI (GI a i)]
def Qnv(a:List Int):Bool:=decide (Z0<=Ig (fun (d:Int)=>decide (d<Z0)) (Qgy a) N0)
def VR(a:Int)(b:List Int)(c d:Nat):Prop:=RT ((16:Int)=Zg a b c d)
def Qnw(a:List Int):Bool:=E4 (Qgy a)
def Qai(a:List Int):Bool:=!Qnw a
def Qnx(a:Int)(b:List Int)(c d:Nat):Prop:=RT ((21:Int)=Zg a b c d)
def Qny(a:Int)(b:List Int)(c d:Nat):Prop:=True/\VR a b c d
def Qnz(a:List Int):Prop:=XF a/\Qnw a=true
def QnA(a:Nat)(b:List Int):Bool:=(↑a:Int) != CK (Qgy b)
def QnB(a:Int)(b:List Int)(c d:Nat):Prop:=RT (Z0=Zg a b c d)
def QnC(a:Nat)(b:List Int)(c:Int)(d e:Nat):Prop:=SM a/\ifB (decide ((8:Int)<(LI b))) (Qnt c b d e) (SM a/\Qnu b/\∀(y:Unit),True->True/\ifB (Qnv b) (VR c b d e) (SM a/\XF b/\∀(y:Unit),True->ifB (Qai b) (Qnx c b d e) (SM a/\XF b/\∀(y:Unit),True->ifB (Qai b) (Qny c b d e) (Qnz b/\∀(y:Unit),True->True/\ifB (QnA d b) (VR c b d e) (ifB ((↑e:Int) != Z0) (VR c b d e) (QnB c b d e))))))
def QnD(a:Int)(b:Nat)(c:List Int)(d e:Nat):Prop:=ifB (a==3) (SM b/\ifB (decide ((8:Int)<(LI c))) (Qnt a c d e) (SM b/\Qnu c/\∀(y:Unit),True->True/\ifB (Qnv c) (VR a c d e) (SM b/\XF c/\∀(y:Unit),True->ifB (Qai c) (Qnx a c d e) (SM b/\XF c/\∀(y:Unit),True->ifB (Qai c) (Qny a c d e) (Qnz c/\∀(y:Unit),True->True/\ifB (QnA e c) (VR a c d e) (ifB ((↑d:Int) != Z0) (VR a c d e) (QnB a c d e))))))) (RT ((14:Int)=Zg a c d e))
end
theorem Bnl(k : Int)(s : List Int)(nn ni : Nat)(g h : Nat -> List D)(hs : s.length<=maxLen)(hn : nn<=maxLen)(hi : ni<=maxLen) :
  ACalls Tryz.prog 116 [.agg [.int .i64 k,isl s .any,.sl 1 nn g .any,.sl 4 ni h .any]] ⟨[],[]⟩ (SpecR (sC [.agg [.int .i64 k,isl s .any,.sl 1 nn g .any,.sl 4 ni h .any]] (.int .i64 (B8 k s nn ni))) ()):=by
 refine Bg (A:=sC _ _) (x:=()) (E:=Eform) (eOk IX rfl) Tryz.func116 rfl (by kernel_rfl) rfl (by simp[sC,Eform,EC,E0]) ?_
 refine Bi (T :=
  ∀(x:Nat),True->SM x/\SM x/\SM x/\ifB (k==Z1) (ifB (k==Z1) (QnC x s k nn ni) (QnD k x s nn ni)) (ifB (k==2) (QnC x s k nn ni) (QnD k x s nn ni))) (by kernel_rfl) ?_
 delta GI LI LN N0 SM Z0 Z1 ZI Zg Qnt Qny Qnz QnA QnB QnC QnD XF Qnu Qgy Qnv VR Qnw Qai Qnx RT
 simp only[B0,Tc,Int.toNat_natCast,Bf,Bd,decide_eq_true_eq,decide_eq_false_iff_not,true_and,and_true,beq_iff_eq,bne_iff_ne,Bool.cond_false_right,Bool.cond_true_left,Bool.and_eq_true,Bool.and_eq_false_iff,beq_eq_false_iff_ne,ne_eq,exists_const,forall_const]
 simp only[maxLen] at hs hn hi
 have n8:(8<(s.length:Int))↔8<s.length:=by omega
 simp only[n8]
 repeat' (first
  |exact BQ s
  |refine And.intro ?_ ?_
  |intro _)
 all_goals first
  |omega
  |(simp_all[B8,Ec,E4];done)
  |grind [B8,Ec,E4]
  |skip
 all_goals trace_state
def Arr.k:Arr->Int | .mk k _ _ _=>k
def Arr.sh:Arr->List Int | .mk _ s _ _=>s
def Arr.nu:Arr->List Int | .mk _ _ n _=>n
def Arr.it:Arr->List Arr | .mk _ _ _ i=>i
def Arr.row1(a:Arr):List D:=[.int .i64 a.k,isl a.sh .any,isl a.nu .any,gsl 4 Arr.row a.it]
def Arr.row2(a:Arr):List D:=[.int .i64 a.k,isl a.sh .any,isl a.nu .any,gsl 4 Arr.row1 a.it]
theorem Bgd(l:List Arr):(Tr l).length=l.length:=by rw[GU];simp
theorem Bju(a:Arr):wkL a.row a.row1:=by
 cases a with
 |mk k s n is =>
  simp only[Arr.row,Arr.row1,Arr.k,Arr.sh,Arr.nu,Arr.it,gsl,isl,wkL,wkD,Bn,Bb]
  refine⟨⟨by simp[kEq],trivial⟩,⟨by simp,trivial,fun i _=>by simp[kEq],by simp[BG]⟩,⟨by simp,trivial,fun i _=>by simp[kEq],by simp[BG]⟩,⟨by simp,Bgd is,fun i hi=>?_,by simp[BG]⟩,trivial⟩
  rw[Bgd] at hi
  have:(Tr is).getD i []=(is.getD i default).row:=by
   rw[GU];simp[List.getD_eq_getElem?_getD,hi]
  rw[this]
  exact Be _
theorem GN(a:Arr):wkL a.row1 a.row2:=by
 simp only[Arr.row1,Arr.row2,gsl,isl,wkL,wkD,Bn,Bb]
 exact⟨⟨by simp[kEq],trivial⟩,⟨by simp,trivial,fun i _=>by simp[kEq],by simp[BG]⟩,⟨by simp,trivial,fun i _=>by simp[kEq],by simp[BG]⟩,⟨by simp,trivial,fun i _=>Bju _,by simp[BG]⟩,trivial⟩
def Bby(z:Int):Bool:=decide (-4611686018427387903<=z)&&decide (z<=4611686018427387903)
def Wr(z:Int):Bool:=decide (0<=z)&&decide (z<=1114111)&&(decide (z<55296)||decide (57343<z))
def Ga(k z:Int):Bool:=(k==1&&!Bby z)||(k==2&&!Wr z)
mutual
def Bu:Arr->Int×Int×Int
 |.mk k s n is =>
  if B8 k s n.length is.length≠0 then (B8 k s n.length is.length,0,0)
  else if n.any (Ga k) then (17,0,0)
  else match C6 is 0 ((n.length:Int)+is.length) with
   |none=>(17,0,0)
   |some r=>if 16<r.1\/262144<r.2 then (21,0,0) else (0,r.1,r.2)
def C6:List Arr->Int->Int->Option (Int×Int)
 | [],d,w=>some (d,w)
 |x::r,d,w=>if (Bu x).1≠0 then none else C6 r (if d<(Bu x).2.1+1 then (Bu x).2.1+1 else d) (if 262145<w+(Bu x).2.2 then 262145 else w+(Bu x).2.2)
end
theorem BbX:∀(l:List Arr) (d w d' w':Int),C6 l d w=some (d',w')->0<=d->0<=w->(∀x∈l,(Bu x).1=0->0<=(Bu x).2.1/\0<=(Bu x).2.2)->0<=d'/\0<=w'
 | [],d,w,d',w',h,h1,h2,_=>by
  rw[C6] at h;injection h with h;injection h with e1 e2;omega
 |x::r,d,w,d',w',h,h1,h2,h3=>by
  rw[C6] at h
  split at h
  ·cases h
  ·rename_i hx
   have hx:(Bu x).1=0:=by simpa using hx
   have:=h3 x (by simp) hx
   refine BbX r _ _ d' w' h ?_ ?_ fun y hy=>h3 y (by simp[hy])
   ·split<;>omega
   ·split<;>omega
theorem Ef:∀(a:Arr),(0<=(Bu a).2.1/\(Bu a).2.1<=16)/\0<=(Bu a).2.2/\(Bu a).2.2<=262144
 |.mk k s n is=>by
  rw[Bu]
  split
  ·simp
  ·split
   ·simp
   ·split
    ·simp
    ·rename_i r hr
     split
     ·simp
     ·rename_i hb
      have:=BbX is 0 _ r.1 r.2 hr (by omega) (by omega) fun x hx _=>by
       have:=Ef x
       omega
      simp only
      omega
termination_by a=>SizeOf.sizeOf a
decreasing_by
 have:=List.sizeOf_lt_of_mem hx
 simp;omega
noncomputable def Enum:Senv:=EC Eu 9 1 [2] (fun _=>([],[]))
noncomputable section
def Qgz(a:Int):Bool:=bif decide ((-4611686018427387903:Int)<=a) then decide (a<=4611686018427387903) else false
end
theorem Bpf(z:Int):ACalls Tryz.prog 117 [.int .i64 z] ⟨[],[]⟩ (SpecR (sC [.int .i64 z] (.bool (Bby z))) ()):=by
 refine Bg (A:=sC _ _) (x:=()) (E:=Enum) (eOk BL rfl) Tryz.func117 rfl (by kernel_rfl) rfl (by simp[sC,Enum,EC,E0]) ?_
 refine Bi (T :=
  ifB (decide ((-4611686018427387903:Int)<=z)) (decide (z<=4611686018427387903)=Qgz z/\True) (false=Qgz z/\True)/\RT (Qgz z=Bby z)) (by kernel_rfl) ?_
 delta Qgz RT
 simp only[Bf,decide_eq_true_eq,decide_eq_false_iff_not,true_and,and_true,Bool.cond_false_right,exists_const]
 refine⟨⟨fun h=>by rw[decide_eq_true h];rfl,fun h=>by rw[decide_eq_false h];rfl⟩,rfl⟩
noncomputable def Echr:Senv:=EC Eu 17 1 [2] (fun _=>([],[]))
noncomputable section
def Qaj(a:Int):Bool:=bif bif decide (Z0<=a) then decide (a<=1114111) else false then bif decide (a<55296) then true else decide ((57343:Int)<a) else false
def QnE(a:Int):Prop:=false=Qaj a/\True
end
theorem BoE(z:Int):ACalls Tryz.prog 118 [.int .i64 z] ⟨[],[]⟩ (SpecR (sC [.int .i64 z] (.bool (Wr z))) ()):=by
 refine Bg (A:=sC _ _) (x:=()) (E:=Echr) (eOk BL rfl) Tryz.func118 rfl (by kernel_rfl) rfl (by simp[sC,Echr,EC,E0]) ?_
 refine Bi (T :=
  ifB (decide (Z0<=z)) (ifB (decide (z<=1114111)) (ifB (decide (z<55296)) (true=Qaj z/\True) (decide ((57343:Int)<z)=Qaj z/\True)) (QnE z)) (QnE z)/\RT (Qaj z=Wr z)) (by kernel_rfl) ?_
 delta Z0 Qaj QnE RT
 simp only[Bf,decide_eq_true_eq,decide_eq_false_iff_not,true_and,and_true,Bool.cond_false_right,Bool.cond_true_left,exists_const]
 refine⟨⟨fun h1=>⟨fun h2=>⟨fun h3=>by simp[h1,h2,h3],fun h3=>by simp[h1,h2,h3]⟩,fun h2=>by simp[h1,h2]⟩,fun h1=>by simp[h1]⟩,rfl⟩
def IC(row:Arr->List D)(xb:Nat)(q:Arr->Prop):FnSpec where
 β:=Arr
 α:=Unit
 args:=fun a=>[.agg (row a),.ref 1 xb 0]
 st:=fun _=>⟨[(1,xb,.cells [.fn (.func 115) [] [.ref 1 xb 0]])],[]⟩
 pre:=q
 post:=fun _ _=>True
 res:=fun a _=>.ret (.tup [.int .i64 (Bu a).1,.int .i64 (Bu a).2.1,.int .i64 (Bu a).2.2])
 out:=fun _ _=>⟨[(1,xb,.cells [.fn (.func 115) [] [.ref 1 xb 0]])],[]⟩
def Bei(xb:Nat)(its:List Arr):Con:=fun k ds S=>match k with
 |115=>some (IC Arr.row1 xb (fun b=>b∈its))
 |116=>match ds with
  | [.agg [.int .i64 k,.sl 1 n f _,.sl 1 nn _g _,.sl 4 ni _h _]]=>some (pC ds (.int .i64 (B8 k (Bj n f) nn ni)) (IntsP n f/\n<=maxLen/\nn<=maxLen/\ni<=maxLen))
  |_=>none
 |117=>match ds with
  | [.int .i64 z]=>some (pC [.int .i64 z] (.bool (Bby z)) True)
  |_=>none
 |118=>match ds with
  | [.int .i64 z]=>some (pC [.int .i64 z] (.bool (Wr z)) True)
  |_=>none
 |k=>Up k ds S
theorem BhE{xb:Nat}{its:List Arr}(ih:∀b∈its,ACalls Tryz.prog 115 ((IC Arr.row2 xb (fun _=>True)).args b) ((IC Arr.row2 xb (fun _=>True)).st b) (SpecR (IC Arr.row2 xb (fun _=>True)) b)):ConOk Tryz.prog (Bei xb its):=by
 intro k ds S A h
 unfold Bei at h
 split at h
 ·injection h with h;subst h
  refine ConOk.plain (fun b hb=>?_) rfl rfl
  refine ((ih b hb).wkArgs ?_).mono fun _ _ ⟨y,h1,h2,h3⟩=>⟨y,h1,h2,h3⟩
  simp only[IC,wkL,wkD]
  exact⟨GN b,by simp[Bn,Bb]⟩
 ·split at h
  ·rename_i k n f _ nn g _ ni g' _
   injection h with h;subst h
   refine BZ fun ⟨h1,h2,h3,h4⟩=>⟨Bk _,Ca (us:=[.agg [.int .i64 k,isl (Bj n f) .any,.sl 1 nn g .any,.sl 4 ni g' .any]]) ?_ (Bnl _ _ _ _ _ _ (by rw[BJ];exact h2) h3 h4)⟩
   refine⟨?_,trivial⟩
   simp only[Bn,BD]
   refine⟨by simp[Bb,kEq],(CB h1).1,?_,?_,trivial⟩
   ·simp[Bb,BG]
   ·simp[Bb,BG]
  ·cases h
 ·split at h
  ·injection h with h;subst h
   exact BZ fun _=>⟨Bk _,Bpf _⟩
  ·cases h
 ·split at h
  ·injection h with h;subst h
   exact BZ fun _=>⟨Bk _,BoE _⟩
  ·cases h
 ·exact IX _ _ _ _ h
theorem BbI(a : Arr) : Bu a=if B8 a.k a.sh a.nu.length a.it.length≠0 then (B8 a.k a.sh a.nu.length a.it.length, 0, 0)
  else if a.nu.any (Ga a.k) then (17,0,0)
  else match C6 a.it 0 ((a.nu.length:Int)+a.it.length) with
   |none=>(17,0,0)
   |some r=>if 16<r.1\/262144<r.2 then (21,0,0) else (0,r.1,r.2):=by
 cases a with
 |mk k s n is=>rw[Bu];rfl
theorem BiU{s:List Int}:CK s<=65536:=by
 unfold CK
 split
 ·omega
 ·cases hg:goO s 1 with
  |none=>simp
  |some p=>have:=Ba0 s 1 (by omega) p hg;simpa using this
theorem Ie{k:Int}{s:List Int}{nn ni:Nat}(h:B8 k s nn ni=0):nn<=65536/\ni<=65536:=by
 have hs:=BiU (s:=s)
 unfold B8 at h
 by_cases hk:k=1\/k=2\/k=3
 ·rw[if_pos hk] at h
  by_cases hd:Ec s≠0
  ·rw[if_pos hd] at h;exact (hd h).elim
  ·rw[if_neg hd] at h
   by_cases hc:((if k=3 then (ni:Int) else nn)≠CK s)\/((if k=3 then (nn:Int) else ni)≠0)
   ·rw[if_pos hc] at h;omega
   ·simp only[not_or,ne_eq,Decidable.not_not] at hc
    obtain ⟨c1,c2⟩:=hc
    by_cases k3:k=3<;>simp only[k3,if_true,if_false] at c1 c2<;>omega
 ·rw[if_neg hk] at h;omega
theorem Cg{α:Type}[Inhabited α]{l:List α}{i:Nat}(h:i<l.length):l.getD i default∈l:=by
 rw[List.getD_eq_getElem?_getD,List.getElem?_eq_getElem h];exact List.getElem_mem h
def cutV(k:Int)(d8:D)(S:St):Option LoopAnn :=
 match d8 with
 |.int _ z=>some { slots:=[45],keep:=[],α:=Unit,st:=fun _=>([.bool (Ga k z)],S),inv:=fun _=>True,mu:=fun _=>0 }
 |_=>none
noncomputable def Evis(xb:Nat)(a:Arr):Senv:={ EC (Bei xb a.it) 87 7 [8,9,10,12,13,14,15,19,22,23,24,25,45,55,56,57,58,69,84] (fun id=>match id with | 10=>([0,1,2,3,4,5,6,7,8],[]) | _=>([],[])) with
 cut:=fun id env S=>match id with
  |7=>cutV a.k (Ab.look env 8) S
  |_=>none
 ann:=fun b _ S=>match b with
  |0=>some { slots:=[24],keep:=[0,1,2,22,23],α:=Nat,st:=fun i=>([.int .i64 i],S),inv:=fun i=>i<=a.nu.length/\∀z∈a.nu.take i,Ga a.k z=false,mu:=fun i=>a.nu.length-i }
  |2=>some { slots:=[57,9,10],keep:=[0,1,2,55,56],α:=Nat×Int×Int,st:=fun y=>([.int .i64 y.1,.int .i64 y.2.1,.int .i64 y.2.2],S),inv:=fun y=>y.1<=a.it.length/\0<=y.2.1/\y.2.1<=17/\0<=y.2.2/\y.2.2<=262145/\C6 (a.it.drop y.1) y.2.1 y.2.2=C6 a.it 0 ((a.nu.length:Int)+a.it.length),mu:=fun y=>a.it.length-y.1 }
  |_=>none }
noncomputable section
def VS(a:Arr):Nat:=LN (Arr.sh a)
def Zh(a:Arr)(b:Nat):List D:=[ZI (GI (Arr.sh a) b)]
def Qak(a:Arr):List Int:=Arr.nu a
def JM(a:Arr):Nat:=LN (Qak a)
def XG(a:Arr):List Arr:=Arr.it a
def JN(a:Arr):Nat:=LN (XG a)
def Vo(a:Arr):Int:=Arr.k a
def QnF(a:Arr):Int:=B8 (Vo a) (Bj (VS a) fun i=>Zh a i) (JM a) (JN a)
def Zi(a:Arr):Int:=Prod.fst (Bu a)
def QgA(a:Arr):Int:=Prod.fst (Prod.snd (Bu a))
def Qal(a:Arr):Int:=Prod.snd (Prod.snd (Bu a))
def QgB(a:Arr):Prop:=Z0=QgA a/\Z0=Qal a/\True
def QnG(a:Nat):Prop:=SM a/\(SM (D.fn (Fn.func (115:Nat)) [] [D.ref N1 a N0])/\True)/\True
def Zj(a:Nat):Prop:=QnG a/\True
def QgC(a:Nat)(b:Arr):Prop:=a<=JM b/\∀(z:Int),z∈List.take a (Qak b)->Ga (Vo b) z=false
def QgD(a:Arr)(b:Nat):List D:=[ZI (GI (Qak a) b)]
def Qam:Arr:=DA
def Zk(a:Arr)(b:Nat):Arr:=List.getD (XG a) b Qam
def QNM(a:Arr)(b:Nat):List Int:=Arr.sh (Zk a b)
def QNN(a:Arr)(b:Nat):List Int:=Arr.nu (Zk a b)
def QnH(a:Arr)(b:Nat):List Arr:=Arr.it (Zk a b)
def QnI(a:Arr)(b:Nat):List D:=[ZI (Arr.k (Zk a b)),SI (QNM a b),SI (QNN a b),D.sl N4 (LN (QnH a b)) (fun i=>Arr.row (List.getD (QnH a b) i Qam)) Mode.any]
def VT(a:Nat)(b:Arr)(c:Nat):Prop:=(SM a/\(SM (Vo b)/\(SM (VS b)/\(∀(i:Nat),i<VS b->SM (Zh b i))/\True)/\(SM (JM b)/\(∀(i:Nat),i<JM b->SM (QgD b i))/\True)/\(SM (JN b)/\(∀(i:Nat),i<JN b->SM (QnI b i))/\True)/\True)/\QnG c)/\True
def Qan(a:Arr):Int:=(NI (JM a))
def QgE(a:Arr)(b:Nat):Int:=GI (Qak a) (Int.toNat (↑b:Int))
def Qao(a:Arr)(b:Nat):Bool:=Ga (Vo a) (QgE a b)
def QnJ(a:Nat)(b:Arr)(c d:Nat):Prop:=SM a/\ifB (Vo b==2) (True/\∀(_y:Unit),True->∃(_x:Unit),True/\((!Wr (QgE b c))=Qao b c/\True)/\VT a b d) (∃(_x:Unit),True/\(false=Qao b c/\True)/\VT a b d)
def QnK(a:Arr)(b:Nat):Prop:=True/\∃(_y:Unit),True/\((17:Int)=Zi a/\QgB a)/\Zj b
def QnL(a:Arr):D:=D.sl N1 (JM a) (fun i=>QgD a i) Mode.any
def QnM(a:Arr):D:=D.sl N4 (JN a) (fun i=>QnI a i) Mode.any
def QNO(a:Arr):D:=D.agg [ZI (Vo a),D.sl N1 (VS a) (fun i=>Zh a i) Mode.any,QnL a,QnM a]
def QnN(a:Arr):Prop:=SM (QNO a)
def Qap(a:Arr):Int:=(NI (JN a))
def QnO(a:Arr):Int:=Qan a+Qap a
def QgF(a:Nat)(b:Arr)(c d:Int):Prop:=a<=JN b/\Z0<=c/\c<=17/\Z0<=d/\d<=262145/\C6 (List.drop a (XG b)) c d=C6 (XG b) Z0 (QnO b)
def Qaq(a:Arr)(b:Nat):Arr:=List.getD (XG a) (Int.toNat (↑b:Int)) Qam
def QnP(a:Arr)(b:Nat):List Int:=Arr.sh (Qaq a b)
def QnQ(a:Arr)(b:Nat):Nat:=LN (QnP a b)
def QnR(a:Arr)(b:Nat):List Int:=Arr.nu (Qaq a b)
def QnS(a:Arr)(b:Nat):Nat:=LN (QnR a b)
def QnT(a:Arr)(b:Nat):List Arr:=Arr.it (Qaq a b)
def QnU(a:Arr)(b:Nat):Nat:=LN (QnT a b)
def QnV(a:Arr):Int:=IntKind.wrap IntKind.i64 (QgA a+Z1)
def QgG(a b:Int):Bool:=bif decide ((16:Int)<a) then true else decide ((262144:Int)<b)
end
theorem BlO(xb : Nat)(a : Arr)(ha : a.nu.length<=maxLen /\ a.it.length<=maxLen /\ a.sh.length<=maxLen)(ih : ∀b∈a.it, ACalls Tryz.prog 115 ((IC Arr.row2 xb (fun _=>True)).args b) ((IC Arr.row2 xb (fun _=>True)).st b) (SpecR (IC Arr.row2 xb (fun _=>True)) b)) :
  ACalls Tryz.prog 115 ((IC Arr.row2 xb (fun _=>True)).args a) ((IC Arr.row2 xb (fun _=>True)).st a) (SpecR (IC Arr.row2 xb (fun _=>True)) a):=by
 refine Bg (A:=IC Arr.row2 xb (fun _=>True)) (x:=a) (E:=Evis xb a) (eOk (BhE ih) rfl) Tryz.func115 rfl (by kernel_rfl) rfl (by simp[IC,Evis,EC,E0]) ?_
 refine Bi (T :=
  ∀(x:Nat),xb≠x/\True->SM x/\((IntsP (VS a) fun i=>Zh a i)/\VS a<=9223372036854775807/\JM a<=9223372036854775807/\JN a<=9223372036854775807)/\∀(y:Unit),True->ifB (QnF a != Z0) (True/\∃(y:Unit),True/\(QnF a=Zi a/\QgB a)/\Zj xb) (SM x/\(∃(x_1:Nat),QgC x_1 a/\(Z0=(↑x_1:Int)/\True)/\VT x a xb)/\∀(x_1:Nat),QgC x_1 a->ifB (decide ((↑x_1:Int)<Qan a)) (Bc (Z0<=(↑x_1:Int)/\(↑x_1:Int)<Qan a) ((SM x/\ifB (Vo a==Z1) (True/\∀(y:Unit),True->ifB (!Bby (QgE a x_1)) (∃(x_2:Unit),True/\(true=Qao a x_1/\True)/\VT x a xb) (QnJ x a x_1 xb)) (QnJ x a x_1 xb))/\∀(x_2:Unit),True->ifB (Qao a x_1) (QnK a xb) ((QnN a/\SM (D.ref N1 xb N0)/\SM (D.ref N2 x N0)/\SM (QnL a)/\SM (ZI (Qan a))/\True)/\∃(y:Nat),QgC y a/\JM a-y<JM a-x_1/\(IntKind.wrap IntKind.i64 ((↑x_1:Int)+Z1)=(↑y:Int)/\True)/\VT x a xb))) (SM x/\SM x/\SM x/\(∃(x_2:Nat×Int×Int),QgF x_2.1 a x_2.2.1 x_2.2.2/\(Z0=(NI x_2.1)/\Z0=x_2.2.1/\IntKind.wrap IntKind.i64 (QnO a)=x_2.2.2/\True)/\VT x a xb)/\∀(x_2:Nat×Int×Int),QgF x_2.1 a x_2.2.1 x_2.2.2->ifB (decide ((NI x_2.1)<Qap a)) (Bc (Z0<=(NI x_2.1)/\(NI x_2.1)<Qap a) (∀(x_3:Nat),x≠x_3/\xb≠x_3/\True->SM x_3/\SM xb/\SM x_3/\∃(x_4:Arr),((Arr.k (Qaq a x_2.1)=Vo x_4/\(QnQ a x_2.1=VS x_4/\(∀(i:Nat),i<QnQ a x_2.1->[ZI (GI (QnP a x_2.1) i)]=Zh x_4 i)/\True)/\(QnS a x_2.1=JM x_4/\(∀(i:Nat),i<QnS a x_2.1->[ZI (GI (QnR a x_2.1) i)]=QgD x_4 i)/\True)/\(QnU a x_2.1=JN x_4/\(∀(i:Nat),i<QnU a x_2.1->Arr.row (List.getD (QnT a x_2.1) i Qam)=Arr.row (Zk x_4 i))/\True)/\True)/\SM xb/\True)/\Zj xb/\x_4∈XG a/\∀(y:Unit),True->ifB (Zi x_4 != Z0) (QnK a xb) ((QnN a/\SM (D.ref N1 xb N0)/\SM (D.ref N2 x N0)/\SM (QnM a)/\SM (ZI (Qap a))/\True)/\∃(y:Nat×Int×Int),QgF y.1 a y.2.1 y.2.2/\JN a-y.1<JN a-x_2.1/\(IntKind.wrap IntKind.i64 ((NI x_2.1)+Z1)=(NI y.1)/\(if x_2.2.1<QnV x_4 then QnV x_4 else x_2.2.1)=y.2.1/\(if (262145:Int)<IntKind.wrap IntKind.i64 (x_2.2.2+Qal x_4) then (262145:Int) else IntKind.wrap IntKind.i64 (x_2.2.2+Qal x_4))=y.2.2/\True)/\VT x a xb))) (ifB (decide ((16:Int)<x_2.2.1)) (true=QgG x_2.2.1 x_2.2.2/\True) (decide ((262144:Int)<x_2.2.2)=QgG x_2.2.1 x_2.2.2/\True)/\ifB (QgG x_2.2.1 x_2.2.2) (True/\∃(y:Unit),True/\((21:Int)=Zi a/\QgB a)/\Zj xb) (True/\∃(y:Unit),True/\(Z0=Zi a/\x_2.2.1=QgA a/\x_2.2.2=Qal a/\True)/\Zj xb))))) (by kernel_rfl) ?_
 delta DA GI LN N0 N1 N2 N4 NI SI SM Z0 Z1 ZI QnF Zi QgA Qal QgB QnG Zj QgC QgD Qam Zk QNM QNN QnH QnI VT Qan QgE Qao QnJ VS QnK QnL QnM QNO QnN Qap QnO QgF Qaq QnP Zh QnQ QnR QnS QnT QnU QnV QgG Qak JM XG JN Vo
 have da:(default:Arr)=Arr.mk 0 [] [] []:=rfl
 simp only[<- da,B0,Int.toNat_natCast,Bf,Bd,decide_eq_true_eq,decide_eq_false_iff_not,true_and,and_true,beq_iff_eq,bne_iff_ne,Bool.cond_true_left,beq_eq_false_iff_ne,ne_eq,exists_const,forall_const]
 intro x _
 have hA:=BbI a
 obtain ⟨l1,l2,l3⟩:=ha
 have tt:(∀i:Nat,i<a.sh.length->True)/\(∀i:Nat,i<a.nu.length->True)/\∀i:Nat,i<a.it.length->True:=⟨fun _ _=>trivial,fun _ _=>trivial,fun _ _=>trivial⟩
 refine⟨⟨BQ _,l3,l1,l2⟩,fun h=>?_,fun h=>⟨⟨0,⟨Nat.zero_le _,by simp⟩,rfl,tt⟩,fun i hi=>⟨fun hlt=>?_,fun hge=>?_⟩⟩⟩
 ·rw[hA,if_pos h];exact⟨rfl,rfl,rfl⟩
 ·have h0:B8 a.k a.sh a.nu.length a.it.length=0:=by simpa using h
  have hsm:=Ie h0
  have hlt':i<a.nu.length:=by omega
  have hmem:a.nu.getD i 0∈a.nu:=by rw[List.getD_eq_getElem?_getD,List.getElem?_eq_getElem hlt'];exact List.getElem_mem hlt'
  have htk:a.nu.take (i+1)=a.nu.take i++[a.nu.getD i 0]:=by
   rw[List.take_add_one];simp[List.getD_eq_getElem?_getD,hlt']
  generalize a.nu.getD i 0=z at *
  refine⟨by omega,?_,fun hb=>?_,fun hb=>⟨i+1,⟨by omega,fun y hy=>?_⟩,by omega,Ba (by omega) (by omega),tt⟩⟩
  ·refine⟨fun k1=>⟨fun hn=>⟨by simp at hn;simp[Ga,k1,hn],tt⟩,fun hn=>⟨fun k2=>by omega,fun k2=>⟨by simp at hn;simp[Ga,k1,hn],tt⟩⟩⟩,fun k1=>⟨fun k2=>⟨by simp[Ga,k2],tt⟩,fun k2=>⟨by simp[Ga,k1,k2],tt⟩⟩⟩
  ·have:a.nu.any (Ga a.k)=true:=List.any_eq_true.2 ⟨z,hmem,hb⟩
   rw[hA,if_neg (by simp[h0]),if_pos this]
   exact⟨rfl,rfl,rfl⟩
  ·rw[htk,List.mem_append] at hy
   rcases hy with hy | hy
   ·exact hi.2 y hy
   ·simp at hy;rw[hy];exact hb
 ·have h0:B8 a.k a.sh a.nu.length a.it.length=0:=by simpa using h
  have hsm:=Ie h0
  have hii:i=a.nu.length:=by omega
  rw[hii,List.take_length] at hi
  have hany:¬a.nu.any (Ga a.k)=true:=by
   rw[List.any_eq_true]
   rintro ⟨z,hz,hb⟩
   rw[hi.2 z hz] at hb
   cases hb
  rw[if_neg (by simp[h0]),if_neg hany] at hA
  refine⟨⟨(0,0,(a.nu.length:Int)+a.it.length),⟨Nat.zero_le _,Int.le_refl _,by simp,by simp only;omega,by simp only;omega,by simp⟩,⟨rfl,rfl,Ba (by omega) (by omega)⟩,tt⟩,?_⟩
  rintro ⟨j,d,w⟩ ⟨b1,b2,b3,b4,b5,hch⟩
  simp only at b1 b2 b3 b4 b5 hch ⊢
  refine⟨fun hlt=>⟨by omega,fun x3 _=>?_⟩,fun hge=>?_⟩
  ·have hlt':j<a.it.length:=by omega
   have hbd:=Ef (a.it.getD j default)
   rw[Gt hlt',C6] at hch
   refine⟨a.it.getD j default,⟨rfl,⟨rfl,fun _ _=>rfl⟩,⟨rfl,fun _ _=>rfl⟩,rfl,fun _ _=>rfl⟩,Cg hlt',fun herr=>?_,fun hok=>?_⟩
   ·rw[if_pos herr] at hch
    rw[<- hch] at hA
    rw[hA]
    exact⟨rfl,rfl,rfl⟩
   ·have hok:(Bu (a.it.getD j default)).1=0:=by simpa using hok
    rw[if_neg (fun hne=>hne hok)] at hch
    have w1:IntKind.i64.wrap ((Bu (a.it.getD j default)).2.1+1)=(Bu (a.it.getD j default)).2.1+1:=Ba (by omega) (by omega)
    have w2:IntKind.i64.wrap (w+(Bu (a.it.getD j default)).2.2)=w+(Bu (a.it.getD j default)).2.2:=Ba (by omega) (by omega)
    rw[w1,w2]
    refine⟨(j+1,(if d<(Bu (a.it.getD j default)).2.1+1 then (Bu (a.it.getD j default)).2.1+1 else d),(if 262145<w+(Bu (a.it.getD j default)).2.2 then 262145 else w+(Bu (a.it.getD j default)).2.2)),⟨by simp only;omega,?_,?_,?_,?_,hch⟩,by simp only;omega,⟨Ba (by omega) (by omega),rfl,rfl⟩,tt⟩
    ·simp only;split<;>omega
    ·simp only;split<;>omega
    ·simp only;split<;>omega
    ·simp only;split<;>omega
  ·have hj:j=a.it.length:=by omega
   rw[hj,List.drop_length,C6] at hch
   rw[<- hch] at hA
   simp only at hA
   refine⟨⟨fun h1=>by rw[decide_eq_true h1];rfl,fun h1=>by rw[decide_eq_false h1];rfl⟩,fun hc=>?_,fun hc=>?_⟩
   ·rw[Bool.or_eq_true,decide_eq_true_eq,decide_eq_true_eq] at hc
    rw[if_pos hc] at hA
    rw[hA];exact⟨rfl,rfl,rfl⟩
   ·rw[Bool.or_eq_false_iff,decide_eq_false_iff_not,decide_eq_false_iff_not] at hc
    rw[if_neg (by omega)] at hA
    rw[hA];exact⟨rfl,rfl,rfl⟩
theorem Bf4:∀(a:Arr),a.ok->∀xb,ACalls Tryz.prog 115 ((IC Arr.row2 xb (fun _=>True)).args a) ((IC Arr.row2 xb (fun _=>True)).st a) (SpecR (IC Arr.row2 xb (fun _=>True)) a)
 |.mk k s n is,h,xb=>by
  have h':=h
  simp only[Arr.ok] at h'
  obtain ⟨_,_,_,h1,h2,h3,h4⟩:=h'
  refine BlO xb (.mk k s n is) ⟨h2,h3,h1⟩ fun b hb=>?_
  have hb':b∈is:=hb
  exact Bf4 b ((E7 _).1 h4 b hb') xb
termination_by a=>SizeOf.sizeOf a
decreasing_by
 have:=List.sizeOf_lt_of_mem hb'
 simp;omega
theorem BlV(a:Arr)(ha:a.ok)(xb:Nat)(q:Arr->Prop):ACalls Tryz.prog 115 ((IC Arr.row1 xb q).args a) ((IC Arr.row1 xb q).st a) (SpecR (IC Arr.row1 xb q) a):=by
 refine ((Bf4 a ha xb).wkArgs ?_).mono fun _ _ ⟨y,h1,h2,h3⟩=>⟨y,h1,h2,h3⟩
 simp only[IC,wkL,wkD]
 exact⟨GN a,by simp[Bn,Bb]⟩
def Bld(a:Arr):Con:=fun k ds _=>match k with
 |115=>match ds with
  | [_,.ref _ xb _]=>some (IC Arr.row1 xb (fun b=>b=a))
  |_=>none
 |_=>none
theorem BkX{a:Arr}(ha:a.ok):ConOk Tryz.prog (Bld a):=by
 intro k ds S A h
 unfold Bld at h
 split at h
 ·split at h
  ·injection h with h;subst h
   refine ConOk.plain (fun b hb=>?_) rfl rfl
   have hb:b=a:=hb
   rw[hb]
   exact BlV a ha _ _
  ·cases h
 ·cases h
noncomputable def Eri(a:Arr):Senv:=EC (Bld a) 16 7 [] (fun _=>([],[]))
noncomputable section
def QgH(a:Arr):Nat:=LN (Arr.sh a)
def QnW(a:Arr)(b:Nat):List D:=[ZI (GI (Arr.sh a) b)]
def QgI(a:Arr):Nat:=LN (Arr.nu a)
def QnX(a:Arr)(b:Nat):List D:=[ZI (GI (Arr.nu a) b)]
def QgJ(a:Arr):Nat:=LN (Arr.it a)
def QnY(a:Arr)(b:Nat):List D:=Arr.row (GA (Arr.it a) b)
end
theorem Bk3(a:Arr)(ha:a.ok):ACalls Tryz.prog 95 [.agg a.row1] ⟨[],[]⟩ (SpecR (sC [.agg a.row1] (.int .i64 (Bu a).1)) ()):=by
 refine Bg (A:=sC _ _) (x:=()) (E:=Eri a) (eOk (BkX ha) rfl) Tryz.func95 rfl (by kernel_rfl) rfl (by simp[sC,Eri,EC,E0]) ?_
 refine Bi (T :=
  ∀(x:Nat),True->∀(x_1:Nat),x≠x_1/\True->SM x_1/\SM x_1/\SM x/\∃(x:Arr),((Arr.k a=Arr.k x/\(QgH a=QgH x/\(∀(i:Nat),i<QgH a->QnW a i=QnW x i)/\True)/\(QgI a=QgI x/\(∀(i:Nat),i<QgI a->QnX a i=QnX x i)/\True)/\(QgJ a=QgJ x/\(∀(i:Nat),i<QgJ a->QnY a i=QnY x i)/\True)/\True)/\SM x_1/\True)/\((SM x_1/\(D.fn (Fn.func (115:Nat)) [] [D.ref (max (N0+N1) N0) x_1 N0]=D.fn (Fn.func (115:Nat)) [] [D.ref N1 x_1 N0]/\True)/\True)/\True)/\x=a/\∀(y:Unit),True->RT (Prod.fst (Bu x)=Prod.fst (Bu a))) (by kernel_rfl) ?_
 delta DA GA GI LN N0 N1 SM Z0 ZI QgH QnW QgI QnX QgJ QnY RT
 intro x _ x1 hx
 exact⟨rfl,rfl,rfl,a,⟨⟨rfl,⟨rfl,fun _ _=>rfl,trivial⟩,⟨rfl,fun _ _=>rfl,trivial⟩,⟨rfl,fun _ _=>rfl,trivial⟩,trivial⟩,rfl,trivial⟩,⟨⟨rfl,⟨rfl,trivial⟩,trivial⟩,trivial⟩,rfl,fun _ _=>⟨trivial,(),trivial,rfl,trivial,trivial⟩⟩
noncomputable def Ernum:Senv:=EC Eu 9 1 [2] (fun _=>([],[]))
noncomputable section
def QgK(a:Int):Bool:=bif decide ((-4611686018427387903:Int)<=a) then decide (a<=4611686018427387903) else false
end
theorem Bmi(z:Int):ACalls Tryz.prog 146 [.int .i64 z] ⟨[],[]⟩ (SpecR (sC [.int .i64 z] (.bool (Bby z))) ()):=by
 refine Bg (A:=sC _ _) (x:=()) (E:=Ernum) (eOk BL rfl) Tryz.func146 rfl (by kernel_rfl) rfl (by simp[sC,Ernum,EC,E0]) ?_
 refine Bi (T :=
  ifB (decide ((-4611686018427387903:Int)<=z)) (decide (z<=4611686018427387903)=QgK z/\True) (false=QgK z/\True)/\RT (QgK z=Bby z)) (by kernel_rfl) ?_
 delta QgK RT
 simp only[Bf,decide_eq_true_eq,decide_eq_false_iff_not,true_and,and_true,Bool.cond_false_right,exists_const]
 refine⟨⟨fun h=>by rw[decide_eq_true h];rfl,fun h=>by rw[decide_eq_false h];rfl⟩,rfl⟩
noncomputable def Erchr:Senv:=EC Eu 17 1 [2] (fun _=>([],[]))
noncomputable section
def Qar(a:Int):Bool:=bif bif decide (Z0<=a) then decide (a<=1114111) else false then bif decide (a<55296) then true else decide ((57343:Int)<a) else false
def QnZ(a:Int):Prop:=false=Qar a/\True
end
theorem BmP(z:Int):ACalls Tryz.prog 147 [.int .i64 z] ⟨[],[]⟩ (SpecR (sC [.int .i64 z] (.bool (Wr z))) ()):=by
 refine Bg (A:=sC _ _) (x:=()) (E:=Erchr) (eOk BL rfl) Tryz.func147 rfl (by kernel_rfl) rfl (by simp[sC,Erchr,EC,E0]) ?_
 refine Bi (T :=
  ifB (decide (Z0<=z)) (ifB (decide (z<=1114111)) (ifB (decide (z<55296)) (true=Qar z/\True) (decide ((57343:Int)<z)=Qar z/\True)) (QnZ z)) (QnZ z)/\RT (Qar z=Wr z)) (by kernel_rfl) ?_
 delta Z0 Qar QnZ RT
 simp only[Bf,decide_eq_true_eq,decide_eq_false_iff_not,true_and,and_true,Bool.cond_false_right,Bool.cond_true_left,exists_const]
 refine⟨⟨fun h1=>⟨fun h2=>⟨fun h3=>by simp[h1,h2,h3],fun h3=>by simp[h1,h2,h3]⟩,fun h2=>by simp[h1,h2]⟩,fun h1=>by simp[h1]⟩,rfl⟩
def BY(k:Int)(nn ni:Nat):Int:=if k=1\/k=2 then nn else if k=3 then ni else 0
noncomputable def Esz:Senv:=EC Eu 16 3 [4,5,11] (fun _=>([],[]))
noncomputable section
def Qn0(a b:Nat)(c:Int)(d:Nat):Prop:=SM a/\True/\∃(_y:Unit),True/\(↑b:Int)=BY c b d/\True/\True
def Qn1(a:Int)(b c d:Nat):Prop:=ifB (a==3) (SM b/\True/\∃(_y:Unit),True/\(↑c:Int)=BY a d c/\True/\True) (True/\∃(_y:Unit),True/\Z0=BY a d c/\True/\True)
end
theorem Bp2(k : Int)(ns nn ni : Nat)(f g h : Nat -> List D) :
  ACalls Tryz.prog 144 [.agg [.int .i64 k,.sl 1 ns f .any,.sl 1 nn g .any,.sl 4 ni h .any]] ⟨[],[]⟩ (SpecR (sC [.agg [.int .i64 k,.sl 1 ns f .any,.sl 1 nn g .any,.sl 4 ni h .any]] (.int .i64 (BY k nn ni))) ()):=by
 refine Bg (A:=sC _ _) (x:=()) (E:=Esz) (eOk BL rfl) Tryz.func144 rfl (by kernel_rfl) rfl (by simp[sC,Esz,EC,E0]) ?_
 refine Bi (T :=
  ∀(x:Nat),True->SM x/\ifB (k==Z1) (ifB (k==Z1) (Qn0 x nn k ni) (Qn1 k x ni nn)) (ifB (k==2) (Qn0 x nn k ni) (Qn1 k x ni nn))) (by kernel_rfl) ?_
 delta SM Z0 Z1 Qn0 Qn1
 simp only[Bf,true_and,and_true,beq_iff_eq,beq_eq_false_iff_ne,ne_eq,exists_const,forall_const]
 repeat' (first
  |refine And.intro ?_ ?_
  |intro _)
 all_goals first
  |(simp_all[BY];done)
  |grind [BY]
  |trace_state
def RU:Con:=fun k ds S=>match k with
 |144=>match ds with
  | [.agg [.int .i64 k,.sl 1 _ _ _,.sl 1 nn _ _,.sl 4 ni _ _]]=>some (pC ds (.int .i64 (BY k nn ni)) True)
  |_=>none
 |146=>match ds with
  | [.int .i64 z]=>some (pC [.int .i64 z] (.bool (Bby z)) True)
  |_=>none
 |147=>match ds with
  | [.int .i64 z]=>some (pC [.int .i64 z] (.bool (Wr z)) True)
  |_=>none
 |k=>Up k ds S
theorem O8:ConOk Tryz.prog RU:=by
 intro k ds S A h
 unfold RU at h
 split at h
 ·split at h
  ·rename_i k ns f _ nn g _ ni g' _
   injection h with h;subst h
   refine BZ fun _=>⟨Bk _,Ca (us:=[.agg [.int .i64 k,.sl 1 ns f .any,.sl 1 nn g .any,.sl 4 ni g' .any]]) ?_ (Bp2 _ _ _ _ _ _ _)⟩
   refine⟨?_,trivial⟩
   simp only[Bn,BD]
   refine⟨by simp[Bb,kEq],?_,?_,?_,trivial⟩
   ·simp[Bb,BG]
   ·simp[Bb,BG]
   ·simp[Bb,BG]
  ·cases h
 ·split at h
  ·injection h with h;subst h
   exact BZ fun _=>⟨Bk _,Bmi _⟩
  ·cases h
 ·split at h
  ·injection h with h;subst h
   exact BZ fun _=>⟨Bk _,BmP _⟩
  ·cases h
 ·exact IX _ _ _ _ h
mutual
def wtA:Arr->Int
 |.mk k _ n is=>min (wtL k is (BY k n.length is.length)) 262145
def wtL(k:Int):List Arr->Int->Int
 | [],n=>n
 |x::r,n=>if k=3/\n<=262144 then wtL k r (n+wtA x) else n
end
theorem BlM(a:Arr):wtA a=min (wtL a.k a.it (BY a.k a.nu.length a.it.length)) 262145:=by
 cases a with
 |mk k s n is=>rw[wtA];rfl
theorem BfN(k:Int):∀(l:List Arr) (n:Int),0<=n->(∀x∈l,0<=wtA x)->0<=wtL k l n
 | [],n,h,_=>by rw[wtL];exact h
 |x::r,n,h,h2=>by
  rw[wtL]
  have:=h2 x (by simp)
  split
  ·exact BfN k r _ (by omega) fun y hy=>h2 y (by simp[hy])
  ·exact h
theorem UY:∀(a:Arr),0<=wtA a/\wtA a<=262145
 |.mk k s n is=>by
  rw[wtA]
  have hs:0<=BY k n.length is.length:=by unfold BY;split<;>(try split)<;>omega
  have:=BfN k is _ hs fun x hx=>(UY x).1
  omega
termination_by a=>SizeOf.sizeOf a
decreasing_by
 have:=List.sizeOf_lt_of_mem hx
 simp;omega
def sRc(row:Arr->List D)(q:Arr->Prop)(r:Arr->D):FnSpec where
 β:=Arr
 α:=Unit
 args:=fun a=>[.agg (row a)]
 st:=fun _=>⟨[],[]⟩
 pre:=q
 post:=fun _ _=>True
 res:=fun a _=>.ret (r a)
 out:=fun _ _=>⟨[],[]⟩
def BiX(its:List Arr):Con:=fun k ds S=>match k with
 |148=>some (sRc Arr.row1 (fun b=>b∈its) (fun b=>.int .i64 (wtA b)))
 |k=>RU k ds S
theorem En{k:Nat}{q q':Arr->Prop}{r:Arr->D}{b:Arr}(h:ACalls Tryz.prog k ((sRc Arr.row2 q r).args b) ⟨[],[]⟩ (SpecR (sRc Arr.row2 q r) b)):ACalls Tryz.prog k ((sRc Arr.row1 q' r).args b) ⟨[],[]⟩ (SpecR (sRc Arr.row1 q' r) b):=by
 refine (h.wkArgs ?_).mono fun _ _ ⟨y,h1,h2,h3⟩=>⟨y,h1,h2,h3⟩
 simp only[sRc,wkL,wkD]
 exact⟨GN b,trivial⟩
theorem Bjt{its:List Arr}(ih:∀b∈its,ACalls Tryz.prog 148 ((sRc Arr.row2 (fun _=>True) (fun b=>.int .i64 (wtA b))).args b) ⟨[],[]⟩ (SpecR (sRc Arr.row2 (fun _=>True) (fun b=>.int .i64 (wtA b))) b)):ConOk Tryz.prog (BiX its):=by
 intro k ds S A h
 unfold BiX at h
 split at h
 ·injection h with h;subst h
  exact ConOk.plain (fun b hb=>En (ih b hb)) rfl rfl
 ·exact O8 _ _ _ _ h
noncomputable def Ewt(a:Arr):Senv:={ EC (BiX a.it) 33 5 [20] (fun _=>([],[])) with
 ann:=fun b _ S=>match b with
  |0=>some { slots:=[3,4],keep:=[0,1,2],α:=Nat×Int,st:=fun y=>([.int .i64 y.2,.int .i64 y.1],S),inv:=fun y=>y.1<=a.it.length/\0<=y.2/\y.2<=maxLen/\wtL a.k (a.it.drop y.1) y.2=wtL a.k a.it (BY a.k a.nu.length a.it.length),mu:=fun y=>a.it.length-y.1 }
  |_=>none }
noncomputable section
def XH(a:Arr):List Arr:=Arr.it a
def JO(a:Arr):Nat:=LN (XH a)
def Vp(a:Arr):Int:=Arr.k a
def Zl(a:Arr):Nat:=LN (Arr.nu a)
def Qn2(a:Arr):Int:=BY (Vp a) (Zl a) (JO a)
def QgL(a:Nat)(b:Arr)(c:Int):Prop:=a<=JO b/\Z0<=c/\c<=9223372036854775807/\wtL (Vp b) (List.drop a (XH b)) c=wtL (Vp b) (XH b) (Qn2 b)
def Qas(a:Arr):Nat:=LN (Arr.sh a)
def QgM(a:Arr)(b:Nat):List D:=[ZI (GI (Arr.sh a) b)]
def QgN(a:Arr)(b:Nat):List D:=[ZI (GI (Arr.nu a) b)]
def Qat:Arr:=DA
def Zm(a:Arr)(b:Nat):Arr:=List.getD (XH a) b Qat
def QNP(a:Arr)(b:Nat):List Int:=Arr.sh (Zm a b)
def QNQ(a:Arr)(b:Nat):List Int:=Arr.nu (Zm a b)
def Qn3(a:Arr)(b:Nat):List Arr:=Arr.it (Zm a b)
def Qn4(a:Arr)(b:Nat):List D:=[ZI (Arr.k (Zm a b)),SI (QNP a b),SI (QNQ a b),D.sl N4 (LN (Qn3 a b)) (fun i=>Arr.row (List.getD (Qn3 a b) i Qat)) Mode.any]
def Qn5(a:Nat)(b:Arr):Prop:=(SM a/\(SM (Vp b)/\(SM (Qas b)/\(∀(i:Nat),i<Qas b->SM (QgM b i))/\True)/\(SM (Zl b)/\(∀(i:Nat),i<Zl b->SM (QgN b i))/\True)/\(SM (JO b)/\(∀(i:Nat),i<JO b->SM (Qn4 b i))/\True)/\True)/\True)/\True
def Qn6(a:Nat)(b:Arr):Bool:=decide ((↑a:Int)<(NI (JO b)))
def QgO(a:Nat)(b:Arr)(c:Int):Bool:=bif bif Qn6 a b then Vp b==3 else false then decide (c<=262144) else false
def Qn7(a:Nat)(b:Arr)(c:Int):Prop:=false=QgO a b c/\True
def Qau(a:Arr)(b:Nat):Arr:=List.getD (XH a) (Int.toNat (↑b:Int)) Qat
def Qn8(a:Arr)(b:Nat):List Int:=Arr.sh (Qau a b)
def Qn9(a:Arr)(b:Nat):Nat:=LN (Qn8 a b)
def Qoa(a:Arr)(b:Nat):List Int:=Arr.nu (Qau a b)
def Qob(a:Arr)(b:Nat):Nat:=LN (Qoa a b)
def Qoc(a:Arr)(b:Nat):List Arr:=Arr.it (Qau a b)
def Qod(a:Arr)(b:Nat):Nat:=LN (Qoc a b)
def QNR(a:Arr):D:=D.agg [ZI (Vp a),D.sl N1 (Qas a) (fun i=>QgM a i) Mode.any,D.sl N1 (Zl a) (fun i=>QgN a i) Mode.any,D.sl N4 (JO a) (fun i=>Qn4 a i) Mode.any]
end
theorem Bm2(a : Arr)(ha : a.nu.length<=maxLen /\ a.it.length<=maxLen /\ a.sh.length<=maxLen)(ih : ∀b∈a.it, ACalls Tryz.prog 148 ((sRc Arr.row2 (fun _=>True) (fun b=>.int .i64 (wtA b))).args b) ⟨[], []⟩ (SpecR (sRc Arr.row2 (fun _=>True) (fun b=>.int .i64 (wtA b))) b)) :
  ACalls Tryz.prog 148 ((sRc Arr.row2 (fun _=>True) (fun b=>.int .i64 (wtA b))).args a) ⟨[],[]⟩ (SpecR (sRc Arr.row2 (fun _=>True) (fun b=>.int .i64 (wtA b))) a):=by
 refine Bg (A:=sRc Arr.row2 (fun _=>True) (fun b=>.int .i64 (wtA b))) (x:=a) (E:=Ewt a) (eOk (Bjt ih) rfl) Tryz.func148 rfl (by kernel_rfl) rfl (by simp[sRc,Ewt,EC,E0]) ?_
 refine Bi (T :=
  ∀(x:Nat),True->SM x/\True/\∀(y:Unit),True->(∃(x_1:Nat×Int),QgL x_1.1 a x_1.2/\(Qn2 a=x_1.2/\Z0=(NI x_1.1)/\True)/\Qn5 x a)/\∀(x_1:Nat×Int),QgL x_1.1 a x_1.2->(SM x/\ifB (Qn6 x_1.1 a) (SM x/\ifB (Vp a==3) (decide (x_1.2<=262144)=QgO x_1.1 a x_1.2/\True) (Qn7 x_1.1 a x_1.2)) (Qn7 x_1.1 a x_1.2))/\ifB (QgO x_1.1 a x_1.2) (SM x/\Bc (Z0<=(NI x_1.1)/\(NI x_1.1)<(NI (JO a))) (∃(x_2:Arr),((Arr.k (Qau a x_1.1)=Vp x_2/\(Qn9 a x_1.1=Qas x_2/\(∀(i:Nat),i<Qn9 a x_1.1->[ZI (GI (Qn8 a x_1.1) i)]=QgM x_2 i)/\True)/\(Qob a x_1.1=Zl x_2/\(∀(i:Nat),i<Qob a x_1.1->[ZI (GI (Qoa a x_1.1) i)]=QgN x_2 i)/\True)/\(Qod a x_1.1=JO x_2/\(∀(i:Nat),i<Qod a x_1.1->Arr.row (List.getD (Qoc a x_1.1) i Qat)=Arr.row (Zm x_2 i))/\True)/\True)/\True)/\(True/\True)/\x_2∈XH a/\∀(y:Unit),True->(SM (QNR a)/\SM (D.ref N0 x N0)/\SM (ZI Z0)/\True)/\∃(y:Nat×Int),QgL y.1 a y.2/\JO a-y.1<JO a-x_1.1/\(IntKind.wrap IntKind.i64 (x_1.2+wtA x_2)=y.2/\IntKind.wrap IntKind.i64 ((NI x_1.1)+Z1)=(NI y.1)/\True)/\Qn5 x a)) (RT ((if (262145:Int)<x_1.2 then (262145:Int) else x_1.2)=wtA a))) (by kernel_rfl) ?_
 delta DA GI LN N0 N1 N4 NI SI SM Z0 Z1 ZI QgL Qas QgM QgN Qat Zm QNP QNQ Qn3 Qn4 Qn5 Qn6 QgO Qn7 Qau Qn8 Qn9 Qoa Qob Qoc Qod QNR XH JO Vp Zl Qn2 RT
 have da:(default:Arr)=Arr.mk 0 [] [] []:=rfl
 simp only[<- da,Int.toNat_natCast,Bf,Bd,decide_eq_true_eq,decide_eq_false_iff_not,true_and,and_true,beq_iff_eq,Bool.cond_false_right,Bool.and_eq_true,Bool.and_eq_false_iff,beq_eq_false_iff_ne,ne_eq,exists_const,forall_const]
 obtain ⟨l1,l2,l3⟩:=ha
 simp only[maxLen] at l1 l2 l3
 have tt:(∀i:Nat,i<a.sh.length->True)/\(∀i:Nat,i<a.nu.length->True)/\∀i:Nat,i<a.it.length->True:=⟨fun _ _=>trivial,fun _ _=>trivial,fun _ _=>trivial⟩
 have hsz:0<=BY a.k a.nu.length a.it.length/\BY a.k a.nu.length a.it.length<=9223372036854775807:=by
  unfold BY;split<;>(try split)<;>omega
 refine⟨⟨(0,BY a.k a.nu.length a.it.length),⟨Nat.zero_le _,hsz.1,hsz.2,rfl⟩,⟨rfl,rfl⟩,tt⟩,?_⟩
 rintro ⟨j,n⟩ ⟨b1,b2,b3,hch⟩
 simp only at b1 b2 b3 hch ⊢
 refine⟨⟨fun h1=>⟨fun h2=>by simp[h1,h2],fun h2=>by simp[h2]⟩,fun h1=>by simp[h1]⟩,fun ⟨⟨h1,h2⟩,h3⟩=>⟨by omega,?_⟩,fun hc=>?_⟩
 ·have hlt':j<a.it.length:=by omega
  have hbd:=UY (a.it.getD j default)
  rw[Gt hlt',wtL,if_pos ⟨h2,h3⟩] at hch
  refine⟨a.it.getD j default,⟨rfl,⟨rfl,fun _ _=>rfl⟩,⟨rfl,fun _ _=>rfl⟩,rfl,fun _ _=>rfl⟩,Cg hlt',(j+1,n+wtA (a.it.getD j default)),⟨by simp only;omega,by simp only;omega,by simp only;omega,hch⟩,by simp only;omega,⟨Ba (by omega) (by omega),Ba (by omega) (by omega)⟩,tt⟩
 ·have he:wtL a.k (a.it.drop j) n=n:=by
   by_cases hj:j<a.it.length
   ·rw[Gt hj,wtL,if_neg (by rintro ⟨h2,h3⟩;rcases hc with (h | h) | h<;>omega)]
   ·rw[List.drop_eq_nil_of_le (by omega),wtL]
  rw[he] at hch
  rw[BlM,<- hch]
  split<;>omega
theorem Bkw:∀(a:Arr),a.ok->ACalls Tryz.prog 148 ((sRc Arr.row2 (fun _=>True) (fun b=>.int .i64 (wtA b))).args a) ⟨[],[]⟩ (SpecR (sRc Arr.row2 (fun _=>True) (fun b=>.int .i64 (wtA b))) a)
 |.mk k s n is,h=>by
  have h':=h
  simp only[Arr.ok] at h'
  obtain ⟨_,_,_,h1,h2,h3,h4⟩:=h'
  refine Bm2 (.mk k s n is) ⟨h2,h3,h1⟩ fun b hb=>?_
  have hb':b∈is:=hb
  exact Bkw b ((E7 _).1 h4 b hb')
termination_by a=>SizeOf.sizeOf a
decreasing_by
 have:=List.sizeOf_lt_of_mem hb'
 simp;omega
theorem Bdm:∀(l:List Arr) (d d' w':Int),C6 l d 262145=some (d',w')->w'=262145
 | [],d,d',w',h=>by rw[C6] at h;injection h with h;injection h with e1 e2;omega
 |x::r,d,d',w',h=>by
  rw[C6] at h
  have:=Ef x
  split at h
  ·cases h
  ·have e:(if (262145:Int)<262145+(Bu x).2.2 then 262145 else 262145+(Bu x).2.2)=262145:=by split<;>omega
   rw[e] at h;exact Bdm r _ d' w' h
theorem Bfy(k:Int):∀(l:List Arr) (d w d' w':Int),C6 l d w=some (d',w')->(k=3\/l=[])->(∀x∈l,(Bu x).1=0->wtA x=(Bu x).2.2)->∀n,min n 262145=w->min (wtL k l n) 262145=w'
 | [],d,w,d',w',h,_,_,n,hn=>by
  rw[C6] at h;injection h with h;injection h with e1 e2;rw[wtL];omega
 |x::r,d,w,d',w',h,hk,h3,n,hn=>by
  have hk:k=3:=hk.resolve_right (by simp)
  rw[C6] at h
  have hb:=Ef x
  split at h
  ·cases h
  ·rename_i hx
   have hx:(Bu x).1=0:=by simpa using hx
   have hwx:=h3 x (by simp) hx
   rw[wtL]
   by_cases hn2:n<=262144
   ·rw[if_pos ⟨hk,hn2⟩]
    refine Bfy k r _ _ d' w' h (.inl hk) (fun y hy=>h3 y (by simp[hy])) _ ?_
    split<;>omega
   ·rw[if_neg (fun e=>hn2 e.2)]
    have hw:w=262145:=by omega
    rw[hw] at h
    have:(if (262145:Int)<262145+(Bu x).2.2 then 262145 else 262145+(Bu x).2.2)=262145:=by split<;>omega
    rw[this] at h
    have:=Bdm r _ _ _ h
    omega
theorem Bhq{k:Int}{s:List Int}{nn ni:Nat}(h:B8 k s nn ni=0):(k=3/\nn=0)\/((k=1\/k=2)/\ni=0):=by
 unfold B8 at h
 by_cases hk:k=1\/k=2\/k=3
 ·rw[if_pos hk] at h
  by_cases hd:Ec s≠0
  ·rw[if_pos hd] at h;exact (hd h).elim
  ·rw[if_neg hd] at h
   by_cases hc:((if k=3 then (ni:Int) else nn)≠CK s)\/((if k=3 then (nn:Int) else ni)≠0)
   ·rw[if_pos hc] at h;omega
   ·simp only[not_or,ne_eq,Decidable.not_not] at hc
    obtain ⟨c1,c2⟩:=hc
    by_cases k3:k=3
    ·simp only[k3,if_true] at c2;left;omega
    ·simp only[k3,if_false] at c2;right;omega
 ·rw[if_neg hk] at h;omega
theorem BnK{a:Arr}{r:Int×Int}(h0:B8 a.k a.sh a.nu.length a.it.length=0)(hr:C6 a.it 0 ((a.nu.length:Int)+a.it.length)=some r)(h3:∀x∈a.it,(Bu x).1=0->wtA x=(Bu x).2.2):wtA a=r.2:=by
 have hz:=Bhq h0
 have hs:=Ie h0
 rw[BlM]
 refine Bfy a.k a.it 0 _ r.1 r.2 hr ?_ h3 _ ?_
 ·rcases hz with ⟨h1,_⟩ | ⟨_,h2⟩
  ·exact .inl h1
  ·exact .inr (List.length_eq_zero_iff.1 h2)
 ·unfold BY
  rcases hz with ⟨h1,h2⟩ | ⟨h1,h2⟩
  ·rw[if_neg (by omega),if_pos h1];omega
  ·rw[if_pos h1];omega
theorem Bk9:∀(a:Arr),(Bu a).1=0->wtA a=(Bu a).2.2
 |.mk k s n is,h=>by
  have ih:∀x∈(Arr.mk k s n is).it,(Bu x).1=0->wtA x=(Bu x).2.2:=fun x hx=>by
   have hx':x∈is:=hx
   exact Bk9 x
  have hA:=BbI (Arr.mk k s n is)
  generalize Arr.mk k s n is=a at *
  by_cases h0:B8 a.k a.sh a.nu.length a.it.length=0
  ·rw[if_neg (fun e=>e h0)] at hA
   by_cases h1:a.nu.any (Ga a.k)=true
   ·rw[if_pos h1] at hA;rw[hA] at h;cases h
   ·rw[if_neg h1] at hA
    cases hr:C6 a.it 0 ((a.nu.length:Int)+a.it.length) with
    |none=>rw[hr] at hA;simp only at hA;rw[hA] at h;cases h
    |some r =>
     rw[hr] at hA
     simp only at hA
     split at hA
     ·rw[hA] at h;cases h
     ·rw[hA];exact BnK h0 hr ih
  ·rw[if_pos h0] at hA;rw[hA] at h;exact (h0 h).elim
termination_by a=>SizeOf.sizeOf a
decreasing_by
 have:=List.sizeOf_lt_of_mem hx'
 simp;omega
def UA(b:Arr):D:=.tup [.int .i64 (Bu b).1,.int .i64 (Bu b).2.1]
def Blk(a:Arr):Con:=fun k ds S=>match k with
 |124=>some (sRc Arr.row1 (fun b=>b∈a.it) (fun b=>.tup [.int .i64 (Bu b).1,.int .i64 (Bu b).2.1]))
 |148=>some (sRc Arr.row2 (fun b=>b=a) (fun b=>.int .i64 (wtA b)))
 |k=>RU k ds S
theorem BlP{a:Arr}(ha:a.ok)(ih:∀b∈a.it,ACalls Tryz.prog 124 ((sRc Arr.row2 (fun _=>True) UA).args b) ⟨[],[]⟩ (SpecR (sRc Arr.row2 (fun _=>True) UA) b)):ConOk Tryz.prog (Blk a):=by
 intro k ds S A h
 unfold Blk at h
 split at h
 ·injection h with h;subst h
  exact ConOk.plain (fun b hb=>En (r:=UA) (ih b hb)) rfl rfl
 ·injection h with h;subst h
  refine ConOk.plain (fun b hb=>?_) rfl rfl
  have hb:b=a:=hb
  rw[hb]
  exact (Bkw a ha).mono fun _ _ ⟨y,h1,h2,h3⟩=>⟨y,h1,h2,h3⟩
 ·exact O8 _ _ _ _ h
def cutW(a:Arr)(d:D)(S:St):Option LoopAnn :=
 match d with
 |.int _ i=>some { slots:=[76],keep:=[],α:=Unit,st:=fun _=>([.bool (Ga a.k (a.nu.getD i.toNat 0))],S),inv:=fun _=>True,mu:=fun _=>0 }
 |_=>none
noncomputable def Eck(a:Arr):Senv:={ EC (Blk a) 107 11 [18,23,30,43,48,76,81,94,105] (fun id=>match id with | 9=>([0,2,3,1,4,5,6,7,8,9],[1,4]) | _=>([],[])) with
 cut:=fun id env S=>match id with
  |14=>cutW a (Ab.look env 6) S
  |_=>none
 ann:=fun b _ S=>match b with
  |0=>some { slots:=[6],keep:=[0,1,2,3],α:=Nat,st:=fun i=>([.int .i64 i],S),inv:=fun i=>i<=a.nu.length/\∀z∈a.nu.take i,Ga a.k z=false,mu:=fun i=>a.nu.length-i }
  |2=>some { slots:=[8,7],keep:=[0,1,2,3],α:=Nat×Int×Int,st:=fun y=>([.int .i64 y.1,.int .i64 y.2.1],S),inv:=fun y=>y.1<=a.it.length/\0<=y.2.1/\y.2.1<=17/\0<=y.2.2/\y.2.2<=262145/\C6 (a.it.drop y.1) y.2.1 y.2.2=C6 a.it 0 ((a.nu.length:Int)+a.it.length),mu:=fun y=>a.it.length-y.1 }
  |_=>none }
noncomputable section
def QI(a:Arr):Int:=Arr.k a
def Qoe(a:Arr):Bool:=decide (QI a<Z1)
def Qof(a:Arr):Bool:=decide ((3:Int)<QI a)
def QgP(a:Arr):Bool:=bif Qoe a then true else Qof a
def VU(a:Arr):Int:=Prod.fst (Bu a)
def QgQ(a:Arr):Int:=Prod.fst (Prod.snd (Bu a))
def Zn(a:Arr):Prop:=Z0=QgQ a/\True
def J0(a:Arr):Nat:=LN (Arr.sh a)
def VV(a:Arr)(b:Nat):List D:=[ZI (GI (Arr.sh a) b)]
def Qog(a:Arr):Prop:=IntsP (J0 a) fun i=>VV a i
def Qoh(a:Arr):List Int:=Bj (J0 a) fun i=>VV a i
def QgR(a:Arr):Int:=Ec (Qoh a)
def Qoi(a:Arr):D:=D.sl N1 (J0 a) (fun i=>VV a i) Mode.any
def Qoj(a:Nat)(b:Arr):Prop:=SM a/\SM (Qoi b)
def Qok(a:Arr):Prop:=Qog a/\QgR a=Z0
def Qav(a:Arr):List Int:=Arr.nu a
def QP(a:Arr):Nat:=LN (Qav a)
def XI(a:Arr):List Arr:=Arr.it a
def QQ(a:Arr):Nat:=LN (XI a)
def Qol(a:Arr):Bool:=BY (QI a) (QP a) (QQ a) != CK (Qoh a)
def Qaw(a:Arr):Prop:=True/\∃(_y:Unit),True/\((16:Int)=VU a/\Zn a)/\True/\True
def Zo(a:Arr):Int:=(NI (QP a))
def QgS(a:Nat)(b:Arr):Prop:=a<=QP b/\∀(z:Int),z∈List.take a (Qav b)->Ga (QI b) z=false
def Zp(a:Arr)(b:Nat):List D:=[ZI (GI (Qav a) b)]
def Qax:Arr:=DA
def Zq(a:Arr)(b:Nat):Arr:=List.getD (XI a) b Qax
def QNS(a:Arr)(b:Nat):List Int:=Arr.sh (Zq a b)
def QNT(a:Arr)(b:Nat):List Int:=Arr.nu (Zq a b)
def Qom(a:Arr)(b:Nat):List Arr:=Arr.it (Zq a b)
def Qay(a:Arr)(b:Nat):List D:=[ZI (Arr.k (Zq a b)),SI (QNS a b),SI (QNT a b),D.sl N4 (LN (Qom a b)) (fun i=>Arr.row (List.getD (Qom a b) i Qax)) Mode.any]
def VW(a:Nat)(b:Arr):Prop:=(SM a/\(SM (QI b)/\(SM (J0 b)/\(∀(i:Nat),i<J0 b->SM (VV b i))/\True)/\(SM (QP b)/\(∀(i:Nat),i<QP b->SM (Zp b i))/\True)/\(SM (QQ b)/\(∀(i:Nat),i<QQ b->SM (Qay b i))/\True)/\True)/\True)/\True
def QgT(a:Arr)(b:Nat):Int:=GI (Qav a) (Int.toNat (↑b:Int))
def Qaz(a:Arr)(b:Nat):Bool:=Ga (QI a) (QgT a b)
def Qon(a:Nat)(b:Arr)(c:Nat):Prop:=SM a/\ifB (QI b==2) (SM a/\Bc (Z0<=(↑c:Int)/\(↑c:Int)<Zo b) (True/\∀(_y:Unit),True->∃(_x:Unit),True/\((!Wr (QgT b c))=Qaz b c/\True)/\VW a b)) (∃(_x:Unit),True/\(false=Qaz b c/\True)/\VW a b)
def Qoo(a:Arr):Prop:=True/\∃(_y:Unit),True/\((17:Int)=VU a/\Zn a)/\True/\True
def QNU(a:Arr):D:=D.agg [ZI (QI a),Qoi a,D.sl N1 (QP a) (fun i=>Zp a i) Mode.any,D.sl N4 (QQ a) (fun i=>Qay a i) Mode.any]
def Qop(a:Arr)(b:Nat):Prop:=SM (QNU a)/\SM (D.ref N0 b N0)/\SM (ZI Z0)/\SM (ZI Z0)/\True
def QaA(a:Arr):Int:=(NI (QQ a))
def QgU(a:Nat)(b:Arr)(c d:Int):Prop:=a<=QQ b/\Z0<=c/\c<=17/\Z0<=d/\d<=262145/\C6 (List.drop a (XI b)) c d=C6 (XI b) Z0 (Zo b+QaA b)
def QaB(a:Arr)(b:Nat):Arr:=List.getD (XI a) (Int.toNat (↑b:Int)) Qax
def Qoq(a:Arr)(b:Nat):List Int:=Arr.sh (QaB a b)
def Qor(a:Arr)(b:Nat):Nat:=LN (Qoq a b)
def Qos(a:Arr)(b:Nat):List Int:=Arr.nu (QaB a b)
def Qot(a:Arr)(b:Nat):Nat:=LN (Qos a b)
def Qou(a:Arr)(b:Nat):List Arr:=Arr.it (QaB a b)
def Qov(a:Arr)(b:Nat):Nat:=LN (Qou a b)
def Qow(a:Arr):Int:=IntKind.wrap IntKind.i64 (QgQ a+Z1)
def Qox(a:Arr):Prop:=True/\∃(_y:Unit),True/\((21:Int)=VU a/\Zn a)/\True/\True
def Qoy(a:Arr)(b:Nat):Prop:=(∃(x:Nat),QgS x a/\(Z0=(↑x:Int)/\True)/\VW b a)/\∀(x:Nat),QgS x a->SM b/\ifB (decide ((↑x:Int)<Zo a)) ((SM b/\ifB (QI a==Z1) (SM b/\Bc (Z0<=(↑x:Int)/\(↑x:Int)<Zo a) (True/\∀(_y:Unit),True->ifB (!Bby (QgT a x)) (∃(_x_1:Unit),True/\(true=Qaz a x/\True)/\VW b a) (Qon b a x))) (Qon b a x))/\∀(_x_1:Unit),True->ifB (Qaz a x) (Qoo a) (Qop a b/\∃(y:Nat),QgS y a/\QP a-y<QP a-x/\(IntKind.wrap IntKind.i64 ((↑x:Int)+Z1)=(↑y:Int)/\True)/\VW b a)) ((∃(x:Nat×Int×Int),QgU x.1 a x.2.1 x.2.2/\(Z0=(NI x.1)/\Z0=x.2.1/\True)/\VW b a)/\∀(x:Nat×Int×Int),QgU x.1 a x.2.1 x.2.2->SM b/\ifB (decide ((NI x.1)<QaA a)) (SM b/\Bc (Z0<=(NI x.1)/\(NI x.1)<QaA a) (∃(x_1:Arr),((Arr.k (QaB a x.1)=QI x_1/\(Qor a x.1=J0 x_1/\(∀(i:Nat),i<Qor a x.1->[ZI (GI (Qoq a x.1) i)]=VV x_1 i)/\True)/\(Qot a x.1=QP x_1/\(∀(i:Nat),i<Qot a x.1->[ZI (GI (Qos a x.1) i)]=Zp x_1 i)/\True)/\(Qov a x.1=QQ x_1/\(∀(i:Nat),i<Qov a x.1->Arr.row (List.getD (Qou a x.1) i Qax)=Arr.row (Zq x_1 i))/\True)/\True)/\True)/\(True/\True)/\x_1∈XI a/\∀(_y:Unit),True->ifB (VU x_1 != Z0) (Qoo a) (Qop a b/\∃(y:Nat×Int×Int),QgU y.1 a y.2.1 y.2.2/\QQ a-y.1<QQ a-x.1/\(IntKind.wrap IntKind.i64 ((NI x.1)+Z1)=(NI y.1)/\(if x.2.1<Qow x_1 then Qow x_1 else x.2.1)=y.2.1/\True)/\VW b a))) (ifB (decide ((16:Int)<x.2.1)) (Qox a) (SM b/\∃(x_1:Arr),((QI a=QI x_1/\(J0 a=J0 x_1/\(∀(i:Nat),i<J0 a->VV a i=VV x_1 i)/\True)/\(QP a=QP x_1/\(∀(i:Nat),i<QP a->Zp a i=Zp x_1 i)/\True)/\(QQ a=QQ x_1/\(∀(i:Nat),i<QQ a->Qay a i=Qay x_1 i)/\True)/\True)/\True)/\(True/\True)/\x_1=a/\∀(_y:Unit),True->ifB (decide ((262144:Int)<wtA x_1)) (Qox a) (True/\∃(_y:Unit),True/\(Z0=VU a/\x.2.1=QgQ a/\True)/\True/\True))))
end
theorem Bma(a : Arr)(hok : a.ok)(ha : a.nu.length<=maxLen /\ a.it.length<=maxLen /\ a.sh.length<=maxLen)(ih : ∀b∈a.it, ACalls Tryz.prog 124 ((sRc Arr.row2 (fun _=>True) UA).args b) ⟨[], []⟩ (SpecR (sRc Arr.row2 (fun _=>True) UA) b)) :
  ACalls Tryz.prog 124 ((sRc Arr.row2 (fun _=>True) UA).args a) ⟨[],[]⟩ (SpecR (sRc Arr.row2 (fun _=>True) UA) a):=by
 refine Bg (A:=sRc Arr.row2 (fun _=>True) UA) (x:=a) (E:=Eck a) (eOk (BlP hok ih) rfl) Tryz.func124 rfl (by kernel_rfl) rfl (by simp[sRc,Eck,EC,E0]) ?_
 simp only[sRc,UA]
 refine Bi (T :=
  ∀(x:Nat),True->(SM x/\ifB (Qoe a) (true=QgP a/\True) (SM x/\Qof a=QgP a/\True))/\ifB (QgP a) (True/\∃(y:Unit),True/\((14:Int)=VU a/\Zn a)/\True/\True) (SM x/\Qog a/\∀(y:Unit),True->ifB (QgR a != Z0) (True/\∃(y:Unit),True/\(QgR a=VU a/\Zn a)/\True/\True) (SM x/\SM x/\ifB (QI a==3) (SM x/\SM x/\SM x/\True/\∀(y:Unit),True->Qoj x a/\Qok a/\∀(y:Unit),True->ifB (Qol a) (Qaw a) (ifB (decide (Z0<Zo a)) (Qaw a) (Qoy a x))) (SM x/\SM x/\True/\∀(y:Unit),True->Qoj x a/\Qok a/\∀(y:Unit),True->ifB (Qol a) (Qaw a) (ifB (decide (Z0<QaA a)) (Qaw a) (Qoy a x)))))) (by kernel_rfl) ?_
 delta DA GI LN N0 N1 N4 NI SI SM Z0 Z1 ZI QI Qoe Qoh QgR Qoi Qoj Qok Qav QP XI QQ Qol Qof Qaw Zo QgS Zp Qax Zq QNS QNT Qom Qay QgP VW QgT Qaz Qon Qoo QNU Qop QaA QgU QaB VU Qoq Qor Qos Qot Qou Qov Qow Qox Qoy QgQ Zn J0 VV Qog
 have da:(default:Arr)=Arr.mk 0 [] [] []:=rfl
 simp only[<- da,B0,Int.toNat_natCast,Bf,Bd,decide_eq_true_eq,decide_eq_false_iff_not,true_and,and_true,beq_iff_eq,bne_iff_ne,Bool.cond_true_left,beq_eq_false_iff_ne,ne_eq,exists_const,forall_const]
 have hA:=BbI a
 obtain ⟨l1,l2,l3⟩:=ha
 simp only[maxLen] at l1 l2 l3
 have tt:(∀i:Nat,i<a.sh.length->True)/\(∀i:Nat,i<a.nu.length->True)/\∀i:Nat,i<a.it.length->True:=⟨fun _ _=>trivial,fun _ _=>trivial,fun _ _=>trivial⟩
 have bad:∀e,B8 a.k a.sh a.nu.length a.it.length=e->e≠0->e=(Bu a).1/\0=(Bu a).2.1:=fun e h1 h2=>by
  rw[if_pos (by rw[h1];exact h2),h1] at hA
  rw[hA];exact⟨rfl,rfl⟩
 refine⟨⟨fun h=>by simp[h],fun h=>by simp[h]⟩,fun h=>bad 14 ?_ (by decide),fun h=>⟨BQ _,fun hd=>bad _ ?_ hd,fun hd=>?_⟩⟩
 ·rw[Bool.or_eq_true,decide_eq_true_eq,decide_eq_true_eq] at h
  unfold B8;rw[if_neg (by omega)]
 ·rw[Bool.or_eq_false_iff,decide_eq_false_iff_not,decide_eq_false_iff_not] at h
  unfold B8;rw[if_pos (by omega),if_pos hd]
 rw[Bool.or_eq_false_iff,decide_eq_false_iff_not,decide_eq_false_iff_not] at h
 have hd0:Ec a.sh=0:=by simpa using hd
 have hk:a.k=1\/a.k=2\/a.k=3:=by omega
 have hf:B8 a.k a.sh a.nu.length a.it.length=if ((if a.k=3 then (a.it.length:Int) else a.nu.length)≠CK a.sh)\/((if a.k=3 then (a.nu.length:Int) else a.it.length)≠0) then 16 else 0:=by
  unfold B8;rw[if_pos hk,if_neg (fun e=>e hd0)]
 have hsz:BY a.k a.nu.length a.it.length=if a.k=3 then (a.it.length:Int) else a.nu.length:=by
  unfold BY
  by_cases k3:a.k=3
  ·rw[if_neg (by omega),if_pos k3,if_pos k3]
  ·rw[if_pos (by omega),if_neg k3]
 rw[<- hsz] at hf
 refine⟨fun k3=>⟨⟨BQ _,hd0⟩,fun hs=>bad 16 (by rw[hf,if_pos (.inl hs)]) (by decide),fun hs=>⟨fun ho=>bad 16 (by rw[hf,if_pos (.inr (by rw[if_pos k3];omega))]) (by decide),fun ho=>?_⟩⟩,
  fun k3=>⟨⟨BQ _,hd0⟩,fun hs=>bad 16 (by rw[hf,if_pos (.inl hs)]) (by decide),fun hs=>⟨fun ho=>bad 16 (by rw[hf,if_pos (.inr (by rw[if_neg k3];omega))]) (by decide),fun ho=>?_⟩⟩⟩
 all_goals
  have hs':BY a.k a.nu.length a.it.length=CK a.sh:=by simpa using hs
  have h0:B8 a.k a.sh a.nu.length a.it.length=0:=by
   rw[hf,if_neg]
   rintro (h1 | h1)
   ·exact h1 hs'
   ·simp only[k3,if_true,if_false] at h1;omega
  clear hf hs hsz
  have hsm:=Ie h0
  refine⟨⟨0,⟨Nat.zero_le _,by simp⟩,rfl,tt⟩,fun i hi=>⟨fun hlt=>?_,fun hge=>?_⟩⟩
  ·have hlt':i<a.nu.length:=by omega
   have hmem:a.nu.getD i 0∈a.nu:=by rw[List.getD_eq_getElem?_getD,List.getElem?_eq_getElem hlt'];exact List.getElem_mem hlt'
   have htk:a.nu.take (i+1)=a.nu.take i++[a.nu.getD i 0]:=by
    rw[List.take_add_one];simp[List.getD_eq_getElem?_getD,hlt']
   generalize a.nu.getD i 0=z at *
   refine⟨⟨fun k1=>⟨⟨by omega,hlt⟩,fun hn=>⟨by simp at hn;simp[Ga,k1,hn],tt⟩,fun hn=>⟨fun k2=>by omega,fun k2=>⟨by simp at hn;simp[Ga,k1,hn],tt⟩⟩⟩,fun k1=>⟨fun k2=>⟨⟨by omega,hlt⟩,by simp[Ga,k2],tt⟩,fun k2=>⟨by simp[Ga,k1,k2],tt⟩⟩⟩,fun hb=>?_,fun hb=>⟨i+1,⟨by omega,fun y hy=>?_⟩,by omega,Ba (by omega) (by omega),tt⟩⟩
   ·have:a.nu.any (Ga a.k)=true:=List.any_eq_true.2 ⟨z,hmem,hb⟩
    rw[if_neg (fun e=>e h0),if_pos this] at hA
    rw[hA]
    exact⟨rfl,rfl⟩
   ·rw[htk,List.mem_append] at hy
    rcases hy with hy | hy
    ·exact hi.2 y hy
    ·simp at hy;rw[hy];exact hb
  ·have hii:i=a.nu.length:=by omega
   rw[hii,List.take_length] at hi
   have hany:¬a.nu.any (Ga a.k)=true:=by
    rw[List.any_eq_true]
    rintro ⟨z,hz,hb⟩
    rw[hi.2 z hz] at hb
    cases hb
   rw[if_neg (fun e=>e h0),if_neg hany] at hA
   refine⟨⟨(0,0,(a.nu.length:Int)+a.it.length),⟨Nat.zero_le _,Int.le_refl _,by simp,by simp only;omega,by simp only;omega,by simp⟩,⟨rfl,rfl⟩,tt⟩,?_⟩
   rintro ⟨j,d,w⟩ ⟨b1,b2,b3,b4,b5,hch⟩
   simp only at b1 b2 b3 b4 b5 hch ⊢
   refine⟨fun hlt=>⟨⟨by omega,hlt⟩,?_⟩,fun hge=>?_⟩
   ·have hlt':j<a.it.length:=by omega
    have hbd:=Ef (a.it.getD j default)
    rw[Gt hlt',C6] at hch
    refine⟨a.it.getD j default,⟨rfl,⟨rfl,fun _ _=>rfl⟩,⟨rfl,fun _ _=>rfl⟩,rfl,fun _ _=>rfl⟩,Cg hlt',fun herr=>?_,fun hok=>?_⟩
    ·rw[if_pos herr] at hch
     rw[<- hch] at hA
     rw[hA]
     exact⟨rfl,rfl⟩
    ·have hok:(Bu (a.it.getD j default)).1=0:=by simpa using hok
     rw[if_neg (fun hne=>hne hok)] at hch
     have w1:IntKind.i64.wrap ((Bu (a.it.getD j default)).2.1+1)=(Bu (a.it.getD j default)).2.1+1:=Ba (by omega) (by omega)
     rw[w1]
     refine⟨(j+1,(if d<(Bu (a.it.getD j default)).2.1+1 then (Bu (a.it.getD j default)).2.1+1 else d),(if 262145<w+(Bu (a.it.getD j default)).2.2 then 262145 else w+(Bu (a.it.getD j default)).2.2)),⟨by simp only;omega,?_,?_,?_,?_,hch⟩,by simp only;omega,⟨Ba (by omega) (by omega),rfl⟩,tt⟩
     ·simp only;split<;>omega
     ·simp only;split<;>omega
     ·simp only;split<;>omega
     ·simp only;split<;>omega
   ·have hj:j=a.it.length:=by omega
    rw[hj,List.drop_length,C6] at hch
    have hw:=BnK h0 hch.symm fun x _ hx=>Bk9 x hx
    rw[<- hch] at hA
    simp only at hA hw
    refine⟨fun hc=>?_,fun hc=>⟨a,⟨rfl,⟨rfl,fun _ _=>rfl⟩,⟨rfl,fun _ _=>rfl⟩,rfl,fun _ _=>rfl⟩,rfl,fun hq=>?_,fun hq=>?_⟩⟩
    ·rw[if_pos (.inl hc)] at hA
     rw[hA];exact⟨rfl,rfl⟩
    ·rw[if_pos (.inr (by omega))] at hA
     rw[hA];exact⟨rfl,rfl⟩
    ·rw[if_neg (by omega)] at hA
     rw[hA];exact⟨rfl,rfl⟩
theorem BlD:∀(a:Arr),a.ok->ACalls Tryz.prog 124 ((sRc Arr.row2 (fun _=>True) UA).args a) ⟨[],[]⟩ (SpecR (sRc Arr.row2 (fun _=>True) UA) a)
 |.mk k s n is,h=>by
  have h':=h
  simp only[Arr.ok] at h'
  obtain ⟨_,_,_,h1,h2,h3,h4⟩:=h'
  refine Bma (.mk k s n is) h ⟨h2,h3,h1⟩ fun b hb=>?_
  have hb':b∈is:=hb
  exact BlD b ((E7 _).1 h4 b hb')
termination_by a=>SizeOf.sizeOf a
decreasing_by
 have:=List.sizeOf_lt_of_mem hb'
 simp;omega
theorem BpP{k:Nat}{row:Arr->List D}{q q':Arr->Prop}{r:Arr->D}{b:Arr}(h:ACalls Tryz.prog k ((sRc row q r).args b) ⟨[],[]⟩ (SpecR (sRc row q r) b)):ACalls Tryz.prog k ((sRc row q' r).args b) ⟨[],[]⟩ (SpecR (sRc row q' r) b) :=
 h.mono fun _ _ ⟨y,h1,h2,h3⟩=>⟨y,h1,h2,h3⟩
def BjA(a:Arr):D:=.int .i64 (Bu a).1
def Bji(a:Arr):Con:=fun k _ _=>match k with
 |124=>some (sRc Arr.row2 (fun b=>b=a) (fun b=>.tup [.int .i64 (Bu b).1,.int .i64 (Bu b).2.1]))
 |95=>some (sRc Arr.row1 (fun b=>b=a) (fun b=>.int .i64 (Bu b).1))
 |_=>none
theorem BiK{a:Arr}(ha:a.ok):ConOk Tryz.prog (Bji a):=by
 intro k ds S A h
 unfold Bji at h
 split at h
 ·injection h with h;subst h
  refine ConOk.plain (fun b hb=>?_) rfl rfl
  have hb:b=a:=hb
  rw[hb]
  exact BpP (r:=UA) (BlD a ha)
 ·injection h with h;subst h
  refine ConOk.plain (fun b hb=>?_) rfl rfl
  have hb:b=a:=hb
  rw[hb]
  exact (Bk3 a ha).mono fun _ _ ⟨y,h1,h2,h3⟩=>⟨(),trivial,h2,h3⟩
 ·cases h
noncomputable def Err(a:Arr):Senv:=EC (Bji a) 11 5 [] (fun _=>([],[]))
noncomputable section
def QgV(a:Arr):Nat:=LN (Arr.sh a)
def Qoz(a:Arr)(b:Nat):List D:=[ZI (GI (Arr.sh a) b)]
def QgW(a:Arr):Nat:=LN (Arr.nu a)
def QoA(a:Arr)(b:Nat):List D:=[ZI (GI (Arr.nu a) b)]
def QgX(a:Arr):Nat:=LN (Arr.it a)
def QoB:Arr:=DA
def QaC(a:Arr)(b:Nat):Arr:=List.getD (Arr.it a) b QoB
def QNV(a:Arr)(b:Nat):List Int:=Arr.sh (QaC a b)
def QNW(a:Arr)(b:Nat):List Int:=Arr.nu (QaC a b)
def QoC(a:Arr)(b:Nat):List Arr:=Arr.it (QaC a b)
def QoD(a:Arr)(b:Nat):List D:=[ZI (Arr.k (QaC a b)),SI (QNV a b),SI (QNW a b),D.sl N4 (LN (QoC a b)) (fun i=>Arr.row (List.getD (QoC a b) i QoB)) Mode.any]
end
theorem Bja(a:Arr)(ha:a.ok):ACalls Tryz.prog 107 ((sRc Arr.row2 (fun _=>True) BjA).args a) ⟨[],[]⟩ (SpecR (sRc Arr.row2 (fun _=>True) BjA) a):=by
 refine Bg (A:=sRc Arr.row2 (fun _=>True) BjA) (x:=a) (E:=Err a) (eOk (BiK ha) rfl) Tryz.func107 rfl (by kernel_rfl) rfl (by simp[sRc,Err,EC,E0]) ?_
 simp only[sRc,BjA]
 refine Bi (T :=
  ∀(x:Nat),True->SM x/\∃(x:Arr),((Arr.k a=Arr.k x/\(QgV a=QgV x/\(∀(i:Nat),i<QgV a->Qoz a i=Qoz x i)/\True)/\(QgW a=QgW x/\(∀(i:Nat),i<QgW a->QoA a i=QoA x i)/\True)/\(QgX a=QgX x/\(∀(i:Nat),i<QgX a->QoD a i=QoD x i)/\True)/\True)/\True)/\(True/\True)/\x=a/\∀(y:Unit),True->RT (Prod.fst (Bu x)=Prod.fst (Bu a))) (by kernel_rfl) ?_
 delta DA GI LN N1 N4 SI SM Z0 ZI QgV Qoz QoD QgW QoA QgX QoB QaC QNV QNW QoC RT
 simp only[and_true,exists_const]
 intro x _
 exact⟨trivial,a,⟨rfl,⟨rfl,fun _ _=>rfl⟩,⟨rfl,fun _ _=>rfl⟩,rfl,fun _ _=>rfl⟩,trivial,rfl,fun _ _=>⟨trivial,trivial,rfl⟩⟩
set_option maxRecDepth 100000
theorem Bm8(n:Int)(h:Br n):ACalls Tryz.prog 154 [.int .i64 n] ⟨[],[]⟩ (SpecR (sC [.int .i64 n] (.str (Lib.itoa n))) ()):=by
 refine ACalls.of_shelf_g ⟨_,Tryz.func154,by kernel_rfl,by kernel_rfl⟩ fun C args w ha hG hb=>?_
 obtain ⟨u,e,hu⟩:=EL ha
 have e2:args=[u].toArray:=by rw[<- e]
 subst e2
 simp only[Rep] at hu;subst hu
 have:=Tryz.strconv_Itoa n h.1 h.2 w (Bam hG.1 hb)
 exact this.mono fun e w' ⟨h1,k,os,h2⟩=>⟨⟨_,h1,by simp[Rep]⟩,by subst h2;exact Lib.below_grow _ _ (Nat.le_refl _) _ _⟩
def BcE:Con:=fun k ds S=>match k with
 |154=>match ds with
  | [.int .i64 n]=>some (pC [.int .i64 n] (.str (Lib.itoa n)) (Br n))
  |_=>none
 |k=>Up k ds S
theorem Wo:ConOk Tryz.prog BcE:=by
 intro k ds S A h
 unfold BcE at h
 split at h
 ·split at h
  ·injection h with h;subst h
   exact BZ fun h1=>⟨Bk _,Bm8 _ h1⟩
  ·cases h
 ·exact IX _ _ _ _ h
theorem Ws{n:Int}(h:Br n):1<=(Lib.itoa n).length/\(Lib.itoa n).length<=21:=by
 have k:∀u,u<18446744073709551616->1<=(Lib.decDigits u).length/\(Lib.decDigits u).length<=20:=fun u hu=>by
  rw[Lib.decDigits_length];exact⟨Lib.nDigits_pos u,Lib.nDigits_le20 u hu⟩
 unfold Br at h
 unfold Lib.itoa
 split
 ·have:=k n.natAbs (by omega);simp only[List.length_cons];omega
 ·have:=k n.toNat (by omega);omega
theorem BaF:∀u,48<=((Lib.decDigits u).getD 0 0).toNat/\((Lib.decDigits u).getD 0 0).toNat<=57
 |u=>by
  rw[Lib.decDigits]
  by_cases hu:u<10
  ·rw[dif_pos hu,List.getD_cons_zero,UInt8.toNat_ofNat'];omega
  ·rw[dif_neg hu]
   have:=BaF (u / 10)
   have hl:1<=(Lib.decDigits (u / 10)).length:=by rw[Lib.decDigits_length];exact Lib.nDigits_pos _
   rw[List.getD_eq_getElem?_getD,List.getElem?_append_left (l₁:=Lib.decDigits (u / 10)) (i:=0) (by omega),<- List.getD_eq_getElem?_getD]
   exact this
termination_by u=>u
decreasing_by omega
theorem Bg2{n:Int}(_:Br n)(e:(((Lib.itoa n).getD 0 0).toNat:Int)=45):n<0:=by
 unfold Lib.itoa at e
 split at e
 ·assumption
 ·have:=BaF n.toNat
  omega
def BA(n:Int):List UInt8:=if n<0 then 95::Lib.decDigits n.natAbs else Lib.decDigits n.toNat
noncomputable def Esh(_n:Int):Senv:=EC BcE 13 1 [2,3,8] (fun _=>([],[]))
noncomputable section
def QoE(a:Int):List UInt8:=List.drop N1 (List.take (TL (Lib.itoa a)) (Lib.itoa a))
end
theorem Bmt(n:Int)(h:Br n):ACalls Tryz.prog 135 [.int .i64 n] ⟨[],[]⟩ (SpecR (sC [.int .i64 n] (.str (BA n))) ()):=by
 refine Bg (A:=sC _ _) (x:=()) (E:=Esh n) (eOk Wo rfl) Tryz.func135 rfl (by kernel_rfl) rfl (by simp[sC,Esh,EC,E0]) ?_
 refine Bi (T :=
  Br n/\∀(y:Unit),True->Bc (Z0<=Z0/\Z0<(LI (Lib.itoa n))) (ifB ((BI (Lib.itoa n) N0)==45) (Bc (Z0<=Z1/\Z1<=(LI (Lib.itoa n))/\(LI (Lib.itoa n))<=(LI (Lib.itoa n))) (Bc (N1+LN (QoE n)<=9223372036854775807) (RT ((95:UInt8)::List.append [] (QoE n)=BA n)))) (RT (Lib.itoa n=BA n)))) (by kernel_rfl) ?_
 delta BI LI LN N0 N1 TL U0 Z0 Z1 QoE RT
 refine⟨h,fun _ _=>?_⟩
 have hl:=Ws h
 rw[Bd]
 refine⟨by omega,?_⟩
 simp only[Bd,Bf,beq_iff_eq,beq_eq_false_iff_ne,Int.toNat_natCast,List.take_length,true_and,and_true,exists_const]
 refine⟨fun e=>⟨by omega,?_,?_⟩,fun e=>?_⟩
 ·rw[List.length_drop];omega
 ·have hn:n<0:=Bg2 h (by omega)
  simp only[BA,Lib.itoa,if_pos hn];rfl
 ·have hn:¬n<0:=fun hn=>by
   have:((Lib.itoa n).getD 0 0).toNat=45:=by simp[Lib.itoa,if_pos hn]
   have e:¬(((Lib.itoa n).getD 0 0).toNat:Int)=45:=by simpa using e
   omega
  simp only[BA,Lib.itoa,if_neg hn]
theorem IS{n:Int}(h:Br n):1<=(BA n).length/\(BA n).length<=21:=by
 have:=Ws h
 unfold BA;unfold Lib.itoa at this
 split<;>simp_all
theorem Bd1(n:Int):n.tdiv 10=if n<0 then -((n.natAbs / 10:Nat):Int) else ((n.natAbs / 10:Nat):Int):=by
 cases n with
 |ofNat k=>rw[if_neg (by simp)];rfl
 |negSucc k=>rw[if_pos (Int.negSucc_lt_zero k)];rfl
theorem BoJ(n:Int):n.tmod 10=if n<0 then -((n.natAbs % 10:Nat):Int) else ((n.natAbs % 10:Nat):Int):=by
 cases n with
 |ofNat k=>rw[if_neg (by simp)];rfl
 |negSucc k=>rw[if_pos (Int.negSucc_lt_zero k)];rfl
theorem Bf3:∀k,k<10->List.drop k (List.take (k+1) [48,49,50,51,52,53,54,55,56,57])=[UInt8.ofNat (48+k)]:=by decide
theorem WL{n:Int}(h:10<=n.natAbs):BA n=BA (n.tdiv 10)++[UInt8.ofNat (48+n.natAbs % 10)]:=by
 have e:∀u,10<=u->Lib.decDigits u=Lib.decDigits (u / 10)++[UInt8.ofNat (48+u % 10)]:=fun u hu=>by
  rw[Lib.decDigits,dif_neg (by omega)]
 unfold BA
 by_cases hn:n<0
 ·have h2:n.tdiv 10 = -((n.natAbs / 10:Nat):Int):=by rw[Bd1,if_pos hn]
  have h1:n.tdiv 10<0:=by omega
  rw[if_pos hn,if_pos h1,e _ h,show (n.tdiv 10).natAbs=n.natAbs / 10 by omega];rfl
 ·have h2:n.tdiv 10=((n.natAbs / 10:Nat):Int):=by rw[Bd1,if_neg hn]
  have h1:¬n.tdiv 10<0:=by omega
  rw[if_neg hn,if_neg h1,e n.toNat (by omega),show (n.tdiv 10).toNat=n.toNat / 10 by omega,show n.toNat=n.natAbs by omega]
def Bl1(z:Nat):Con:=fun k ds _S=>match k with
 |171=>match ds with
  | [.int .i64 n]=>some (pC [.int .i64 n] (.str (BA n)) (Br n/\n.natAbs<z))
  |_=>none
 |_k=>none
noncomputable def Ers(z:Nat):Senv:=EC (Bl1 z) 41 1 [2,3,4,10,23] (fun id=>match id with | 7=>([0,1,3,4,5,6,7,2,8,9],[2]) | _=>([],[]))
noncomputable section
def QgY(a:Int):Bool:=bif decide ((-10:Int)<a) then decide (a<Z0) else false
def QaD:List UInt8:=[(48:UInt8),(49:UInt8),(50:UInt8),(51:UInt8),(52:UInt8),(53:UInt8),(54:UInt8),(55:UInt8),(56:UInt8),(57:UInt8)]
def QoF(a:Int):List UInt8:=List.drop (Int.toNat (IntKind.wrap IntKind.i64 (Z0-a))) (List.take (Int.toNat (IntKind.wrap IntKind.i64 (Z1-a))) QaD)
def QaE(a:Int):List UInt8:=BA a
def QgZ(a:Int):Bool:=bif decide (Z0<=a) then decide (a<10) else false
def QaF(a:Int):Int:=IntKind.wrap IntKind.i64 (Z0-Int.tmod a (10:Int))
def Qg0(a:Int):Int:=IntKind.wrap IntKind.i64 (QaF a+Z1)
def QoG(a:Int):Prop:=Br (IntKind.wrap IntKind.i64 (Int.tdiv a (10:Int)))/\Int.natAbs (IntKind.wrap IntKind.i64 (Int.tdiv a (10:Int)))<Int.natAbs a
def Qg1(a:Int):List UInt8:=BA (IntKind.wrap IntKind.i64 (Int.tdiv a (10:Int)))
def QoH(a:Int):Nat:=LN (Qg1 a)
def QoI(a:Int):List UInt8:=List.drop (Int.toNat (QaF a)) (List.take (Int.toNat (Qg0 a)) QaD)
def Qg2(a:Int):Int:=IntKind.wrap IntKind.i64 (Int.tmod a (10:Int)+Z1)
def QoJ(a:Int):List UInt8:=List.drop (Int.toNat (Int.tmod a (10:Int))) (List.take (Int.toNat (Qg2 a)) QaD)
end
theorem Bmh(n:Int)(h:Br n)(hc:ConOk Tryz.prog (Bl1 n.natAbs)):ACalls Tryz.prog 171 [.int .i64 n] ⟨[],[]⟩ (SpecR (sC [.int .i64 n] (.str (BA n))) ()):=by
 refine Bg (A:=sC _ _) (x:=()) (E:=Ers n.natAbs) (eOk hc rfl) Tryz.func171 rfl (by kernel_rfl) rfl (by simp[sC,Ers,EC,E0]) ?_
 refine Bi (T :=
  ifB (decide ((-10:Int)<n)) (decide (n<Z0)=QgY n/\True) (false=QgY n/\True)/\ifB (QgY n) (Bc (Z0<=IntKind.wrap IntKind.i64 (Z0-n)/\IntKind.wrap IntKind.i64 (Z0-n)<=IntKind.wrap IntKind.i64 (Z1-n)/\IntKind.wrap IntKind.i64 (Z1-n)<=10) (Bc (N1+LN (QoF n)<=9223372036854775807) (RT ((95:UInt8)::List.append [] (QoF n)=QaE n)))) (ifB (decide (Z0<=n)) (decide (n<10)=QgZ n/\True) (false=QgZ n/\True)/\ifB (QgZ n) (Bc (Z0<=n/\n<=IntKind.wrap IntKind.i64 (n+Z1)/\IntKind.wrap IntKind.i64 (n+Z1)<=10) (RT (List.drop (Int.toNat n) (List.take (Int.toNat (IntKind.wrap IntKind.i64 (n+Z1))) QaD)=QaE n))) (ifB (decide (Int.tmod n (10:Int)<Z0)) (True/\Bc (Z0<=QaF n/\QaF n<=Qg0 n/\Qg0 n<=10) (QoG n/\∀(y:Unit),True->Bc (QoH n+LN (QoI n)<=9223372036854775807) (RT (Qg1 n++QoI n=QaE n)))) (True/\Bc (Z0<=Int.tmod n (10:Int)/\Int.tmod n (10:Int)<=Qg2 n/\Qg2 n<=10) (QoG n/\∀(y:Unit),True->Bc (QoH n+LN (QoJ n)<=9223372036854775807) (RT (Qg1 n++QoJ n=QaE n))))))) (by kernel_rfl) ?_
 delta LN N1 Z0 Z1 QgY QoH QoI Qg2 QoJ QaD QoF QaE QgZ QaF Qg0 QoG Qg1 RT
 have h':=h
 unfold Br at h'
 have hd:=Bd1 n
 have ho:=BoJ n
 simp only[Bf,Bool.cond_false_right,Bool.and_eq_true,Bool.and_eq_false_iff,decide_eq_true_eq,decide_eq_false_iff_not,true_and,and_true,exists_const,forall_const]
 refine⟨⟨fun h=>by simp[h],fun h=>by simp[h]⟩,fun ⟨h1,h2⟩=>?_,fun h1=>⟨⟨fun h=>by simp[h],fun h=>by simp[h]⟩,fun ⟨h2,h3⟩=>?_,fun h2=>?_⟩⟩
 ·have e1:IntKind.i64.wrap (0-n)=(n.natAbs:Int):=by rw[Ba (by omega) (by omega)];omega
  have e2:IntKind.i64.wrap (1-n)=((n.natAbs+1:Nat):Int):=by rw[Ba (by omega) (by omega)];omega
  rw[e1,e2]
  rw[Bd]
  refine⟨by omega,?_⟩
  rw[Int.toNat_natCast,Int.toNat_natCast,Bf3 _ (by omega)]
  rw[Bd]
  refine⟨by simp,?_⟩
  unfold BA
  rw[if_pos h2,Lib.decDigits_one (by omega)];rfl
 ·have e2:IntKind.i64.wrap (n+1)=n+1:=Ba (by omega) (by omega)
  rw[e2]
  rw[Bd]
  refine⟨by omega,?_⟩
  rw[show (n+1).toNat=n.toNat+1 by omega,Bf3 _ (by omega)]
  unfold BA
  rw[if_neg (by omega),Lib.decDigits_one (by omega)]
 ·have hb:10<=n.natAbs:=by omega
  have e0:IntKind.i64.wrap (n.tdiv 10)=n.tdiv 10:=by
   refine Ba ?_ ?_<;>(rw[hd];split<;>omega)
  have i0:Br (n.tdiv 10)/\(n.tdiv 10).natAbs<n.natAbs:=by
   unfold Br;rw[hd];split<;>omega
  have hl:=(IS i0.1).2
  refine⟨fun h3=>?_,fun h3=>?_⟩
  ·have hn:n<0:=by
    by_cases hn:n<0
    ·exact hn
    ·rw[ho,if_neg hn] at h3;omega
   rw[if_pos hn] at ho
   have e1:IntKind.i64.wrap (0-n.tmod 10)=((n.natAbs % 10:Nat):Int):=by rw[Ba (by omega) (by omega)];omega
   have e2:IntKind.i64.wrap (((n.natAbs % 10:Nat):Int)+1)=((n.natAbs % 10+1:Nat):Int):=by rw[Ba (by omega) (by omega)];omega
   rw[e1,e2,e0]
   rw[Bd]
   refine⟨by omega,i0,?_⟩
   rw[Int.toNat_natCast,Int.toNat_natCast,Bf3 _ (by omega)]
   rw[Bd]
   exact⟨by simp only[List.length_cons,List.length_nil];omega,(WL hb).symm⟩
  ·have e1:n.tmod 10=((n.natAbs % 10:Nat):Int):=by
    rw[ho];split
    ·rename_i hn;rw[ho,if_pos hn] at h3;omega
    ·rfl
   have e2:IntKind.i64.wrap (((n.natAbs % 10:Nat):Int)+1)=((n.natAbs % 10+1:Nat):Int):=by rw[Ba (by omega) (by omega)];omega
   rw[e1,e2,e0]
   rw[Bd]
   refine⟨by omega,i0,?_⟩
   rw[Int.toNat_natCast,Int.toNat_natCast,Bf3 _ (by omega)]
   rw[Bd]
   exact⟨by simp only[List.length_cons,List.length_nil];omega,(WL hb).symm⟩
theorem Bn9:∀(z:Nat) (n:Int),Br n->n.natAbs<z->ACalls Tryz.prog 171 [.int .i64 n] ⟨[],[]⟩ (SpecR (sC [.int .i64 n] (.str (BA n))) ())
 |0,_,_,hz=>absurd hz (by omega)
 |z+1,n,h,hz=>Bmh n h (by
  intro k ds S A hk
  unfold Bl1 at hk
  split at hk
  ·split at hk
   ·injection hk with hk;subst hk
    exact BZ fun ⟨h1,h2⟩=>⟨Bk _,Bn9 z _ h1 (by omega)⟩
   ·cases hk
  ·cases hk)
theorem Bi8(n:Int)(h:Br n):ACalls Tryz.prog 171 [.int .i64 n] ⟨[],[]⟩ (SpecR (sC [.int .i64 n] (.str (BA n))) ()):=Bn9 _ n h (Nat.lt_succ_self _)
def BfT:Con:=fun k ds S=>match k with
 |135=>match ds with
  | [.int .i64 n]=>some (pC [.int .i64 n] (.str (BA n)) (Br n))
  |_=>none
 |171=>match ds with
  | [.int .i64 n]=>some (pC [.int .i64 n] (.str (BA n)) (Br n))
  |_=>none
 |k=>BcE k ds S
theorem Bc4:ConOk Tryz.prog BfT:=by
 intro k ds S A h
 unfold BfT at h
 split at h
 ·split at h
  ·injection h with h;subst h
   exact BZ fun h1=>⟨Bk _,Bmt _ h1⟩
  ·cases h
 ·split at h
  ·injection h with h;subst h
   exact BZ fun h1=>⟨Bk _,Bi8 _ h1⟩
  ·cases h
 ·exact Wo _ _ _ _ h
theorem gTz : Tryz.prog.globalNamed "math/bits.deBruijn64tab" = some 3 := by kernel_rfl
theorem BmK(w:World)(hc:w.cell? ⟨3,(IntKind.u64.wrap (bits BinOp.and IntKind.u64 16 (IntKind.u64.wrap (-16))*285870213051353865) / 288230376151711744).toNat,none⟩=some (.int .u8 4)):Calls Tryz.prog 184 #[.int .u64 16] w fun e w'=>e=.returned (.int .i64 4)/\Go.RowKit.Below w.heap.size w w':=by
 go_enter Tryz.func184,Tryz.ntmps184
 go_wp2
 all_goals go_ret
 all_goals exact⟨rfl,Go.RowKit.Below.refl _ _⟩
theorem BpY:ACalls Tryz.prog 184 [.int .u64 16] ⟨[],[]⟩ (SpecR (sC [.int .u64 16] (.int .i64 4)) ()):=by
 refine ACalls.of_shelf_g ⟨_,Tryz.func184,by kernel_rfl,by kernel_rfl⟩ fun C args w ha hG hb=>?_
 obtain ⟨u,e,hu⟩:=EL ha
 have e2:args=[u].toArray:=by rw[<- e]
 subst e2
 simp only[Rep] at hu;subst hu
 have ht : Lib.TabIs Tryz.prog w "math/bits.deBruijn64tab" .u8 (Lib.deBruijn64tab.map Int.ofNat) := Bam hG.2.1 hb
 have hc:=ht.cell gTz 15 (by decide)
 exact (BmK w hc).mono fun e w' ⟨h1,h2⟩=>⟨⟨_,h1,by simp[Rep]⟩,h2⟩
def Bk7:Con:=fun k ds S=>match k with
 |184=>some (pC ds (.int .i64 4) (BD ds [.int .u64 16]))
 |k=>BcE k ds S
theorem Bjj:ConOk Tryz.prog Bk7:=by
 intro k ds S A h
 unfold Bk7 at h
 split at h
 ·injection h with h;subst h
  exact BZ fun h1=>⟨Bk _,Ca h1 BpY⟩
 ·exact Wo _ _ _ _ h
def Bbz(k:Nat):UInt8:=[48,49,50,51,52,53,54,55,56,57,97,98,99,100,101,102].getD k 0
def GF(n:Nat):List UInt8:=if n<16 then [Bbz n] else [Bbz (n / 16),Bbz (n % 16)]
noncomputable def Ehb:Senv:={ EC Bk7 102 5 [10,11,12,13,14,15,16,17,18,28,30,34,46,68,89,94] (fun _=>([],[])) with unr:=fun b=>match b with | 0=>2 | _=>0 }
noncomputable section
def Qg3:List UInt8:=[(48:UInt8),(49:UInt8),(50:UInt8),(51:UInt8),(52:UInt8),(53:UInt8),(54:UInt8),(55:UInt8),(56:UInt8),(57:UInt8),(97:UInt8),(98:UInt8),(99:UInt8),(100:UInt8),(101:UInt8),(102:UInt8),(103:UInt8),(104:UInt8),(105:UInt8),(106:UInt8),(107:UInt8),(108:UInt8),(109:UInt8),(110:UInt8),(111:UInt8),(112:UInt8),(113:UInt8),(114:UInt8),(115:UInt8),(116:UInt8),(117:UInt8),(118:UInt8),(119:UInt8),(120:UInt8),(121:UInt8),(122:UInt8)]
def QoK(a:Int):Int:=(BI Qg3 (Int.toNat (Int.fdiv a (16:Int))))
def QoL(a:Int):Int:=(BI Qg3 (Int.toNat (Uy IntKind.u64 a (15:Int))))
def QoM(a:Int):List D:=[ZB (QoK a),ZB (QoL a)]
def Qa:D:=ZB Z0
def QoN:Prop:=SM N0/\(∀(i:Nat),i<N0->Cv (List D) [] [])/\True
def QoO(a:Int):Int:=(BI Qg3 (Int.toNat a))
def QoP(a:Int):List D:=[ZB (QoO a)]
end
theorem Bmf(n:Int)(h:0<=n/\n<128):ACalls Tryz.prog 177 [.sl 1 0 (fun _=>[]) .nil,.int .u64 n,.int .i64 16,.bool false,.bool false] ⟨[],[]⟩ (SpecR (sC [.sl 1 0 (fun _=>[]) .nil,.int .u64 n,.int .i64 16,.bool false,.bool false] (.tup [.sl 1 0 (fun _=>[]) .nil,.str (GF n.toNat)])) ()):=by
 refine Bg (A:=sC _ _) (x:=()) (E:=Ehb) (eOk Bjj rfl) Tryz.func177 rfl (by kernel_rfl) rfl (by simp[sC,Ehb,EC,E0]) ?_
 refine Bi (T :=
  (SM false/\True)/\∀(x:Nat),True->True/\(SM (16:Int)/\True)/\∀(y:Unit),True->ifB (decide ((16:Int)<=n)) (Bc (Z0<=Uy IntKind.u64 n (15:Int)/\Uy IntKind.u64 n (15:Int)<36) (SM x/\ifB (decide ((16:Int)<=Int.fdiv n (16:Int))) (Bc (Z0<=Uy IntKind.u64 (Int.fdiv n (16:Int)) (15:Int)/\Uy IntKind.u64 (Int.fdiv n (16:Int)) (15:Int)<36) (SM x/\False)) (Bc (Z0<=Int.fdiv n (16:Int)/\Int.fdiv n (16:Int)<36) (SM x/\True/\SM x/\chk (List.all (QoM n) byteB&&decide (LN (List.take N2 (List.drop (63:Nat) (Qa::Qa::Qa::Qa::Qa::Qa::Qa::Qa::Qa::Qa::Qa::Qa::Qa::Qa::Qa::Qa::Qa::Qa::Qa::Qa::Qa::Qa::Qa::Qa::Qa::Qa::Qa::Qa::Qa::Qa::Qa::Qa::Qa::Qa::Qa::Qa::Qa::Qa::Qa::Qa::Qa::Qa::Qa::Qa::Qa::Qa::Qa::Qa::Qa::Qa::Qa::Qa::Qa::Qa::Qa::Qa::Qa::Qa::Qa::Qa::Qa::Qa::Qa::QoM n)))=N2)) (True/\∃(y:Unit),True/\(QoN/\[UInt8.ofNat (Int.toNat (QoK n)),UInt8.ofNat (Int.toNat (QoL n))]=GF (Int.toNat n)/\True)/\True/\True))))) (Bc (Z0<=n/\n<36) (SM x/\True/\SM x/\chk (List.all (QoP n) byteB&&decide (LN (List.take N1 (List.drop (64:Nat) (Qa::Qa::Qa::Qa::Qa::Qa::Qa::Qa::Qa::Qa::Qa::Qa::Qa::Qa::Qa::Qa::Qa::Qa::Qa::Qa::Qa::Qa::Qa::Qa::Qa::Qa::Qa::Qa::Qa::Qa::Qa::Qa::Qa::Qa::Qa::Qa::Qa::Qa::Qa::Qa::Qa::Qa::Qa::Qa::Qa::Qa::Qa::Qa::Qa::Qa::Qa::Qa::Qa::Qa::Qa::Qa::Qa::Qa::Qa::Qa::Qa::Qa::Qa::Qa::QoP n)))=N1)) (True/\∃(y:Unit),True/\(QoN/\[UInt8.ofNat (Int.toNat (QoO n))]=GF (Int.toNat n)/\True)/\True/\True)))) (by kernel_rfl) ?_
 delta BI LN N0 N1 N2 SM U0 Z0 ZB Qg3 QoK QoL QoM Qa QoN QoO QoP
 obtain ⟨m,rfl⟩:∃m:Nat,n=m:=⟨n.toNat,by omega⟩
 have hm:m<128:=by omega
 refine⟨⟨rfl,trivial⟩,fun x _=>⟨trivial,⟨rfl,trivial⟩,fun _ _=>?_⟩⟩
 simp only[Bf,Bd,Bb,true_and,and_true,exists_const,decide_eq_true_eq,decide_eq_false_iff_not,Bool.and_eq_true,Int.toNat_natCast,and_false,implies_true]
 have ha:Uy .u64 (m:Int) 15=((m % 16:Nat):Int):=by
  have h1:Uy .u64 (m:Int) ((15:Nat):Int)=((m &&& 15:Nat):Int):=BiN rfl (by simp only[IntKind.bits];omega) (by simp only[IntKind.bits];omega)
  rw[show ((15:Nat):Int)=15 from rfl] at h1
  rw[h1,show (15:Nat)=2 ^ 4-1 from rfl,Nat.and_two_pow_sub_one_eq_mod]
 have hf:(m:Int).fdiv 16=((m / 16:Nat):Int):=Bjx m 16
 have hd:∀k,k<16->([48,49,50,51,52,53,54,55,56,57,97,98,99,100,101,102,103,104,105,106,107,108,109,110,111,112,113,114,115,116,117,118,119,120,121,122]:List UInt8).getD k 0=Bbz k:=by decide
 have hb:∀b:UInt8,byteB (.int .u8 (b.toNat:Int))=true:=fun b=>by
  have:=b.toNat_lt
  simp only[byteB,Bool.and_eq_true,decide_eq_true_eq];omega
 simp only[ha,hf,Int.toNat_natCast]
 refine⟨fun h16=>⟨by omega,by omega,fun _=>⟨by omega,⟨?_,rfl⟩,?_⟩⟩,fun h16=>⟨by omega,⟨?_,rfl⟩,?_⟩⟩
 ·rw[hd _ (by omega),hd _ (by omega)];simp only[List.all_cons,List.all_nil,hb];rfl
 ·rw[hd _ (by omega),hd _ (by omega)];simp only[UInt8.ofNat_toNat];unfold GF;rw[if_neg (by omega)]
 ·rw[hd _ (by omega)];simp only[List.all_cons,List.all_nil,hb];rfl
 ·rw[hd _ (by omega)];simp only[UInt8.ofNat_toNat];unfold GF;rw[if_pos (by omega)]
def Bla:Con:=fun k ds S=>match k with
 |177=>match ds with
  | [_,.int .u64 n,_,_,_]=>some (pC ds (.tup [.sl 1 0 (fun _=>[]) .nil,.str (GF n.toNat)]) (BD ds [.sl 1 0 (fun _=>[]) .nil,.int .u64 n,.int .i64 16,.bool false,.bool false]/\0<=n/\n<128))
  |_=>none
 |k=>BfT k ds S
theorem Bjg:ConOk Tryz.prog Bla:=by
 intro k ds S A h
 unfold Bla at h
 split at h
 ·split at h
  ·injection h with h;subst h
   exact BZ fun h1=>⟨Bk _,Ca h1.1 (Bmf _ h1.2)⟩
  ·cases h
 ·exact Bc4 _ _ _ _ h
noncomputable def Ehx:Senv:=EC Bla 8 2 [4] (fun _=>([],[]))
theorem Bpk(n:Int)(h:0<=n/\n<128):ACalls Tryz.prog 162 [.int .i64 n,.int .i64 16] ⟨[],[]⟩ (SpecR (sC [.int .i64 n,.int .i64 16] (.str (GF n.toNat))) ()):=by
 refine Bg (A:=sC _ _) (x:=()) (E:=Ehx) (eOk Bjg rfl) Tryz.func162 rfl (by kernel_rfl) rfl (by simp[sC,Ehx,EC,E0]) ?_
 refine Bi (T :=
  (((SM N0/\(∀(i:Nat),i<N0->Cv (List D) [] [])/\True)/\SM (IntKind.wrap IntKind.u64 n)/\SM (16:Int)/\decide (n<Z0)=false/\SM false/\True)/\Z0<=IntKind.wrap IntKind.u64 n/\IntKind.wrap IntKind.u64 n<128)/\∀(y:Unit),True->True/\RT (GF (Int.toNat (IntKind.wrap IntKind.u64 n))=GF (Int.toNat n))) (by kernel_rfl) ?_
 delta N0 SM Z0 RT
 have e:IntKind.u64.wrap n=n:=by rw[IntKind.wrap_u64];omega
 have e1:decide (n<0)=false:=by simp;omega
 simp only[e,e1]
 simpa using h
def Wt(P:Program)(TS:List Nat)(t:Nat):Bool :=
 match P.underlying t with
 |some (.slice e)=>TS.contains e&&decide (P.bytesOf e<=4096)
 |some (.struct fs)=>fs.toList.all fun f=>TS.contains f.type
 |some (.pointer e)=>TS.contains e
 |some (.array _ e)=>TS.contains e
 |some (.map k e)=>TS.contains e&&decide (P.bytesOf k+P.bytesOf e<=4096)
 |_=>true
theorem Bdi{H:Type}(d:DataW H):1<=Rows.uptoBulk d:=by
 cases d with
 |lit l=>cases l<;>simp[Rows.uptoBulk]
 |nil=>simp[Rows.uptoBulk]
 |ptr d=>simp[Rows.uptoBulk]
 |slice elems spare=>simp[Rows.uptoBulk]
 |agg parts=>simp[Rows.uptoBulk]
 |iface t d=>simp[Rows.uptoBulk]
 |map entries=>simp[Rows.uptoBulk]
 |held h=>simp[Rows.uptoBulk]
theorem W6{H:Type}:∀l:List (DataW H),l.length<=Rows.uptoBulkAll l
 | []=>by simp[Rows.uptoBulkAll]
 |x::r=>by
  have:=Bdi x
  have:=W6 r
  simp only[Rows.uptoBulkAll,List.length_cons]
  omega
theorem Bcf{H:Type}:∀l:List (Go.Lit×DataW H),l.length<=Rows.uptoBulkEntries l
 | []=>by simp[Rows.uptoBulkEntries]
 |(k,d)::r=>by
  have:=Bdi d
  have:=Bcf r
  have h:1<=Rows.uptoBulkEntry (k,d):=by cases k<;>simp[Rows.uptoBulkEntry]
  simp only[Rows.uptoBulkEntries,List.length_cons]
  omega
theorem Bcm{a b c:Nat}(h1:a<=c)(h2:b<=4096):a*b<=8192*c:=by
 calc a*b<=c*4096:=Nat.mul_le_mul h1 h2
  _<=8192*c:=by omega
mutual
theorem Blb{P:Program}{TS:List Nat}(hT:∀t∈TS,Wt P TS t=true){H:Type}:∀(d:DataW H) (t:Nat),t∈TS->∀x∈d.weights P t,x<=8192*Rows.uptoBulk d
 |.lit l,t,_,x,hx=>by
  cases l with
  |string bytes =>
   simp only[DataW.weights,List.mem_singleton] at hx
   simp only[Rows.uptoBulk]
   omega
  |_=>simp[DataW.weights] at hx
 |.nil,t,_,x,hx=>by simp[DataW.weights] at hx
 |.ptr d,t,ht,x,hx=>by
  have ho:=hT t ht
  simp only[DataW.weights] at hx
  unfold Wt at ho
  split at hx
  ·rename_i e hu
   rw[hu] at ho
   have:=Blb hT d e (by simpa using ho) x hx
   simp only[Rows.uptoBulk]
   omega
  ·simp at hx
 |.slice elems spare,t,ht,x,hx=>by
  have ho:=hT t ht
  simp only[DataW.weights] at hx
  unfold Wt at ho
  split at hx
  ·rename_i e hu
   rw[hu] at ho
   simp only[Bool.and_eq_true,decide_eq_true_eq] at ho
   have he:e∈TS:=by simpa using ho.1
   simp only[Rows.uptoBulk]
   rcases List.mem_cons.1 hx with rfl | hx
   ·exact Nat.le_trans (Bcm (Nat.add_le_add (W6 elems) (W6 spare)) ho.2) (by omega)
   ·rcases List.mem_append.1 hx with hx | hx
    ·have:=UD hT elems e he x hx
     omega
    ·have:=UD hT spare e he x hx
     omega
  ·simp at hx
 |.agg parts,t,ht,x,hx=>by
  have ho:=hT t ht
  simp only[DataW.weights] at hx
  unfold Wt at ho
  split at hx
  ·rename_i fs hu
   rw[hu] at ho
   have:=WP hT (fs.toList.map (·.type)) parts (fun t h=>by
    obtain ⟨f,hf,rfl⟩:=List.mem_map.1 h
    simpa using List.all_eq_true.1 ho f hf) x hx
   simp only[Rows.uptoBulk]
   omega
  ·rename_i e hu
   rw[hu] at ho
   have:=UD hT parts e (by simpa using ho) x hx
   simp only[Rows.uptoBulk]
   omega
  ·simp at hx
 |.iface _ _,t,_,x,hx=>by simp[DataW.weights] at hx
 |.map entries,t,ht,x,hx=>by
  have ho:=hT t ht
  simp only[DataW.weights] at hx
  unfold Wt at ho
  split at hx
  ·rename_i k e hu
   rw[hu] at ho
   simp only[Bool.and_eq_true,decide_eq_true_eq] at ho
   simp only[Rows.uptoBulk]
   rcases List.mem_cons.1 hx with rfl | hx
   ·exact Nat.le_trans (Bcm (Bcf entries) ho.2) (by omega)
   ·have:=BfY hT entries e (by simpa using ho.1) x hx
    omega
  ·simp at hx
 |.held _,t,_,x,hx=>by simp[DataW.weights] at hx
theorem UD{P:Program}{TS:List Nat}(hT:∀t∈TS,Wt P TS t=true){H:Type}:∀(l:List (DataW H)) (e:Nat),e∈TS->∀x∈DataW.weightsAll P e l,x<=8192*Rows.uptoBulkAll l
 | [],e,_,x,hx=>by simp[DataW.weightsAll] at hx
 |d::r,e,he,x,hx=>by
  simp only[DataW.weightsAll] at hx
  simp only[Rows.uptoBulkAll]
  rcases List.mem_append.1 hx with hx | hx
  ·have:=Blb hT d e he x hx;omega
  ·have:=UD hT r e he x hx;omega
theorem WP{P:Program}{TS:List Nat}(hT:∀t∈TS,Wt P TS t=true){H:Type}:∀(ts:List Nat) (l:List (DataW H)),(∀t∈ts,t∈TS)->∀x∈DataW.weightsEach P ts l,x<=8192*Rows.uptoBulkAll l
 | [],l,_,x,hx=>by simp[DataW.weightsEach] at hx
 |t::ts,[],_,x,hx=>by simp[DataW.weightsEach] at hx
 |t::ts,d::r,ht,x,hx=>by
  simp only[DataW.weightsEach] at hx
  simp only[Rows.uptoBulkAll]
  rcases List.mem_append.1 hx with hx | hx
  ·have:=Blb hT d t (ht t (by simp)) x hx;omega
  ·have:=WP hT ts r (fun u hu=>ht u (by simp[hu])) x hx;omega
theorem BfY{P:Program}{TS:List Nat}(hT:∀t∈TS,Wt P TS t=true){H:Type}:∀(l:List (Go.Lit×DataW H)) (e:Nat),e∈TS->∀x∈DataW.weightsEntries P e l,x<=8192*Rows.uptoBulkEntries l
 | [],e,_,x,hx=>by simp[DataW.weightsEntries] at hx
 |(k,d)::r,e,he,x,hx=>by
  simp only[DataW.weightsEntries] at hx
  simp only[Rows.uptoBulkEntries]
  rcases List.mem_append.1 hx with hx | hx
  ·cases k with
   |string bytes =>
    simp only[DataW.weightsEntry] at hx
    simp only[Rows.uptoBulkEntry]
    rcases List.mem_cons.1 hx with rfl | hx
    ·omega
    ·have:=Blb hT d e he x hx;omega
   |_ =>
    simp only[DataW.weightsEntry] at hx
    simp only[Rows.uptoBulkEntry]
    have:=Blb hT d e he x hx;omega
  ·have:=BfY hT r e he x hx;omega
end
theorem BfJ{P:Program}{TS:List Nat}(hT:∀t∈TS,Wt P TS t=true){H:Type}{ts:List Nat}(hts:∀t∈ts,t∈TS){ds:List (DataW H)}(hk:Rows.uptoSmall H ds=true):(DataW.weightsEach P ts ds).all (·<=BC)=true:=by
 have hb:Rows.uptoBulkAll ds<=1048576:=of_decide_eq_true hk
 refine List.all_eq_true.2 fun x hx=>?_
 have:=WP hT ts ds hts x hx
 unfold BC
 simp only[decide_eq_true_eq]
 omega
mutual
inductive Nd where
 |mk (kd at_ cl:Int) (tx:List UInt8) (pr op:Int) (va:Arr) (ki:List Nd) (bo:List Sm) (de sl ss:Int)
inductive Sm where
 |mk (kd at_:Int) (nm:List UInt8) (sl:Int) (te nd:Nd)
end
def Nd.kd:Nd->Int | .mk x _ _ _ _ _ _ _ _ _ _ _=>x
def Nd.at_:Nd->Int | .mk _ x _ _ _ _ _ _ _ _ _ _=>x
def Nd.cl:Nd->Int | .mk _ _ x _ _ _ _ _ _ _ _ _=>x
def Nd.tx:Nd->List UInt8 | .mk _ _ _ x _ _ _ _ _ _ _ _=>x
def Nd.pr:Nd->Int | .mk _ _ _ _ x _ _ _ _ _ _ _=>x
def Nd.op:Nd->Int | .mk _ _ _ _ _ x _ _ _ _ _ _=>x
def Nd.va:Nd->Arr | .mk _ _ _ _ _ _ x _ _ _ _ _=>x
def Nd.ki:Nd->List Nd | .mk _ _ _ _ _ _ _ x _ _ _ _=>x
def Nd.bo:Nd->List Sm | .mk _ _ _ _ _ _ _ _ x _ _ _=>x
def Nd.de:Nd->Int | .mk _ _ _ _ _ _ _ _ _ x _ _=>x
def Nd.sl:Nd->Int | .mk _ _ _ _ _ _ _ _ _ _ x _=>x
def Nd.ss:Nd->Int | .mk _ _ _ _ _ _ _ _ _ _ _ x=>x
def Sm.kd:Sm->Int | .mk x _ _ _ _ _=>x
def Sm.at_:Sm->Int | .mk _ x _ _ _ _=>x
def Sm.nm:Sm->List UInt8 | .mk _ _ x _ _ _=>x
def Sm.sl:Sm->Int | .mk _ _ _ x _ _=>x
def Sm.te:Sm->Nd | .mk _ _ _ _ x _=>x
def Sm.nd:Sm->Nd | .mk _ _ _ _ _ x=>x
def nd0:Nd:=.mk 0 0 0 [] 0 0 (.mk 0 [] [] []) [] [] 0 0 0
instance:Inhabited Nd:=⟨nd0⟩
instance:Inhabited Sm:=⟨.mk 0 0 [] 0 nd0 nd0⟩
def lsl(w:Nat)(l:List (List D)):D:=.sl w l.length (fun i=>l.getD i []) .any
mutual
def Nd.row:Nd->List D
 |.mk kd at_ cl tx pr op va ki bo de sl ss=>[.int .i64 kd,.int .i64 at_,.int .i64 cl,.str tx,.int .i64 pr,.int .i64 op,.int .i64 va.k,isl va.sh .any,isl va.nu .any,gsl 4 Arr.row va.it,lsl 15 (MI ki),lsl 34 (C9 bo),.int .i64 de,.int .i64 sl,.int .i64 ss]
def Sm.row:Sm->List D
 |.mk kd at_ nm sl te nd=>.int .i64 kd::.int .i64 at_::.str nm::.int .i64 sl::(te.row++nd.row)
def MI:List Nd->List (List D)
 | []=>[]
 |x::r=>x.row::MI r
def C9:List Sm->List (List D)
 | []=>[]
 |x::r=>x.row::C9 r
end
mutual
def Nd.ok:Nd->Prop
 |.mk kd at_ cl _ pr op va ki bo de sl ss=>(Br kd/\Br at_/\Br cl/\Br pr/\Br op/\Br de/\Br sl/\Br ss)/\va.ok/\Uh ki/\Ul bo
def Sm.ok:Sm->Prop
 |.mk kd at_ _ sl te nd=>(Br kd/\Br at_/\Br sl)/\te.ok/\nd.ok
def Uh:List Nd->Prop
 | []=>True
 |x::r=>x.ok/\Uh r
def Ul:List Sm->Prop
 | []=>True
 |x::r=>x.ok/\Ul r
end
mutual
/-- Nothing in it is longer than a machine's memory. -/
def Nd.sm:Nd->Prop
 |.mk _ _ _ tx _ _ va ki bo _ _ _=>(tx.length<=BC/\ki.length<=BC/\bo.length<=BC)/\va.sm/\OL ki/\Ts bo
def Sm.sm:Sm->Prop
 |.mk _ _ nm _ te nd=>nm.length<=BC/\te.sm/\nd.sm
def OL:List Nd->Prop
 | []=>True
 |x::r=>x.sm/\OL r
def Ts:List Sm->Prop
 | []=>True
 |x::r=>x.sm/\Ts r
end
theorem G9:∀(l:List Nd),MI l=l.map Nd.row
 | []=>by simp only[MI,List.map_nil]
 |a::l=>by simp only[MI,List.map_cons,G9 l]
theorem Ed:∀(l:List Sm),C9 l=l.map Sm.row
 | []=>by simp only[C9,List.map_nil]
 |a::l=>by simp only[C9,List.map_cons,Ed l]
theorem TJ:∀(l:List Nd),Uh l↔∀a∈l,a.ok
 | []=>by simp[Uh]
 |a::l=>by simp only[Uh,List.forall_mem_cons,TJ l]
theorem Ua:∀(l:List Sm),Ul l↔∀a∈l,a.ok
 | []=>by simp[Ul]
 |a::l=>by simp only[Ul,List.forall_mem_cons,Ua l]
theorem Ue:∀(l:List Nd),OL l↔∀a∈l,a.sm
 | []=>by simp[OL]
 |a::l=>by simp only[OL,List.forall_mem_cons,Ue l]
theorem MN:∀(l:List Sm),Ts l↔∀a∈l,a.sm
 | []=>by simp[Ts]
 |a::l=>by simp only[Ts,List.forall_mem_cons,MN l]
def Nd.rowE(n:Nd):List D:=[.int .i64 n.kd,.int .i64 n.at_,.int .i64 n.cl,.str n.tx,.int .i64 n.pr,.int .i64 n.op,.int .i64 n.va.k,isl n.va.sh .any,isl n.va.nu .any,gsl 4 Arr.row n.va.it,gsl 15 Nd.row n.ki,gsl 34 Sm.row n.bo,.int .i64 n.de,.int .i64 n.sl,.int .i64 n.ss]
def Nd.row1(n:Nd):List D:=n.rowE
def Sm.row1(s:Sm):List D:=.int .i64 s.kd::.int .i64 s.at_::.str s.nm::.int .i64 s.sl::(s.te.rowE++s.nd.rowE)
def Nd.row2(n:Nd):List D:=[.int .i64 n.kd,.int .i64 n.at_,.int .i64 n.cl,.str n.tx,.int .i64 n.pr,.int .i64 n.op,.int .i64 n.va.k,isl n.va.sh .any,isl n.va.nu .any,gsl 4 Arr.row n.va.it,gsl 15 Nd.row1 n.ki,gsl 34 Sm.row1 n.bo,.int .i64 n.de,.int .i64 n.sl,.int .i64 n.ss]
def Sm.row2(s:Sm):List D:=.int .i64 s.kd::.int .i64 s.at_::.str s.nm::.int .i64 s.sl::(s.te.row2++s.nd.row2)
theorem OS:∀ {a a' b b':List D},wkL a a'->wkL b b'->wkL (a++b) (a'++b')
 | [],[],_,_,_,h=>h
 | [],_::_,_,_,h,_=>by simp[wkL] at h
 |_::_,[],_,_,h,_=>by simp[wkL] at h
 |x::a,y::a',b,b',h,h2=>by
  simp only[wkL,List.cons_append] at h ⊢
  exact⟨h.1,OS h.2 h2⟩
theorem Be0{α:Type}[Inhabited α]{w:Nat}{g:α->List D}{l:List α}:wkD (lsl w (l.map g)) (gsl w g l):=by
 simp only[lsl,gsl,wkD,Bb]
 refine⟨by simp,by simp,fun i hi=>?_,by simp[BG]⟩
 have hi:i<l.length:=by simpa using hi
 have:(l.map g).getD i []=g (l.getD i default):=by simp[List.getD_eq_getElem?_getD,hi]
 rw[this]
 exact Be _
theorem W1{α:Type}[Inhabited α]{w:Nat}{g g':α->List D}{l:List α}(h:∀x,wkL (g x) (g' x)):wkD (gsl w g l) (gsl w g' l):=by
 simp only[gsl,wkD,Bb]
 exact⟨by simp,trivial,fun i _=>h _,by simp[BG]⟩
theorem Ble(n:Nd):wkL n.row n.row1:=by
 cases n with
 |mk kd at_ cl tx pr op va ki bo de sl ss =>
  simp only[Nd.row,Nd.row1,Nd.rowE,Nd.kd,Nd.at_,Nd.cl,Nd.tx,Nd.pr,Nd.op,Nd.va,Nd.ki,Nd.bo,Nd.de,Nd.sl,Nd.ss,wkL,G9,Ed]
  exact⟨Bh _,Bh _,Bh _,Bh _,Bh _,Bh _,Bh _,Bh _,Bh _,Bh _,Be0,Be0,Bh _,Bh _,Bh _,trivial⟩
theorem Bn4(s:Sm):wkL s.row s.row1:=by
 cases s with
 |mk kd at_ nm sl te nd =>
  simp only[Sm.row,Sm.row1,Sm.kd,Sm.at_,Sm.nm,Sm.sl,Sm.te,Sm.nd,wkL]
  exact⟨Bh _,Bh _,Bh _,Bh _,OS (Ble _) (Ble _)⟩
theorem Mt(n:Nd):wkL n.row1 n.row2:=by
 simp only[Nd.row1,Nd.rowE,Nd.row2,wkL]
 exact⟨Bh _,Bh _,Bh _,Bh _,Bh _,Bh _,Bh _,Bh _,Bh _,Bh _,W1 Ble,W1 Bn4,Bh _,Bh _,Bh _,trivial⟩
theorem dn:(default:Nd)=Nd.mk 0 0 0 [] 0 0 (Arr.mk 0 [] [] []) [] [] 0 0 0:=of_eq_true (eq_true rfl)
theorem dm:(default:Sm)=Sm.mk 0 0 [] 0 (Nd.mk 0 0 0 [] 0 0 (Arr.mk 0 [] [] []) [] [] 0 0 0) (Nd.mk 0 0 0 [] 0 0 (Arr.mk 0 [] [] []) [] [] 0 0 0):=of_eq_true (eq_true rfl)
def RNd:List D->Prop:=fun ds=>∃n:Nd,(n.ok/\n.sm)/\ds=n.row
def RSm:List D->Prop:=fun ds=>∃s:Sm,(s.ok/\s.sm)/\ds=s.row
theorem BfK(W:World)(m:Nat)(hn:∀k,k<m->ReadAt Tryz.prog W k 40 RNd):ReadAt Tryz.prog W m 44 RSm:=by
 cases m with
 |zero=>exact .zero _ _
 |succ k =>
  refine (Iy Tryz.underlying44 (by kernel_rfl) (Rs:=[RInt .i64,RInt .i64,RStr,RInt .i64,RNd,RNd]) ⟨IQ (by kernel_rfl) W k,IQ (by kernel_rfl) W k,Ui (by kernel_rfl) W k,IQ (by kernel_rfl) W k,hn k (Nat.lt_succ_self k),hn k (Nat.lt_succ_self k),trivial⟩).mono ?_
  rintro ds ⟨_,_,h1,⟨_,_,h2,⟨_,_,h3,⟨_,_,h4,⟨_,_,h5,⟨_,_,h6,h7,rfl⟩,rfl⟩,rfl⟩,rfl⟩,rfl⟩,rfl⟩
  obtain rfl:_=[]:=h7
  obtain ⟨kd,kd1,rfl⟩:=Ek _ h1
  obtain ⟨at_,at1,rfl⟩:=Ek _ h2
  obtain ⟨nm,rfl,nm1⟩:=h3
  obtain ⟨sl,sl1,rfl⟩:=Ek _ h4
  obtain ⟨te,⟨te1,te2⟩,rfl⟩:=h5
  obtain ⟨nd,⟨nd1,nd2⟩,rfl⟩:=h6
  refine⟨.mk kd at_ nm sl te nd,⟨?_,?_⟩,?_⟩
  ·simp only[Sm.ok]
   exact⟨⟨kd1,at1,sl1⟩,te1,nd1⟩
  ·simp only[Sm.sm]
   exact⟨nm1,te2,nd2⟩
  ·simp only[Sm.row,List.cons_append,List.nil_append,List.append_nil]
theorem Bmc(W:World):∀n,ReadAt Tryz.prog W n 40 RNd:=by
 intro n
 induction n using Nat.strongRecOn with
 |_ n ih =>
  cases n with
  |zero=>exact .zero _ _
  |succ m =>
   have hk:ReadAt Tryz.prog W m 38 (RSliceA 15 RNd):=by
    cases m with
    |zero=>exact .zero _ _
    |succ k=>exact GD (w:=15) Tryz.underlying38 (by kernel_rfl) (by decide) (by decide +kernel) (ih k (by omega))
   have hb:ReadAt Tryz.prog W m 22 (RSliceA 34 RSm):=by
    cases m with
    |zero=>exact .zero _ _
    |succ k=>exact GD (w:=34) Tryz.underlying22 (by kernel_rfl) (by decide) (by decide +kernel) (BfK W k fun j hj=>ih j (by omega))
   have ri:∀t,Tryz.prog.underlying t=some (.int .i64)->ReadAt Tryz.prog W m t (RInt .i64):=fun t ht=>IQ ht W m
   refine (Iy Tryz.underlying40 (by kernel_rfl) (Rs:=[RInt .i64,RInt .i64,RInt .i64,RStr,RInt .i64,RInt .i64,RArr,RSliceA 15 RNd,RSliceA 34 RSm,RInt .i64,RInt .i64,RInt .i64])
    ⟨ri _ (by kernel_rfl),ri _ (by kernel_rfl),ri _ (by kernel_rfl),Ui (by kernel_rfl) W m,ri _ (by kernel_rfl),ri _ (by kernel_rfl),BcK W m,hk,hb,ri _ (by kernel_rfl),ri _ (by kernel_rfl),ri _ (by kernel_rfl),trivial⟩).weak ?_
   rintro _ ds vs ⟨_,_,h1,⟨_,_,h2,⟨_,_,h3,⟨_,_,h4,⟨_,_,h5,⟨_,_,h6,⟨_,_,h7,⟨_,_,h8,⟨_,_,h9,⟨_,_,h10,⟨_,_,h11,⟨_,_,h12,h13,rfl⟩,rfl⟩,rfl⟩,rfl⟩,rfl⟩,rfl⟩,rfl⟩,rfl⟩,rfl⟩,rfl⟩,rfl⟩,rfl⟩ hr
   obtain rfl:_=[]:=h13
   obtain ⟨kd,kd1,rfl⟩:=Ek _ h1
   obtain ⟨at_,at1,rfl⟩:=Ek _ h2
   obtain ⟨cl,cl1,rfl⟩:=Ek _ h3
   obtain ⟨tx,rfl,tx1⟩:=h4
   obtain ⟨pr,pr1,rfl⟩:=Ek _ h5
   obtain ⟨op,op1,rfl⟩:=Ek _ h6
   obtain ⟨va,⟨va1,va2⟩,rfl⟩:=h7
   obtain ⟨l,l1,l2,rfl⟩:=h8
   obtain ⟨b,b1,b2,rfl⟩:=h9
   obtain ⟨de,de1,rfl⟩:=Ek _ h10
   obtain ⟨sl,sl1,rfl⟩:=Ek _ h11
   obtain ⟨ss,ss1,rfl⟩:=Ek _ h12
   obtain ⟨ki,qk,rfl⟩:=C5 (g:=Nd.row) (Q:=fun a=>a.ok/\a.sm) (fun x hx=>hx) l l1
   obtain ⟨bo,qb,rfl⟩:=C5 (g:=Sm.row) (Q:=fun a=>a.ok/\a.sm) (fun x hx=>hx) b b1
   have l2:ki.length<=BC:=by simpa using l2
   have b2:bo.length<=BC:=by simpa using b2
   refine⟨(Nd.mk kd at_ cl tx pr op va ki bo de sl ss).row,⟨_,⟨?_,?_⟩,rfl⟩,Ti _ _ ?_ _ _ hr⟩
   ·simp only[Nd.ok]
    exact⟨⟨kd1,at1,cl1,pr1,op1,de1,sl1,ss1⟩,va1,(TJ _).2 fun a ha=>(qk a ha).1,(Ua _).2 fun a ha=>(qb a ha).1⟩
   ·simp only[Nd.sm]
    exact⟨⟨tx1,l2,b2⟩,va2,(Ue _).2 fun a ha=>(qk a ha).2,(MN _).2 fun a ha=>(qb a ha).2⟩
   ·simp only[Nd.row,G9,Ed,List.cons_append,List.nil_append,List.append_nil,wkL]
    refine⟨Bh _,Bh _,Bh _,Bh _,Bh _,Bh _,?_⟩
    have h:=OS (Bju va) (Be (lsl 15 (ki.map Nd.row)::lsl 34 (bo.map Sm.row)::[D.int .i64 de,D.int .i64 sl,D.int .i64 ss]))
    simp only[Arr.row1,List.cons_append,List.nil_append] at h
    exact h
def dig(b:UInt8):Bool:=decide (48<=b.toNat)&&decide (b.toNat<=57)
def low(b:UInt8):Bool:=decide (97<=b.toNat)&&decide (b.toNat<=122)
def asc(s:String):List UInt8:=s.toUTF8.data.toList
def resL : List (List UInt8) := ["X", "Y", "F", "G", "self", "arg", "min", "max", "and", "or", "not", "shape", "reshape", "tally", "depth", "stack", "iota", "take", "drop", "first", "reverse", "rotate", "transpose", "from", "pick", "select", "amend", "up", "down", "sort", "find", "in", "unique", "where", "copy", "expand", "cut", "encode", "decode", "box", "open", "same", "kind", "ord", "chr", "format", "left", "right", "each", "swap", "outer", "inner", "rank", "power", "stencil", "atop", "over"].map asc
def sgnL : List (List UInt8) := ["+", "-", "*", "%", "|", "^", "<", "<=", "=", "~=", ">=", ">", ",", "/", "\\"].map asc
def Rw(s:List UInt8):Bool:=resL.contains s||sgnL.contains s
structure Tok where
 kind:Int
 at_:Int
 len:Int
 num:Int
 text:List UInt8
deriving Inhabited,DecidableEq
def Tok.row(t:Tok):List D:=[.int .i64 t.kind,.int .i64 t.at_,.int .i64 t.len,.int .i64 t.num,.str t.text]
def CW:List UInt8->List UInt8->Bool
 | [],_=>false
 |b::r,s=>(b==32&&decide (s.length<r.length)&&r.take s.length==s&&r.getD s.length 0==32)||CW r s
def EI(t s:List UInt8):Bool:=!s.isEmpty&&s.all (fun b=>b != 32)&&CW t s
def O9(ws:List (List UInt8)):List UInt8:=ws.flatMap (fun w=>32::w)++[32]
theorem WW(w:List UInt8)(ws:List (List UInt8)):O9 (w::ws)=32::(w++O9 ws):=by simp[O9]
theorem BdT(ws:List (List UInt8)):∃r,O9 ws=32::r:=by
 cases ws with
 |nil=>exact⟨[],rfl⟩
 |cons w ws=>exact⟨_,WW w ws⟩
theorem Ux(s r:List UInt8):∀(w:List UInt8),(∀b∈w,b≠32)->CW (w++r) s=CW r s
 | [],_=>rfl
 |b::w,h=>by
  have hb:(b==32)=false:=by simpa using h b (by simp)
  simp only[List.cons_append,CW,hb,Bool.false_and,Bool.false_or]
  exact Ux s r w fun c hc=>h c (by simp[hc])
theorem Beg{s w r : List UInt8}(hs : ∀b∈s, b≠32)(hw : ∀b∈w, b≠32) :
  (decide (s.length<(w++32::r).length)&&(w++32::r).take s.length==s&&(w++32::r).getD s.length 0==32)=(s==w):=by
 by_cases h:s=w
 ·subst h
  simp
 ·have h2:(s==w)=false:=by simpa using h
  rw[h2]
  by_cases h3:(w++32::r).take s.length=s
  ·by_cases h4:(w++32::r).getD s.length 0=32
   ·exfalso
    rcases Nat.lt_trichotomy s.length w.length with hl | hl | hl
    ·rw[List.getD_eq_getElem?_getD,List.getElem?_append_left hl,List.getElem?_eq_getElem hl] at h4
     exact hw _ (List.getElem_mem hl) h4
    ·rw[hl,List.take_left] at h3
     exact h h3.symm
    ·have:(32:UInt8)∈s:=by
      rw[<- h3]
      have:s.length=w.length+(s.length-w.length-1+1):=by omega
      rw[this,List.take_append]
      simp
     exact hs _ this rfl
   ·have h4:((w++32::r).getD s.length 0==32)=false:=by simpa using h4
    rw[h4,Bool.and_false]
  ·have h3:((w++32::r).take s.length==s)=false:=by simpa using h3
   rw[h3,Bool.and_false,Bool.false_and]
theorem Tm{s:List UInt8}(hs:∀b∈s,b≠32):∀(ws:List (List UInt8)),(∀w∈ws,∀b∈w,b≠32)->CW (O9 ws) s=ws.contains s
 | [],_=>by simp[O9,CW]
 |w::ws,h=>by
  obtain ⟨r,hr⟩:=BdT ws
  have ih:=Tm hs ws fun v hv=>h v (by simp[hv])
  rw[WW]
  simp only[CW,beq_self_eq_true,Bool.true_and,List.contains_cons]
  rw[Ux s _ w (h w (by simp)),ih]
  congr 1
  rw[hr]
  exact Beg hs (h w (by simp))
theorem OA{s:List UInt8}(ws:List (List UInt8))(h:(ws.all fun w=>!w.isEmpty&&w.all fun b=>b != 32)=true):EI (O9 ws) s=ws.contains s:=by
 have h1:∀w∈ws,w≠[]/\∀b∈w,b≠32:=fun w hw=>by
  have:=List.all_eq_true.1 h w hw
  simp only[Bool.and_eq_true,Bool.not_eq_true',List.isEmpty_eq_false_iff,List.all_eq_true,bne_iff_ne] at this
  exact this
 unfold EI
 cases he:s.isEmpty with
 |true =>
  have:s=[]:=List.isEmpty_iff.1 he
  subst this
  cases hc:ws.contains [] with
  |false=>rfl
  |true=>exact ((h1 [] (by simpa using hc)).1 rfl).elim
 |false =>
  cases ha:s.all fun b=>b != 32 with
  |false =>
   cases hc:ws.contains s with
   |false=>rfl
   |true =>
    have:=(h1 s (by simpa using hc)).2
    rw[List.all_eq_false] at ha
    obtain ⟨b,hb,hb2⟩:=ha
    exact (this b hb (by simpa using hb2)).elim
  |true =>
   simp only[Bool.not_false,Bool.true_and]
   exact Tm (fun b hb=>by simpa using List.all_eq_true.1 ha b hb) ws fun w hw=>(h1 w hw).2
def BbY : List UInt8 := asc " X Y F G self arg min max and or not shape reshape tally depth stack iota take drop first reverse rotate transpose from pick select amend up down sort find in unique where copy expand cut encode decode box open same kind ord chr format left right each swap outer inner rank power stencil atop over "
def BcU : List UInt8 := asc " + - * % | ^ < <= = ~= >= > , / \\ "
theorem BcO:BbY=O9 resL:=by decide +kernel
theorem Bcx:BcU=O9 sgnL:=by decide +kernel
theorem Bcr(s:List UInt8):EI BbY s=resL.contains s:=by rw[BcO];exact OA _ (by decide +kernel)
theorem Bdt(s:List UInt8):EI BcU s=sgnL.contains s:=by rw[Bcx];exact OA _ (by decide +kernel)
def sep(b:UInt8):Prop:=b=10\/b=32
def TH(w:List UInt8):Bool:=!w.isEmpty&&low (w.getD 0 0)&&w.all fun b=>low b||dig b
def Ce(w:List UInt8):Bool:=TH w&&decide (w.length<=32)&&!Rw w
end Go.Proofs.YtnlplccjbojloaaGreatDoor
