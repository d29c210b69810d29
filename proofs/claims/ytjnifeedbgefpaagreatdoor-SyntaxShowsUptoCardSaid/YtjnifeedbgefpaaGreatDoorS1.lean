/- Functions of the given program and what each of them computes: lemmas towards the statement, their conditions stated with each of them. -/
import Derived.Test.YtjnifeedbgefpaaGreatDoorAb2
import Derived.Test.YtjnifeedbgefpaaGreatDoorProg
import Derived.KernelRfl
import Derived.Shelf.Strings.Builder1
import Derived.Shelf.Strings.Builder2
import Derived.Shelf.Strings.OnBuilder
import Derived.Shelf.Strings.BuilderF
import Derived.Shelf.Strconv.Itoa0
import Derived.Shelf.Strconv.Itoa1
import Derived.Shelf.LaysM
import Derived.Shelf.Strconv.Itoa2
import Derived.Shelf.Strconv.Itoa3
import Derived.Shelf.Strconv.Itoa4
import Derived.Shelf.Bits.Mul64
import Derived.Lib.AppendIntMem
import Derived.Lib.ItoaLen
import Derived.WalkKit
import Derived.ProofKit
import Derived.Lib.DecodeN
import Derived.Lib.LaidTab
import Derived.Lib.ItoaNum
import Derived.Lib.TrailingZeros
import Derived.Calls
import Derived.Below
import Derived.Laws.Entries
import Derived.Laws.Build
import Derived.Laws.Concat
import Derived.Laws.AppendOwn
import Derived.Laws.IdiomStrings
import Derived.Laws.BytesString
import Derived.Laws.NewFold
import Derived.Laws.MakeOwn
import Derived.Laws.IdiomCopy
import Derived.Laws.Shifts
import Derived.Laws.Strings
import Derived.Laws.Strings2
import Derived.Laws.Strings3
import Derived.Laws.RangeString
import Derived.Laws.Cover4
import Derived.MapKept
import Derived.Laws.StructEq
import Derived.Orders
import Derived.Scope
import Derived.OpenShut
import Derived.Recover
import Derived.Test.YtjnifeedbgefpaaGreatDoorRows
import Derived.Lib.Join
import Derived.Lib.Builder
import Derived.Lib.UnsafeStr
import Derived.Test.YtjnifeedbgefpaaGreatDoorCards
import Derived.Test.YtjnifeedbgefpaaGreatDoorTie
import Derived.Deep.DeepHandedRow
import Derived.Stop.LaidErr
namespace Go.Proofs.YtjnifeedbgefpaaGreatDoor
open Go Go.Ab
noncomputable def tab:List (Nat×TI):=[
 (0,⟨TypeDesc.tuple #[],1,0,[.unk]⟩),
 (1,⟨TypeDesc.func #[] #[] false,1,8,[.nilf]⟩),
 (2,⟨TypeDesc.int .i64,1,8,[.int .i64 0]⟩),
 (3,⟨TypeDesc.int .i64,1,8,[.int .i64 0]⟩),
 (4,⟨TypeDesc.bool,1,1,[.bool false]⟩),
 (5,⟨TypeDesc.int .u8,1,1,[.int .u8 0]⟩),
 (9,⟨TypeDesc.string,1,16,[.str []]⟩),
 (20,⟨TypeDesc.interface #[],1,16,[.nili]⟩),
 (21,⟨TypeDesc.int .i32,1,4,[.int .i32 0]⟩),
 (22,⟨TypeDesc.int .i64,1,8,[.int .i64 0]⟩),
 (23,⟨TypeDesc.int .i64,1,8,[.int .i64 0]⟩),
 (24,⟨TypeDesc.int .i64,1,8,[.int .i64 0]⟩),
 (25,⟨TypeDesc.int .i64,1,8,[.int .i64 0]⟩),
 (26,⟨TypeDesc.int .i64,1,8,[.int .i64 0]⟩),
 (27,⟨TypeDesc.slice 3,1,24,[.sl 1 0 (fun _=>[]) .nil]⟩),
 (28,⟨TypeDesc.slice 30,1,24,[.sl 1 0 (fun _=>[]) .nil]⟩),
 (29,⟨Tryz.t29.desc,4,80,[.int .i64 0,.sl 1 0 (fun _=>[]) .nil,.sl 1 0 (fun _=>[]) .nil,.sl 1 0 (fun _=>[]) .nil]⟩),
 (30,⟨Tryz.t29.desc,4,80,[.int .i64 0,.sl 1 0 (fun _=>[]) .nil,.sl 1 0 (fun _=>[]) .nil,.sl 1 0 (fun _=>[]) .nil]⟩),
 (31,⟨TypeDesc.slice 34,1,24,[.sl 1 0 (fun _=>[]) .nil]⟩),
 (32,⟨TypeDesc.slice 55,1,24,[.sl 1 0 (fun _=>[]) .nil]⟩),
 (33,⟨Tryz.t33.desc,15,208,[.int .i64 0,.int .i64 0,.int .i64 0,.str [],.int .i64 0,.int .i64 0,.int .i64 0,.sl 1 0 (fun _=>[]) .nil,.sl 1 0 (fun _=>[]) .nil,.sl 1 0 (fun _=>[]) .nil,.sl 1 0 (fun _=>[]) .nil,.sl 1 0 (fun _=>[]) .nil,.int .i64 0,.int .i64 0,.int .i64 0]⟩),
 (34,⟨Tryz.t33.desc,15,208,[.int .i64 0,.int .i64 0,.int .i64 0,.str [],.int .i64 0,.int .i64 0,.int .i64 0,.sl 1 0 (fun _=>[]) .nil,.sl 1 0 (fun _=>[]) .nil,.sl 1 0 (fun _=>[]) .nil,.sl 1 0 (fun _=>[]) .nil,.sl 1 0 (fun _=>[]) .nil,.int .i64 0,.int .i64 0,.int .i64 0]⟩),
 (35,⟨TypeDesc.int .i64,1,8,[.int .i64 0]⟩),
 (36,⟨TypeDesc.func #[34] #[35] false,1,8,[.nilf]⟩),
 (37,⟨TypeDesc.func #[34] #[3] false,1,8,[.nilf]⟩),
 (38,⟨TypeDesc.func #[34] #[23] false,1,8,[.nilf]⟩),
 (39,⟨TypeDesc.func #[] #[4] false,1,8,[.nilf]⟩),
 (40,⟨TypeDesc.func #[34] #[4] false,1,8,[.nilf]⟩),
 (41,⟨Tryz.t41.desc,1,24,[.sl 1 0 (fun _=>[]) .nil]⟩),
 (42,⟨Tryz.t41.desc,1,24,[.sl 1 0 (fun _=>[]) .nil]⟩),
 (43,⟨TypeDesc.func #[42] #[35] false,1,8,[.nilf]⟩),
 (44,⟨TypeDesc.func #[42,42] #[4] false,1,8,[.nilf]⟩),
 (45,⟨TypeDesc.func #[42] #[4] false,1,8,[.nilf]⟩),
 (46,⟨TypeDesc.func #[34,34] #[4] false,1,8,[.nilf]⟩),
 (47,⟨TypeDesc.func #[34] #[9] false,1,8,[.nilf]⟩),
 (48,⟨TypeDesc.func #[34,5] #[4] false,1,8,[.nilf]⟩),
 (49,⟨TypeDesc.func #[] #[34] false,1,8,[.nilf]⟩),
 (50,⟨TypeDesc.func #[24] #[34] false,1,8,[.nilf]⟩),
 (51,⟨TypeDesc.func #[5] #[4] false,1,8,[.nilf]⟩),
 (52,⟨TypeDesc.func #[32] #[4] false,1,8,[.nilf]⟩),
 (53,⟨TypeDesc.int .i64,1,8,[.int .i64 0]⟩),
 (54,⟨Tryz.t54.desc,34,456,[.int .i64 0,.int .i64 0,.str [],.int .i64 0,.int .i64 0,.int .i64 0,.int .i64 0,.str [],.int .i64 0,.int .i64 0,.int .i64 0,.sl 1 0 (fun _=>[]) .nil,.sl 1 0 (fun _=>[]) .nil,.sl 1 0 (fun _=>[]) .nil,.sl 1 0 (fun _=>[]) .nil,.sl 1 0 (fun _=>[]) .nil,.int .i64 0,.int .i64 0,.int .i64 0,.int .i64 0,.int .i64 0,.int .i64 0,.str [],.int .i64 0,.int .i64 0,.int .i64 0,.sl 1 0 (fun _=>[]) .nil,.sl 1 0 (fun _=>[]) .nil,.sl 1 0 (fun _=>[]) .nil,.sl 1 0 (fun _=>[]) .nil,.sl 1 0 (fun _=>[]) .nil,.int .i64 0,.int .i64 0,.int .i64 0]⟩),
 (55,⟨Tryz.t54.desc,34,456,[.int .i64 0,.int .i64 0,.str [],.int .i64 0,.int .i64 0,.int .i64 0,.int .i64 0,.str [],.int .i64 0,.int .i64 0,.int .i64 0,.sl 1 0 (fun _=>[]) .nil,.sl 1 0 (fun _=>[]) .nil,.sl 1 0 (fun _=>[]) .nil,.sl 1 0 (fun _=>[]) .nil,.sl 1 0 (fun _=>[]) .nil,.int .i64 0,.int .i64 0,.int .i64 0,.int .i64 0,.int .i64 0,.int .i64 0,.str [],.int .i64 0,.int .i64 0,.int .i64 0,.sl 1 0 (fun _=>[]) .nil,.sl 1 0 (fun _=>[]) .nil,.sl 1 0 (fun _=>[]) .nil,.sl 1 0 (fun _=>[]) .nil,.sl 1 0 (fun _=>[]) .nil,.int .i64 0,.int .i64 0,.int .i64 0]⟩),
 (56,⟨TypeDesc.func #[34,3] #[3] false,1,8,[.nilf]⟩),
 (57,⟨TypeDesc.func #[34] #[] false,1,8,[.nilf]⟩),
 (58,⟨TypeDesc.func #[34] #[31] false,1,8,[.nilf]⟩),
 (59,⟨TypeDesc.func #[55] #[31] false,1,8,[.nilf]⟩),
 (60,⟨TypeDesc.func #[34,3] #[4] false,1,8,[.nilf]⟩),
 (61,⟨TypeDesc.func #[32,4] #[4] false,1,8,[.nilf]⟩),
 (62,⟨TypeDesc.func #[32,3] #[3] false,1,8,[.nilf]⟩),
 (63,⟨TypeDesc.func #[32,32,64] #[4] false,1,8,[.nilf]⟩),
 (64,⟨TypeDesc.func #[55,55] #[4] false,1,8,[.nilf]⟩),
 (65,⟨TypeDesc.func #[30,30] #[4] false,1,8,[.nilf]⟩),
 (66,⟨TypeDesc.func #[31,31,46] #[4] false,1,8,[.nilf]⟩),
 (67,⟨TypeDesc.func #[32,32] #[4] false,1,8,[.nilf]⟩),
 (68,⟨TypeDesc.func #[69,71] #[4] false,1,8,[.nilf]⟩),
 (69,⟨TypeDesc.slice 22,1,24,[.sl 1 0 (fun _=>[]) .nil]⟩),
 (70,⟨TypeDesc.func #[32,22] #[4] false,1,8,[.nilf]⟩),
 (71,⟨TypeDesc.func #[22] #[4] false,1,8,[.nilf]⟩),
 (72,⟨TypeDesc.func #[31,40] #[4] false,1,8,[.nilf]⟩),
 (73,⟨TypeDesc.map 9 3,1,8,[.nmap]⟩),
 (74,⟨TypeDesc.func #[9] #[4] false,1,8,[.nilf]⟩),
 (75,⟨TypeDesc.func #[27,27] #[4] false,1,8,[.nilf]⟩),
 (76,⟨TypeDesc.func #[28,28,65] #[4] false,1,8,[.nilf]⟩),
 (77,⟨TypeDesc.func #[30] #[9] false,1,8,[.nilf]⟩),
 (78,⟨TypeDesc.func #[24] #[9] false,1,8,[.nilf]⟩),
 (79,⟨TypeDesc.func #[25] #[9] false,1,8,[.nilf]⟩),
 (80,⟨TypeDesc.func #[31,69] #[9] true,1,8,[.nilf]⟩),
 (81,⟨TypeDesc.func #[34,69] #[9] true,1,8,[.nilf]⟩),
 (82,⟨TypeDesc.slice 9,1,24,[.sl 1 0 (fun _=>[]) .nil]⟩),
 (83,⟨TypeDesc.func #[55] #[9] false,1,8,[.nilf]⟩),
 (84,⟨TypeDesc.func #[82,9] #[9] false,1,8,[.nilf]⟩),
 (85,⟨TypeDesc.func #[31,69] #[9] false,1,8,[.nilf]⟩),
 (86,⟨TypeDesc.func #[34,4] #[9] false,1,8,[.nilf]⟩),
 (87,⟨TypeDesc.func #[34,69] #[4] false,1,8,[.nilf]⟩),
 (88,⟨TypeDesc.func #[32,9] #[9] false,1,8,[.nilf]⟩),
 (89,⟨TypeDesc.func #[34,22] #[4] false,1,8,[.nilf]⟩),
 (90,⟨TypeDesc.func #[69,71] #[3] false,1,8,[.nilf]⟩),
 (91,⟨TypeDesc.func #[32,92] #[4] false,1,8,[.nilf]⟩),
 (92,⟨TypeDesc.func #[55] #[4] false,1,8,[.nilf]⟩),
 (93,⟨TypeDesc.func #[34,4,4,4,4,4,4] #[4] false,1,8,[.nilf]⟩),
 (94,⟨TypeDesc.func #[30] #[35] false,1,8,[.nilf]⟩),
 (95,⟨TypeDesc.func #[25] #[23] false,1,8,[.nilf]⟩),
 (96,⟨TypeDesc.func #[34,112] #[4] true,1,8,[.nilf]⟩),
 (97,⟨TypeDesc.func #[31,40] #[3] false,1,8,[.nilf]⟩),
 (98,⟨TypeDesc.array 56 9,56,896,[.str [],.str [],.str [],.str [],.str [],.str [],.str [],.str [],.str [],.str [],.str [],.str [],.str [],.str [],.str [],.str [],.str [],.str [],.str [],.str [],.str [],.str [],.str [],.str [],.str [],.str [],.str [],.str [],.str [],.str [],.str [],.str [],.str [],.str [],.str [],.str [],.str [],.str [],.str [],.str [],.str [],.str [],.str [],.str [],.str [],.str [],.str [],.str [],.str [],.str [],.str [],.str [],.str [],.str [],.str [],.str []]⟩),
 (99,⟨TypeDesc.array 12 9,12,192,[.str [],.str [],.str [],.str [],.str [],.str [],.str [],.str [],.str [],.str [],.str [],.str []]⟩),
 (100,⟨TypeDesc.func #[69,22] #[4] false,1,8,[.nilf]⟩),
 (101,⟨TypeDesc.pointer 104,1,8,[.nilp]⟩),
 (102,⟨TypeDesc.slice 5,1,24,[.sl 1 0 (fun _=>[]) .nil]⟩),
 (103,⟨Tryz.t103.desc,2,32,[.nilp,.sl 1 0 (fun _=>[]) .nil]⟩),
 (104,⟨Tryz.t103.desc,2,32,[.nilp,.sl 1 0 (fun _=>[]) .nil]⟩),
 (105,⟨TypeDesc.func #[3] #[] false,1,8,[.nilf]⟩),
 (106, ⟨TypeDesc.interface #[("Error", 110)], 1, 16, [.nili]⟩),
 (107, ⟨TypeDesc.interface #[("Error", 110)], 1, 16, [.nili]⟩),
 (108,⟨TypeDesc.tuple #[3,107],1,0,[.unk]⟩),
 (109,⟨TypeDesc.func #[9] #[3,107] false,1,8,[.nilf]⟩),
 (110,⟨TypeDesc.func #[] #[9] false,1,8,[.nilf]⟩),
 (111,⟨TypeDesc.func #[30] #[4] false,1,8,[.nilf]⟩),
 (112,⟨TypeDesc.slice 23,1,24,[.sl 1 0 (fun _=>[]) .nil]⟩),
 (113,⟨TypeDesc.func #[112,3] #[112] false,1,8,[.nilf]⟩),
 (114,⟨TypeDesc.func #[32,92] #[3] false,1,8,[.nilf]⟩),
 (115,⟨TypeDesc.tuple #[35,3],1,0,[.unk]⟩),
 (116,⟨TypeDesc.func #[30] #[35,3] false,1,8,[.nilf]⟩),
 (117,⟨TypeDesc.func #[9,9] #[4] false,1,8,[.nilf]⟩),
 (118,⟨TypeDesc.func #[30] #[35,3,3] false,1,8,[.nilf]⟩),
 (119,⟨TypeDesc.func #[3] #[4] false,1,8,[.nilf]⟩),
 (120,⟨TypeDesc.tuple #[35,3,3],1,0,[.unk]⟩),
 (121,⟨TypeDesc.func #[3] #[9] false,1,8,[.nilf]⟩),
 (122,⟨TypeDesc.func #[21,27] #[9] true,1,8,[.nilf]⟩),
 (123,⟨TypeDesc.func #[82] #[9] true,1,8,[.nilf]⟩),
 (124,⟨TypeDesc.func #[30] #[30] false,1,8,[.nilf]⟩),
 (125,⟨TypeDesc.func #[30,3] #[30] false,1,8,[.nilf]⟩),
 (126,⟨TypeDesc.func #[27] #[9] false,1,8,[.nilf]⟩),
 (127,⟨TypeDesc.func #[69,22] #[3] false,1,8,[.nilf]⟩),
 (128,⟨TypeDesc.pointer 5,1,8,[.nilp]⟩),
 (129,⟨TypeDesc.func #[31,112,130] #[4] false,1,8,[.nilf]⟩),
 (130,⟨TypeDesc.func #[34,23] #[4] false,1,8,[.nilf]⟩),
 (131,⟨TypeDesc.int .u64,1,8,[.int .u64 0]⟩),
 (132,⟨TypeDesc.tuple #[131,131],1,0,[.unk]⟩),
 (133,⟨TypeDesc.func #[131,131] #[131,131] false,1,8,[.nilf]⟩),
 (134,⟨TypeDesc.func #[27] #[35] false,1,8,[.nilf]⟩),
 (135,⟨TypeDesc.func #[30] #[3] false,1,8,[.nilf]⟩),
 (136,⟨TypeDesc.func #[27] #[3] false,1,8,[.nilf]⟩),
 (137,⟨TypeDesc.func #[27,119] #[4] false,1,8,[.nilf]⟩),
 (138,⟨TypeDesc.func #[27] #[4] false,1,8,[.nilf]⟩),
 (139,⟨TypeDesc.func #[21,21] #[9] false,1,8,[.nilf]⟩),
 (140,⟨TypeDesc.func #[5] #[107] false,1,8,[.nilf]⟩),
 (141,⟨TypeDesc.unsafePointer,1,8,[.nilp]⟩),
 (142,⟨TypeDesc.func #[141] #[141] false,1,8,[.nilf]⟩),
 (143,⟨TypeDesc.func #[3] #[102] false,1,8,[.nilf]⟩),
 (144,⟨TypeDesc.int .u32,1,4,[.int .u32 0]⟩),
 (145,⟨TypeDesc.tuple #[144,144],1,0,[.unk]⟩),
 (146,⟨TypeDesc.func #[144,144] #[144,144] false,1,8,[.nilf]⟩),
 (147,⟨TypeDesc.int .u64,1,8,[.int .u64 0]⟩),
 (148,⟨TypeDesc.tuple #[147,147],1,0,[.unk]⟩),
 (149,⟨TypeDesc.func #[147,147] #[147,147] false,1,8,[.nilf]⟩),
 (150,⟨TypeDesc.func #[27,119] #[3] false,1,8,[.nilf]⟩),
 (151,⟨TypeDesc.func #[2,3] #[9] false,1,8,[.nilf]⟩),
 (152,⟨TypeDesc.func #[3,3] #[9] false,1,8,[.nilf]⟩),
 (153,⟨TypeDesc.func #[27,3] #[4] false,1,8,[.nilf]⟩),
 (154,⟨TypeDesc.func #[3] #[3] false,1,8,[.nilf]⟩),
 (155,⟨TypeDesc.func #[27,3] #[3] false,1,8,[.nilf]⟩),
 (156,⟨TypeDesc.array 24 5,24,24,[.int .u8 0,.int .u8 0,.int .u8 0,.int .u8 0,.int .u8 0,.int .u8 0,.int .u8 0,.int .u8 0,.int .u8 0,.int .u8 0,.int .u8 0,.int .u8 0,.int .u8 0,.int .u8 0,.int .u8 0,.int .u8 0,.int .u8 0,.int .u8 0,.int .u8 0,.int .u8 0,.int .u8 0,.int .u8 0,.int .u8 0,.int .u8 0]⟩),
 (157,⟨TypeDesc.func #[147] #[3] false,1,8,[.nilf]⟩),
 (158,⟨TypeDesc.func #[102,147] #[] false,1,8,[.nilf]⟩),
 (159,⟨TypeDesc.tuple #[102,9],1,0,[.unk]⟩),
 (160,⟨TypeDesc.func #[102,147,3,4,4] #[102,9] false,1,8,[.nilf]⟩),
 (161,⟨TypeDesc.func #[4] #[3] false,1,8,[.nilf]⟩),
 (162,⟨TypeDesc.array 20 147,20,160,[.int .u64 0,.int .u64 0,.int .u64 0,.int .u64 0,.int .u64 0,.int .u64 0,.int .u64 0,.int .u64 0,.int .u64 0,.int .u64 0,.int .u64 0,.int .u64 0,.int .u64 0,.int .u64 0,.int .u64 0,.int .u64 0,.int .u64 0,.int .u64 0,.int .u64 0,.int .u64 0]⟩),
 (163,⟨TypeDesc.array 65 5,65,65,List.replicate 65 (.int .u8 0)⟩),
 (164,⟨TypeDesc.func #[131] #[3] false,1,8,[.nilf]⟩),
 (165,⟨TypeDesc.func #[144] #[3] false,1,8,[.nilf]⟩),
 (166,⟨TypeDesc.array 32 5,32,32,[.int .u8 0,.int .u8 0,.int .u8 0,.int .u8 0,.int .u8 0,.int .u8 0,.int .u8 0,.int .u8 0,.int .u8 0,.int .u8 0,.int .u8 0,.int .u8 0,.int .u8 0,.int .u8 0,.int .u8 0,.int .u8 0,.int .u8 0,.int .u8 0,.int .u8 0,.int .u8 0,.int .u8 0,.int .u8 0,.int .u8 0,.int .u8 0,.int .u8 0,.int .u8 0,.int .u8 0,.int .u8 0,.int .u8 0,.int .u8 0,.int .u8 0,.int .u8 0]⟩),
 (167,⟨TypeDesc.array 64 5,64,64,[.int .u8 0,.int .u8 0,.int .u8 0,.int .u8 0,.int .u8 0,.int .u8 0,.int .u8 0,.int .u8 0,.int .u8 0,.int .u8 0,.int .u8 0,.int .u8 0,.int .u8 0,.int .u8 0,.int .u8 0,.int .u8 0,.int .u8 0,.int .u8 0,.int .u8 0,.int .u8 0,.int .u8 0,.int .u8 0,.int .u8 0,.int .u8 0,.int .u8 0,.int .u8 0,.int .u8 0,.int .u8 0,.int .u8 0,.int .u8 0,.int .u8 0,.int .u8 0,.int .u8 0,.int .u8 0,.int .u8 0,.int .u8 0,.int .u8 0,.int .u8 0,.int .u8 0,.int .u8 0,.int .u8 0,.int .u8 0,.int .u8 0,.int .u8 0,.int .u8 0,.int .u8 0,.int .u8 0,.int .u8 0,.int .u8 0,.int .u8 0,.int .u8 0,.int .u8 0,.int .u8 0,.int .u8 0,.int .u8 0,.int .u8 0,.int .u8 0,.int .u8 0,.int .u8 0,.int .u8 0,.int .u8 0,.int .u8 0,.int .u8 0,.int .u8 0]⟩),
 (173,⟨TypeDesc.func #[] #[3] false,1,8,[.nilf]⟩),
 (176,⟨TypeDesc.func #[141,141] #[4] false,1,8,[.nilf]⟩)]
theorem tab_ok:TabOk Tryz.prog (tabGet tab) :=
 TabOk.cons (ti:=⟨_,_,_,_⟩) Tryz.underlying0 (by kernel_rfl) <|
 TabOk.cons (ti:=⟨_,_,_,_⟩) Tryz.underlying1 (by kernel_rfl) <|
 TabOk.cons (ti:=⟨_,_,_,_⟩) Tryz.underlying2 (by kernel_rfl) <|
 TabOk.cons (ti:=⟨_,_,_,_⟩) Tryz.underlying3 (by kernel_rfl) <|
 TabOk.cons (ti:=⟨_,_,_,_⟩) Tryz.underlying4 (by kernel_rfl) <|
 TabOk.cons (ti:=⟨_,_,_,_⟩) Tryz.underlying5 (by kernel_rfl) <|
 TabOk.cons (ti:=⟨_,_,_,_⟩) Tryz.underlying9 (by kernel_rfl) <|
 TabOk.cons (ti:=⟨_,_,_,_⟩) Tryz.underlying20 (by kernel_rfl) <|
 TabOk.cons (ti:=⟨_,_,_,_⟩) Tryz.underlying21 (by kernel_rfl) <|
 TabOk.cons (ti:=⟨_,_,_,_⟩) Tryz.underlying22 (by kernel_rfl) <|
 TabOk.cons (ti:=⟨_,_,_,_⟩) Tryz.underlying23 (by kernel_rfl) <|
 TabOk.cons (ti:=⟨_,_,_,_⟩) Tryz.underlying24 (by kernel_rfl) <|
 TabOk.cons (ti:=⟨_,_,_,_⟩) Tryz.underlying25 (by kernel_rfl) <|
 TabOk.cons (ti:=⟨_,_,_,_⟩) Tryz.underlying26 (by kernel_rfl) <|
 TabOk.cons (ti:=⟨_,_,_,_⟩) Tryz.underlying27 (by kernel_rfl) <|
 TabOk.cons (ti:=⟨_,_,_,_⟩) Tryz.underlying28 (by kernel_rfl) <|
 TabOk.cons (ti:=⟨_,_,_,_⟩) Tryz.underlying29 (by kernel_rfl) <|
 TabOk.cons (ti:=⟨_,_,_,_⟩) Tryz.underlying30 (by kernel_rfl) <|
 TabOk.cons (ti:=⟨_,_,_,_⟩) Tryz.underlying31 (by kernel_rfl) <|
 TabOk.cons (ti:=⟨_,_,_,_⟩) Tryz.underlying32 (by kernel_rfl) <|
 TabOk.cons (ti:=⟨_,_,_,_⟩) Tryz.underlying33 (by kernel_rfl) <|
 TabOk.cons (ti:=⟨_,_,_,_⟩) Tryz.underlying34 (by kernel_rfl) <|
 TabOk.cons (ti:=⟨_,_,_,_⟩) Tryz.underlying35 (by kernel_rfl) <|
 TabOk.cons (ti:=⟨_,_,_,_⟩) Tryz.underlying36 (by kernel_rfl) <|
 TabOk.cons (ti:=⟨_,_,_,_⟩) Tryz.underlying37 (by kernel_rfl) <|
 TabOk.cons (ti:=⟨_,_,_,_⟩) Tryz.underlying38 (by kernel_rfl) <|
 TabOk.cons (ti:=⟨_,_,_,_⟩) Tryz.underlying39 (by kernel_rfl) <|
 TabOk.cons (ti:=⟨_,_,_,_⟩) Tryz.underlying40 (by kernel_rfl) <|
 TabOk.cons (ti:=⟨_,_,_,_⟩) Tryz.underlying41 (by kernel_rfl) <|
 TabOk.cons (ti:=⟨_,_,_,_⟩) Tryz.underlying42 (by kernel_rfl) <|
 TabOk.cons (ti:=⟨_,_,_,_⟩) Tryz.underlying43 (by kernel_rfl) <|
 TabOk.cons (ti:=⟨_,_,_,_⟩) Tryz.underlying44 (by kernel_rfl) <|
 TabOk.cons (ti:=⟨_,_,_,_⟩) Tryz.underlying45 (by kernel_rfl) <|
 TabOk.cons (ti:=⟨_,_,_,_⟩) Tryz.underlying46 (by kernel_rfl) <|
 TabOk.cons (ti:=⟨_,_,_,_⟩) Tryz.underlying47 (by kernel_rfl) <|
 TabOk.cons (ti:=⟨_,_,_,_⟩) Tryz.underlying48 (by kernel_rfl) <|
 TabOk.cons (ti:=⟨_,_,_,_⟩) Tryz.underlying49 (by kernel_rfl) <|
 TabOk.cons (ti:=⟨_,_,_,_⟩) Tryz.underlying50 (by kernel_rfl) <|
 TabOk.cons (ti:=⟨_,_,_,_⟩) Tryz.underlying51 (by kernel_rfl) <|
 TabOk.cons (ti:=⟨_,_,_,_⟩) Tryz.underlying52 (by kernel_rfl) <|
 TabOk.cons (ti:=⟨_,_,_,_⟩) Tryz.underlying53 (by kernel_rfl) <|
 TabOk.cons (ti:=⟨_,_,_,_⟩) Tryz.underlying54 (by kernel_rfl) <|
 TabOk.cons (ti:=⟨_,_,_,_⟩) Tryz.underlying55 (by kernel_rfl) <|
 TabOk.cons (ti:=⟨_,_,_,_⟩) Tryz.underlying56 (by kernel_rfl) <|
 TabOk.cons (ti:=⟨_,_,_,_⟩) Tryz.underlying57 (by kernel_rfl) <|
 TabOk.cons (ti:=⟨_,_,_,_⟩) Tryz.underlying58 (by kernel_rfl) <|
 TabOk.cons (ti:=⟨_,_,_,_⟩) Tryz.underlying59 (by kernel_rfl) <|
 TabOk.cons (ti:=⟨_,_,_,_⟩) Tryz.underlying60 (by kernel_rfl) <|
 TabOk.cons (ti:=⟨_,_,_,_⟩) Tryz.underlying61 (by kernel_rfl) <|
 TabOk.cons (ti:=⟨_,_,_,_⟩) Tryz.underlying62 (by kernel_rfl) <|
 TabOk.cons (ti:=⟨_,_,_,_⟩) Tryz.underlying63 (by kernel_rfl) <|
 TabOk.cons (ti:=⟨_,_,_,_⟩) Tryz.underlying64 (by kernel_rfl) <|
 TabOk.cons (ti:=⟨_,_,_,_⟩) Tryz.underlying65 (by kernel_rfl) <|
 TabOk.cons (ti:=⟨_,_,_,_⟩) Tryz.underlying66 (by kernel_rfl) <|
 TabOk.cons (ti:=⟨_,_,_,_⟩) Tryz.underlying67 (by kernel_rfl) <|
 TabOk.cons (ti:=⟨_,_,_,_⟩) Tryz.underlying68 (by kernel_rfl) <|
 TabOk.cons (ti:=⟨_,_,_,_⟩) Tryz.underlying69 (by kernel_rfl) <|
 TabOk.cons (ti:=⟨_,_,_,_⟩) Tryz.underlying70 (by kernel_rfl) <|
 TabOk.cons (ti:=⟨_,_,_,_⟩) Tryz.underlying71 (by kernel_rfl) <|
 TabOk.cons (ti:=⟨_,_,_,_⟩) Tryz.underlying72 (by kernel_rfl) <|
 TabOk.cons (ti:=⟨_,_,_,_⟩) Tryz.underlying73 (by kernel_rfl) <|
 TabOk.cons (ti:=⟨_,_,_,_⟩) Tryz.underlying74 (by kernel_rfl) <|
 TabOk.cons (ti:=⟨_,_,_,_⟩) Tryz.underlying75 (by kernel_rfl) <|
 TabOk.cons (ti:=⟨_,_,_,_⟩) Tryz.underlying76 (by kernel_rfl) <|
 TabOk.cons (ti:=⟨_,_,_,_⟩) Tryz.underlying77 (by kernel_rfl) <|
 TabOk.cons (ti:=⟨_,_,_,_⟩) Tryz.underlying78 (by kernel_rfl) <|
 TabOk.cons (ti:=⟨_,_,_,_⟩) Tryz.underlying79 (by kernel_rfl) <|
 TabOk.cons (ti:=⟨_,_,_,_⟩) Tryz.underlying80 (by kernel_rfl) <|
 TabOk.cons (ti:=⟨_,_,_,_⟩) Tryz.underlying81 (by kernel_rfl) <|
 TabOk.cons (ti:=⟨_,_,_,_⟩) Tryz.underlying82 (by kernel_rfl) <|
 TabOk.cons (ti:=⟨_,_,_,_⟩) Tryz.underlying83 (by kernel_rfl) <|
 TabOk.cons (ti:=⟨_,_,_,_⟩) Tryz.underlying84 (by kernel_rfl) <|
 TabOk.cons (ti:=⟨_,_,_,_⟩) Tryz.underlying85 (by kernel_rfl) <|
 TabOk.cons (ti:=⟨_,_,_,_⟩) Tryz.underlying86 (by kernel_rfl) <|
 TabOk.cons (ti:=⟨_,_,_,_⟩) Tryz.underlying87 (by kernel_rfl) <|
 TabOk.cons (ti:=⟨_,_,_,_⟩) Tryz.underlying88 (by kernel_rfl) <|
 TabOk.cons (ti:=⟨_,_,_,_⟩) Tryz.underlying89 (by kernel_rfl) <|
 TabOk.cons (ti:=⟨_,_,_,_⟩) Tryz.underlying90 (by kernel_rfl) <|
 TabOk.cons (ti:=⟨_,_,_,_⟩) Tryz.underlying91 (by kernel_rfl) <|
 TabOk.cons (ti:=⟨_,_,_,_⟩) Tryz.underlying92 (by kernel_rfl) <|
 TabOk.cons (ti:=⟨_,_,_,_⟩) Tryz.underlying93 (by kernel_rfl) <|
 TabOk.cons (ti:=⟨_,_,_,_⟩) Tryz.underlying94 (by kernel_rfl) <|
 TabOk.cons (ti:=⟨_,_,_,_⟩) Tryz.underlying95 (by kernel_rfl) <|
 TabOk.cons (ti:=⟨_,_,_,_⟩) Tryz.underlying96 (by kernel_rfl) <|
 TabOk.cons (ti:=⟨_,_,_,_⟩) Tryz.underlying97 (by kernel_rfl) <|
 TabOk.cons (ti:=⟨_,_,_,_⟩) Tryz.underlying98 (by kernel_rfl) <|
 TabOk.cons (ti:=⟨_,_,_,_⟩) Tryz.underlying99 (by kernel_rfl) <|
 TabOk.cons (ti:=⟨_,_,_,_⟩) Tryz.underlying100 (by kernel_rfl) <|
 TabOk.cons (ti:=⟨_,_,_,_⟩) Tryz.underlying101 (by kernel_rfl) <|
 TabOk.cons (ti:=⟨_,_,_,_⟩) Tryz.underlying102 (by kernel_rfl) <|
 TabOk.cons (ti:=⟨_,_,_,_⟩) Tryz.underlying103 (by kernel_rfl) <|
 TabOk.cons (ti:=⟨_,_,_,_⟩) Tryz.underlying104 (by kernel_rfl) <|
 TabOk.cons (ti:=⟨_,_,_,_⟩) Tryz.underlying105 (by kernel_rfl) <|
 TabOk.cons (ti:=⟨_,_,_,_⟩) Tryz.underlying106 (by kernel_rfl) <|
 TabOk.cons (ti:=⟨_,_,_,_⟩) Tryz.underlying107 (by kernel_rfl) <|
 TabOk.cons (ti:=⟨_,_,_,_⟩) Tryz.underlying108 (by kernel_rfl) <|
 TabOk.cons (ti:=⟨_,_,_,_⟩) Tryz.underlying109 (by kernel_rfl) <|
 TabOk.cons (ti:=⟨_,_,_,_⟩) Tryz.underlying110 (by kernel_rfl) <|
 TabOk.cons (ti:=⟨_,_,_,_⟩) Tryz.underlying111 (by kernel_rfl) <|
 TabOk.cons (ti:=⟨_,_,_,_⟩) Tryz.underlying112 (by kernel_rfl) <|
 TabOk.cons (ti:=⟨_,_,_,_⟩) Tryz.underlying113 (by kernel_rfl) <|
 TabOk.cons (ti:=⟨_,_,_,_⟩) Tryz.underlying114 (by kernel_rfl) <|
 TabOk.cons (ti:=⟨_,_,_,_⟩) Tryz.underlying115 (by kernel_rfl) <|
 TabOk.cons (ti:=⟨_,_,_,_⟩) Tryz.underlying116 (by kernel_rfl) <|
 TabOk.cons (ti:=⟨_,_,_,_⟩) Tryz.underlying117 (by kernel_rfl) <|
 TabOk.cons (ti:=⟨_,_,_,_⟩) Tryz.underlying118 (by kernel_rfl) <|
 TabOk.cons (ti:=⟨_,_,_,_⟩) Tryz.underlying119 (by kernel_rfl) <|
 TabOk.cons (ti:=⟨_,_,_,_⟩) Tryz.underlying120 (by kernel_rfl) <|
 TabOk.cons (ti:=⟨_,_,_,_⟩) Tryz.underlying121 (by kernel_rfl) <|
 TabOk.cons (ti:=⟨_,_,_,_⟩) Tryz.underlying122 (by kernel_rfl) <|
 TabOk.cons (ti:=⟨_,_,_,_⟩) Tryz.underlying123 (by kernel_rfl) <|
 TabOk.cons (ti:=⟨_,_,_,_⟩) Tryz.underlying124 (by kernel_rfl) <|
 TabOk.cons (ti:=⟨_,_,_,_⟩) Tryz.underlying125 (by kernel_rfl) <|
 TabOk.cons (ti:=⟨_,_,_,_⟩) Tryz.underlying126 (by kernel_rfl) <|
 TabOk.cons (ti:=⟨_,_,_,_⟩) Tryz.underlying127 (by kernel_rfl) <|
 TabOk.cons (ti:=⟨_,_,_,_⟩) Tryz.underlying128 (by kernel_rfl) <|
 TabOk.cons (ti:=⟨_,_,_,_⟩) Tryz.underlying129 (by kernel_rfl) <|
 TabOk.cons (ti:=⟨_,_,_,_⟩) Tryz.underlying130 (by kernel_rfl) <|
 TabOk.cons (ti:=⟨_,_,_,_⟩) Tryz.underlying131 (by kernel_rfl) <|
 TabOk.cons (ti:=⟨_,_,_,_⟩) Tryz.underlying132 (by kernel_rfl) <|
 TabOk.cons (ti:=⟨_,_,_,_⟩) Tryz.underlying133 (by kernel_rfl) <|
 TabOk.cons (ti:=⟨_,_,_,_⟩) Tryz.underlying134 (by kernel_rfl) <|
 TabOk.cons (ti:=⟨_,_,_,_⟩) Tryz.underlying135 (by kernel_rfl) <|
 TabOk.cons (ti:=⟨_,_,_,_⟩) Tryz.underlying136 (by kernel_rfl) <|
 TabOk.cons (ti:=⟨_,_,_,_⟩) Tryz.underlying137 (by kernel_rfl) <|
 TabOk.cons (ti:=⟨_,_,_,_⟩) Tryz.underlying138 (by kernel_rfl) <|
 TabOk.cons (ti:=⟨_,_,_,_⟩) Tryz.underlying139 (by kernel_rfl) <|
 TabOk.cons (ti:=⟨_,_,_,_⟩) Tryz.underlying140 (by kernel_rfl) <|
 TabOk.cons (ti:=⟨_,_,_,_⟩) Tryz.underlying141 (by kernel_rfl) <|
 TabOk.cons (ti:=⟨_,_,_,_⟩) Tryz.underlying142 (by kernel_rfl) <|
 TabOk.cons (ti:=⟨_,_,_,_⟩) Tryz.underlying143 (by kernel_rfl) <|
 TabOk.cons (ti:=⟨_,_,_,_⟩) Tryz.underlying144 (by kernel_rfl) <|
 TabOk.cons (ti:=⟨_,_,_,_⟩) Tryz.underlying145 (by kernel_rfl) <|
 TabOk.cons (ti:=⟨_,_,_,_⟩) Tryz.underlying146 (by kernel_rfl) <|
 TabOk.cons (ti:=⟨_,_,_,_⟩) Tryz.underlying147 (by kernel_rfl) <|
 TabOk.cons (ti:=⟨_,_,_,_⟩) Tryz.underlying148 (by kernel_rfl) <|
 TabOk.cons (ti:=⟨_,_,_,_⟩) Tryz.underlying149 (by kernel_rfl) <|
 TabOk.cons (ti:=⟨_,_,_,_⟩) Tryz.underlying150 (by kernel_rfl) <|
 TabOk.cons (ti:=⟨_,_,_,_⟩) Tryz.underlying151 (by kernel_rfl) <|
 TabOk.cons (ti:=⟨_,_,_,_⟩) Tryz.underlying152 (by kernel_rfl) <|
 TabOk.cons (ti:=⟨_,_,_,_⟩) Tryz.underlying153 (by kernel_rfl) <|
 TabOk.cons (ti:=⟨_,_,_,_⟩) Tryz.underlying154 (by kernel_rfl) <|
 TabOk.cons (ti:=⟨_,_,_,_⟩) Tryz.underlying155 (by kernel_rfl) <|
 TabOk.cons (ti:=⟨_,_,_,_⟩) Tryz.underlying156 (by kernel_rfl) <|
 TabOk.cons (ti:=⟨_,_,_,_⟩) Tryz.underlying157 (by kernel_rfl) <|
 TabOk.cons (ti:=⟨_,_,_,_⟩) Tryz.underlying158 (by kernel_rfl) <|
 TabOk.cons (ti:=⟨_,_,_,_⟩) Tryz.underlying159 (by kernel_rfl) <|
 TabOk.cons (ti:=⟨_,_,_,_⟩) Tryz.underlying160 (by kernel_rfl) <|
 TabOk.cons (ti:=⟨_,_,_,_⟩) Tryz.underlying161 (by kernel_rfl) <|
 TabOk.cons (ti:=⟨_,_,_,_⟩) Tryz.underlying162 (by kernel_rfl) <|
 TabOk.cons (ti:=⟨_,_,_,_⟩) Tryz.underlying163 (by kernel_rfl) <|
 TabOk.cons (ti:=⟨_,_,_,_⟩) Tryz.underlying164 (by kernel_rfl) <|
 TabOk.cons (ti:=⟨_,_,_,_⟩) Tryz.underlying165 (by kernel_rfl) <|
 TabOk.cons (ti:=⟨_,_,_,_⟩) Tryz.underlying166 (by kernel_rfl) <|
 TabOk.cons (ti:=⟨_,_,_,_⟩) Tryz.underlying167 (by kernel_rfl) <|
 TabOk.cons (ti:=⟨_,_,_,_⟩) Tryz.underlying173 (by kernel_rfl) <|
 TabOk.cons (ti:=⟨_,_,_,_⟩) Tryz.underlying176 (by kernel_rfl) <|
 TabOk.nil _
noncomputable def frames:List (Nat×Frm):=[
 (3,{ fn:=Tryz.f3,n:=25,V:=3,cross:=[],ord:=fun id=>match id with | 1=>([0,2,1,3,4,5,6,8,7,9,10,11,12,13,15,16,14,17,18,19,20,21,22],[1,3,7,9,14,20]) | _=>([],[]) }),
 (4,{ fn:=Tryz.f4,n:=16,V:=3,cross:=[],ord:=fun id=>match id with | 1=>([0,2,1,3,4,5,6,7,8,9,10,11,12,13],[1,3,8,11]) | _=>([],[]) }),
 (5,{ fn:=Tryz.f5,n:=24,V:=5,cross:=[],ord:=fun id=>match id with | 1=>([0,1,3,4,2,5,6,7,8,9,11,12,10,13,14,15,16,17,18,19],[2,5,10,13,17]) | _=>([],[]) }),
 (6,{ fn:=Tryz.f6,n:=11,V:=3,cross:=[],ord:=fun id=>match id with | 1=>([0,2,1,3,4,5,6,7,8],[1,3,6]) | _=>([],[]) }),
 (7,{ fn:=Tryz.f7,n:=41,V:=3,cross:=[4,5,16],ord:=fun id=>match id with | 4=>([0,1,2,3,4,6,5,7,8,9,10,11,12,13,14,15,16,17,18],[1,5,7,12,16]) | _=>([],[]) }),
 (8,{ fn:=Tryz.f8,n:=40,V:=1,cross:=[2,3,4,9,17],ord:=fun id=>match id with | 5=>([1,0,2,3,4],[0,2,4]) | _=>([],[]) }),
 (9,{ fn:=Tryz.f9,n:=13,V:=4,cross:=[7,12],ord:=fun _=>([],[]) }),
 (10,{ fn:=Tryz.f10,n:=19,V:=3,cross:=[5,8,18],ord:=fun _=>([],[]) }),
 (11,{ fn:=Tryz.f11,n:=11,V:=5,cross:=[],ord:=fun _=>([],[]) }),
 (12,{ fn:=Tryz.f12,n:=5,V:=3,cross:=[],ord:=fun _=>([],[]) }),
 (13,{ fn:=Tryz.f13,n:=5,V:=3,cross:=[],ord:=fun _=>([],[]) }),
 (14,{ fn:=Tryz.f14,n:=71,V:=6,cross:=[37],ord:=fun id=>match id with | 2=>([1,0,2,3,4,5],[0,2,4,5]) | _=>([],[]) }),
 (15,{ fn:=Tryz.f15,n:=72,V:=5,cross:=[6,8,10,12,16,18,19,20,21,25,26,27,28,38,40,41,42,43,47,48,49,50,59,62],ord:=fun _=>([],[]) }),
 (16,{ fn:=Tryz.f16,n:=56,V:=4,cross:=[7,12,41,45,55],ord:=fun _=>([],[]) }),
 (17,{ fn:=Tryz.f17,n:=10,V:=5,cross:=[],ord:=fun _=>([],[]) }),
 (18,{ fn:=Tryz.f18,n:=59,V:=5,cross:=[],ord:=fun _=>([],[]) }),
 (19,{ fn:=Tryz.f19,n:=89,V:=6,cross:=[64,69,83],ord:=fun id=>match id with | 6=>([0,1,2,3,4,5,6,7,8,9,10,11],[10]) | _=>([],[]) }),
 (20,{ fn:=Tryz.f20,n:=8,V:=3,cross:=[5],ord:=fun _=>([],[]) }),
 (21,{ fn:=Tryz.f21,n:=18,V:=3,cross:=[15],ord:=fun _=>([],[]) }),
 (22,{ fn:=Tryz.f22,n:=4,V:=1,cross:=[],ord:=fun _=>([],[]) }),
 (23,{ fn:=Tryz.f23,n:=5,V:=1,cross:=[2],ord:=fun _=>([],[]) }),
 (24,{ fn:=Tryz.f24,n:=14,V:=4,cross:=[6,10],ord:=fun _=>([],[]) }),
 (25,{ fn:=Tryz.f25,n:=6,V:=3,cross:=[],ord:=fun _=>([],[]) }),
 (26,{ fn:=Tryz.f26,n:=65,V:=3,cross:=[4,5,6,7,9,14,31,51],ord:=fun _=>([],[]) }),
 (27,{ fn:=Tryz.f27,n:=41,V:=3,cross:=[4,5,6,16],ord:=fun _=>([],[]) }),
 (28,{ fn:=Tryz.f28,n:=46,V:=4,cross:=[21,24,28,31,36,45],ord:=fun _=>([],[]) }),
 (29,{ fn:=Tryz.f29,n:=39,V:=1,cross:=[2,3,7,15],ord:=fun _=>([],[]) }),
 (30,{ fn:=Tryz.f30,n:=21,V:=4,cross:=[5,9,10,11,12,16],ord:=fun _=>([],[]) }),
 (31,{ fn:=Tryz.f31,n:=26,V:=4,cross:=[5,9,10,11,12],ord:=fun id=>match id with | 5=>([0,1,2,3,4,6,5,7,8,9],[5,7,8]) | _=>([],[]) }),
 (32,{ fn:=Tryz.f32,n:=11,V:=2,cross:=[],ord:=fun id=>match id with | 2=>([0,1,2,3,4,5],[1,2,3,5]) | _=>([],[]) }),
 (33,{ fn:=Tryz.f33,n:=14,V:=3,cross:=[5],ord:=fun _=>([],[]) }),
 (34,{ fn:=Tryz.f34,n:=13,V:=5,cross:=[],ord:=fun _=>([],[]) }),
 (35,{ fn:=Tryz.f35,n:=128,V:=2,cross:=[4,5,6,8,9,14,15,16,17,32,37,38,57,98],ord:=fun _=>([],[]) }),
 (36,{ fn:=Tryz.f36,n:=56,V:=2,cross:=[4,5,6,15,39],ord:=fun _=>([],[]) }),
 (37,{ fn:=Tryz.f37,n:=130,V:=1,cross:=[2,3,4,5,8,12,27,29,30,51,52,56,74,101,102,129],ord:=fun id=>match id with | 18=>([0,1,2,3,4,5,6,7,8,9,10,11,12,13,14,15],[]) | _=>([],[]) }),
 (38,{ fn:=Tryz.f38,n:=32,V:=3,cross:=[6,7,8,9,14,15,16,17,18,30],ord:=fun _=>([],[]) }),
 (39,{ fn:=Tryz.f39,n:=31,V:=5,cross:=[],ord:=fun _=>([],[]) }),
 (40,{ fn:=Tryz.f40,n:=31,V:=5,cross:=[],ord:=fun _=>([],[]) }),
 (41,{ fn:=Tryz.f41,n:=32,V:=3,cross:=[6,7,8,9,14,15,16,17,18,30],ord:=fun _=>([],[]) }),
 (42,{ fn:=Tryz.f42,n:=55,V:=6,cross:=[35,40,54],ord:=fun id=>match id with | 6=>([0,1,2,3,4,5,6,7,8,9,10,11],[10]) | _=>([],[]) }),
 (43,{ fn:=Tryz.f43,n:=64,V:=2,cross:=[4,5,9,63],ord:=fun id=>match id with | 4=>([0,1,2,3,4,5,6,7,8,9,10,11,12,13,14,15,16,17,18,19,20,21,22,23,24,25,26,27,28,29,30,31,32,33,34,35,36,37,38,39,40,41,42,43,44,45,46,47,48,49,50,51],[35,49]) | _=>([],[]) }),
 (44,{ fn:=Tryz.f44,n:=111,V:=4,cross:=[5,7,8,13,17,19,21,23,25,27,29,34,39,45,60,83,89,95,96,97,98],ord:=fun id=>match id with | 25=>([0,1,2,3,7,8,9,10,4,5,6,11,12,13],[4,5,11]) | 27=>([0,1,2,3,7,8,9,10,15,16,17,18,4,5,6,11,12,13,14,19,20,21],[4,5,11,12,19]) | _=>([],[]) }),
 (45,{ fn:=Tryz.f45,n:=140,V:=7,cross:=[11,14,20,40,73,93,127,133],ord:=fun id=>match id with | 9=>([0,1,2,3,4,5,6,7,8,12,13,14,15,9,10,11,16,17,18],[9,10,16]) | 11=>([0,1,2,3,4,5,6,7,8,12,13,14,15,16,17,18,19,20,25,26,27,28,9,10,11,21,22,23,24,29,30,31],[9,10,21,22,29]) | 13=>([0,1,2,3,4,5,6,7,8,12,13,14,15,9,10,11,16,17,18],[9,10,16]) | 16=>([0,1,2,3,4,5,6,7,8,12,13,14,15,19,20,21,22,23,24,25,26,27,9,10,11,16,17,18,28,29,30,31],[9,10,16,28,29]) | _=>([],[]) }),
 (46,{ fn:=Tryz.f46,n:=25,V:=3,cross:=[7,10],ord:=fun _=>([],[]) }),
 (47,{ fn:=Tryz.f47,n:=9,V:=2,cross:=[4],ord:=fun _=>([],[]) }),
 (48,{ fn:=Tryz.f48,n:=7,V:=2,cross:=[3],ord:=fun _=>([],[]) }),
 (49,{ fn:=Tryz.f49,n:=10,V:=2,cross:=[3,4,5],ord:=fun _=>([],[]) }),
 (50,{ fn:=Tryz.f50,n:=49,V:=5,cross:=[31,38,42],ord:=fun id=>match id with | 3=>([0,1,3,4,2,5,6,7],[2,5]) | _=>([],[]) }),
 (51,{ fn:=Tryz.f51,n:=122,V:=4,cross:=[5,6,44,63,74,93,104],ord:=fun id=>match id with | 19=>([0,1,2,3,4,5,6,7,8,9,10,11,12,13,14,15,16],[1,5,13]) | _=>([],[]) }),
 (52,{ fn:=Tryz.f52,n:=119,V:=4,cross:=[6,8,9,15,24,40,50,60,70,82,99],ord:=fun _=>([],[]) }),
 (53,{ fn:=Tryz.f53,n:=28,V:=2,cross:=[4,5,9,27],ord:=fun _=>([],[]) }),
 (54,{ fn:=Tryz.f54,n:=9,V:=2,cross:=[4],ord:=fun _=>([],[]) }),
 (55,{ fn:=Tryz.f55,n:=8,V:=4,cross:=[],ord:=fun _=>([],[]) }),
 (56,{ fn:=Tryz.f56,n:=41,V:=3,cross:=[],ord:=fun _=>([],[]) }),
 (57,{ fn:=Tryz.f57,n:=75,V:=1,cross:=[2,3,4,5,30,32,33,34,57,60,66,68,74],ord:=fun _=>([],[]) }),
 (58,{ fn:=Tryz.f58,n:=26,V:=3,cross:=[],ord:=fun _=>([],[]) }),
 (59,{ fn:=Tryz.f59,n:=47,V:=1,cross:=[2,3,14,18,46],ord:=fun _=>([],[]) }),
 (60,{ fn:=Tryz.f60,n:=26,V:=2,cross:=[4,5,10,12,13,14,24],ord:=fun id=>match id with | 6=>([0,1,2,3,4,5,6,7,8],[]) | _=>([],[]) }),
 (61,{ fn:=Tryz.f61,n:=32,V:=3,cross:=[6,7,8,9,14,15,16,17,18,30],ord:=fun _=>([],[]) }),
 (62,{ fn:=Tryz.f62,n:=26,V:=2,cross:=[4,5,10,14,25],ord:=fun id=>match id with | 6=>([0,1,2,3,4,5,6,7,8],[]) | _=>([],[]) }),
 (63,{ fn:=Tryz.f63,n:=8,V:=3,cross:=[5],ord:=fun _=>([],[]) }),
 (64,{ fn:=Tryz.f64,n:=14,V:=1,cross:=[2,3,10],ord:=fun _=>([],[]) }),
 (65,{ fn:=Tryz.f65,n:=14,V:=1,cross:=[2,3,10],ord:=fun _=>([],[]) }),
 (66,{ fn:=Tryz.f66,n:=23,V:=2,cross:=[4,5,7,8,9,10,11],ord:=fun _=>([],[]) }),
 (67,{ fn:=Tryz.f67,n:=15,V:=3,cross:=[4,8],ord:=fun _=>([],[]) }),
 (68,{ fn:=Tryz.f68,n:=30,V:=4,cross:=[19],ord:=fun id=>match id with | 1=>([0,1,2,3,7,8,9,10,4,5,6,11,12,13],[4,5,11]) | _=>([],[]) }),
 (69,{ fn:=Tryz.f69,n:=27,V:=3,cross:=[4,5,14],ord:=fun id=>match id with | 3=>([0,1,2,3,4,5,6,7],[5]) | 5=>([0,1,4,5,2,3,6,7,8],[2,6]) | _=>([],[]) }),
 (70,{ fn:=Tryz.f70,n:=75,V:=2,cross:=[4,5,7,8,10,12,13,15,22,29,39,40,41,42,49,63,64,65,66],ord:=fun _=>([],[]) }),
 (71,{ fn:=Tryz.f71,n:=31,V:=2,cross:=[4,5,6,10,14],ord:=fun id=>match id with | 7=>([0,1,2,3,4,5,6,7,8,9,10,11,12,13],[10,11]) | _=>([],[]) }),
 (72,{ fn:=Tryz.f72,n:=12,V:=3,cross:=[4,5],ord:=fun _=>([],[]) }),
 (73,{ fn:=Tryz.f73,n:=19,V:=3,cross:=[4,5,9,18],ord:=fun id=>match id with | 4=>([0,1,2,3,4,5,6],[]) | _=>([],[]) }),
 (74,{ fn:=Tryz.f74,n:=56,V:=2,cross:=[4,5,6,10,14,23,37],ord:=fun _=>([],[]) }),
 (75,{ fn:=Tryz.f75,n:=34,V:=3,cross:=[4,5,10,14,19,24,26,28,30,32],ord:=fun _=>([],[]) }),
 (76,{ fn:=Tryz.f76,n:=75,V:=3,cross:=[4],ord:=fun _=>([],[]) }),
 (77,{ fn:=Tryz.f77,n:=55,V:=5,cross:=[26,34,35,40,41,47,48,51],ord:=fun id=>match id with | 3=>([0,1,3,4,2,5,6,7],[2,5]) | _=>([],[]) }),
 (78,{ fn:=Tryz.f78,n:=104,V:=7,cross:=[10,12,13,49,64,71,82,89,93],ord:=fun _=>([],[]) }),
 (79,{ fn:=Tryz.f79,n:=146,V:=7,cross:=[8,9,37,50,64,76,87,110,117],ord:=fun id=>match id with | 4=>([0,1,2,3,4,5,6,7,8,9,10,11,12,13,14,15,16,17,18,20,21,22,19,23,24,25,26],[19,23,24]) | _=>([],[]) }),
 (80,{ fn:=Tryz.f80,n:=6,V:=3,cross:=[],ord:=fun _=>([],[]) }),
 (81,{ fn:=Tryz.f81,n:=19,V:=2,cross:=[4,5,7,8,9,16],ord:=fun _=>([],[]) }),
 (82,{ fn:=Tryz.f82,n:=20,V:=5,cross:=[],ord:=fun _=>([],[]) }),
 (83,{ fn:=Tryz.f83,n:=9,V:=2,cross:=[4],ord:=fun _=>([],[]) }),
 (84,{ fn:=Tryz.f84,n:=8,V:=4,cross:=[],ord:=fun id=>match id with | 1=>([0,2,1,3,4],[1,3]) | _=>([],[]) }),
 (85,{ fn:=Tryz.f85,n:=64,V:=8,cross:=[14],ord:=fun _=>([],[]) }),
 (86,{ fn:=Tryz.f86,n:=11,V:=5,cross:=[],ord:=fun _=>([],[]) }),
 (87,{ fn:=Tryz.f87,n:=11,V:=1,cross:=[2,8,10],ord:=fun _=>([],[]) }),
 (88,{ fn:=Tryz.f88,n:=29,V:=3,cross:=[4,5,11,15,28],ord:=fun id=>match id with | 6=>([0,1,2,3,4,5,6,7,8,9,10],[]) | _=>([],[]) }),
 (89,{ fn:=Tryz.f89,n:=21,V:=3,cross:=[],ord:=fun _=>([],[]) }),
 (90,{ fn:=Tryz.f90,n:=24,V:=3,cross:=[4,5,9,14,23],ord:=fun _=>([],[]) }),
 (91,{ fn:=Tryz.f91,n:=19,V:=2,cross:=[4,5,7,8,9,16],ord:=fun _=>([],[]) }),
 (92,{ fn:=Tryz.f92,n:=9,V:=1,cross:=[2],ord:=fun _=>([],[]) }),
 (93,{ fn:=Tryz.f93,n:=16,V:=7,cross:=[],ord:=fun _=>([],[]) }),
 (94,{ fn:=Tryz.f94,n:=90,V:=5,cross:=[12,27,43,55,71,74,79],ord:=fun _=>([],[]) }),
 (95,{ fn:=Tryz.f95,n:=9,V:=2,cross:=[4],ord:=fun _=>([],[]) }),
 (96,{ fn:=Tryz.f96,n:=25,V:=2,cross:=[7,21],ord:=fun id=>match id with | 3=>([0,1,2,3,5,6,7,8,9,11,4,10,12],[4]) | _=>([],[]) }),
 (97,{ fn:=Tryz.f97,n:=19,V:=2,cross:=[4,5],ord:=fun _=>([],[]) }),
 (98,{ fn:=Tryz.f98,n:=14,V:=1,cross:=[2],ord:=fun id=>match id with | 1=>([0,1,2,3,5,6,7,8,9,4,10,11],[4,10]) | _=>([],[]) }),
 (99,{ fn:=Tryz.f99,n:=8,V:=3,cross:=[5],ord:=fun _=>([],[]) }),
 (100,{ fn:=Tryz.f100,n:=18,V:=1,cross:=[2,3,12],ord:=fun _=>([],[]) }),
 (101,{ fn:=Tryz.f101,n:=18,V:=1,cross:=[2,3,12],ord:=fun _=>([],[]) }),
 (102,{ fn:=Tryz.f102,n:=24,V:=3,cross:=[],ord:=fun _=>([],[]) }),
 (103,{ fn:=Tryz.f103,n:=9,V:=3,cross:=[4],ord:=fun _=>([],[]) }),
 (104,{ fn:=Tryz.f104,n:=48,V:=2,cross:=[4,5,6,7,8,10,26,37],ord:=fun id=>match id with | 9=>([0,1,2,3,4,5,6,7,8,9],[7]) | _=>([],[]) }),
 (105,{ fn:=Tryz.f105,n:=19,V:=2,cross:=[4,5,7,8,9,16],ord:=fun _=>([],[]) }),
 (106,{ fn:=Tryz.f106,n:=107,V:=11,cross:=[18,23,30,43,48,76,81,94,105],ord:=fun id=>match id with | 9=>([0,2,3,1,4,5,6,7,8,9],[1,4]) | _=>([],[]) }),
 (107,{ fn:=Tryz.f107,n:=57,V:=2,cross:=[4,5,6,9,13,19,27,56],ord:=fun _=>([],[]) }),
 (108,{ fn:=Tryz.f108,n:=87,V:=7,cross:=[8,9,10,12,13,14,15,19,22,23,24,25,45,55,56,57,58,69,84],ord:=fun id=>match id with | 10=>([0,1,2,3,4,5,6,7,8],[]) | _=>([],[]) }),
 (109,{ fn:=Tryz.f109,n:=44,V:=5,cross:=[12,13,16,20,25,29,34],ord:=fun id=>match id with | 1=>([0,1,2,3,4,5,6,7],[]) | _=>([],[]) }),
 (110,{ fn:=Tryz.f110,n:=9,V:=1,cross:=[2],ord:=fun _=>([],[]) }),
 (111,{ fn:=Tryz.f111,n:=17,V:=1,cross:=[2],ord:=fun _=>([],[]) }),
 (112,{ fn:=Tryz.f112,n:=13,V:=1,cross:=[2,3,8],ord:=fun _=>([],[]) }),
 (113,{ fn:=Tryz.f113,n:=27,V:=2,cross:=[4,5,7,10,11,12,13],ord:=fun _=>([],[]) }),
 (114,{ fn:=Tryz.f114,n:=5,V:=1,cross:=[2],ord:=fun _=>([],[]) }),
 (115,{ fn:=Tryz.f115,n:=44,V:=4,cross:=[5,7,10,15,16,17,18,28,29,30,31],ord:=fun _=>([],[]) }),
 (116,{ fn:=Tryz.f116,n:=20,V:=3,cross:=[4,5,9,13],ord:=fun _=>([],[]) }),
 (117,{ fn:=Tryz.f117,n:=36,V:=3,cross:=[4,12,16],ord:=fun id=>match id with | 4=>([0,1,2,3,4,5,6,7,8,9,10],[7,8,10]) | 5=>([0,1,2,3,4,5,6,7,8,9],[7,9]) | _=>([],[]) }),
 (118,{ fn:=Tryz.f118,n:=28,V:=1,cross:=[2,3,4,5,6,7,8,9,10,15,20],ord:=fun _=>([],[]) }),
 (119,{ fn:=Tryz.f119,n:=19,V:=2,cross:=[4,5,7,8,9,16],ord:=fun _=>([],[]) }),
 (120,{ fn:=Tryz.f120,n:=20,V:=1,cross:=[6,19],ord:=fun _=>([],[]) }),
 (121,{ fn:=Tryz.f121,n:=30,V:=2,cross:=[4],ord:=fun id=>match id with | 0=>([0,1,2,3,6,9,10,11,12,13,4,5,7,8,14,15],[4,8]) | _=>([],[]) }),
 (122,{ fn:=Tryz.f122,n:=64,V:=5,cross:=[8,19,31,39,46],ord:=fun _=>([],[]) }),
 (123,{ fn:=Tryz.f123,n:=32,V:=3,cross:=[6,7,8,9,14,15,16,17,18,30],ord:=fun _=>([],[]) }),
 (124,{ fn:=Tryz.f124,n:=9,V:=3,cross:=[4],ord:=fun _=>([],[]) }),
 (125,{ fn:=Tryz.f125,n:=30,V:=2,cross:=[4,5,6,7,8,9],ord:=fun _=>([],[]) }),
 (126,{ fn:=Tryz.f126,n:=21,V:=1,cross:=[2,3,6,10,17,20],ord:=fun _=>([],[]) }),
 (127,{ fn:=Tryz.f127,n:=16,V:=3,cross:=[4,5,11],ord:=fun _=>([],[]) }),
 (128,{ fn:=Tryz.f128,n:=17,V:=1,cross:=[2,3,7,14],ord:=fun _=>([],[]) }),
 (129,{ fn:=Tryz.f129,n:=9,V:=1,cross:=[2],ord:=fun _=>([],[]) }),
 (130,{ fn:=Tryz.f130,n:=17,V:=1,cross:=[2],ord:=fun _=>([],[]) }),
 (131,{ fn:=Tryz.f131,n:=33,V:=5,cross:=[20],ord:=fun _=>([],[]) }),
 (132,{ fn:=Tryz.f132,n:=9,V:=2,cross:=[4],ord:=fun _=>([],[]) }),
 (133,{ fn:=Tryz.f133,n:=5,V:=1,cross:=[2],ord:=fun _=>([],[]) }),
 (134,{ fn:=Tryz.f134,n:=31,V:=1,cross:=[2,3,5,8,9,10,11,12,15,22,29],ord:=fun _=>([],[]) }),
 (135,{ fn:=Tryz.f135,n:=8,V:=1,cross:=[2,5],ord:=fun _=>([],[]) }),
 (136,{ fn:=Tryz.f136,n:=5,V:=1,cross:=[2],ord:=fun _=>([],[]) }),
 (137,{ fn:=Tryz.f137,n:=32,V:=2,cross:=[4,5,6,8,10,12,24],ord:=fun _=>([],[]) }),
 (138,{ fn:=Tryz.f138,n:=16,V:=3,cross:=[4,5,11],ord:=fun _=>([],[]) }),
 (139,{ fn:=Tryz.f139,n:=47,V:=6,cross:=[32,33,34,35],ord:=fun id=>match id with | 1=>([0,1,2,3,4,6,7,8,10,11,12,5,9,13,14,15,16],[5,9,13,15,16]) | 7=>([0,1,2,3,4,5,6],[4,6]) | _=>([],[]) }),
 (140,{ fn:=Tryz.f140,n:=17,V:=2,cross:=[4],ord:=fun _=>([],[]) }),
 (143,{ fn:=Tryz.f143,n:=27,V:=3,cross:=[4,11,18],ord:=fun _=>([],[]) }),
 (144,{ fn:=Tryz.f144,n:=25,V:=5,cross:=[10],ord:=fun _=>([],[]) }),
 (145,{ fn:=Tryz.f145,n:=36,V:=5,cross:=[7,16,20],ord:=fun _=>([],[]) }),
 (146,{ fn:=Tryz.f146,n:=26,V:=1,cross:=[2,3,4,9,13],ord:=fun _=>([],[]) }),
 (147,{ fn:=Tryz.f147,n:=20,V:=3,cross:=[4,5,9,13],ord:=fun _=>([],[]) }),
 (148,{ fn:=Tryz.f148,n:=34,V:=3,cross:=[4,12,16],ord:=fun id=>match id with | 5=>([0,1,2,3,4,5,6,7,8,9],[7,9]) | _=>([],[]) }),
 (149,{ fn:=Tryz.f149,n:=17,V:=2,cross:=[4,5,6],ord:=fun _=>([],[]) }),
 (150,{ fn:=Tryz.f150,n:=51,V:=2,cross:=[4,5,6,7,8,9,10,11,12,13],ord:=fun _=>([],[]) }),
 (151,{ fn:=Tryz.f151,n:=30,V:=1,cross:=[2,3,4,8,15,20,28],ord:=fun _=>([],[]) }),
 (152,{ fn:=Tryz.f152,n:=19,V:=2,cross:=[4,5,7,8,9,16],ord:=fun _=>([],[]) }),
 (153,{ fn:=Tryz.f153,n:=19,V:=1,cross:=[2,3,5,7,8,9,10,11],ord:=fun _=>([],[]) }),
 (154,{ fn:=Tryz.f154,n:=5,V:=1,cross:=[2],ord:=fun _=>([],[]) }),
 (155,{ fn:=Tryz.f155,n:=8,V:=2,cross:=[4],ord:=fun _=>([],[]) }),
 (156,{ fn:=Tryz.f156,n:=41,V:=1,cross:=[2,3,4,10,23],ord:=fun id=>match id with | 7=>([0,1,3,4,5,6,7,2,8,9],[2]) | _=>([],[]) }),
 (157,{ fn:=Tryz.f157,n:=33,V:=2,cross:=[4,5,6,8,10,12,25],ord:=fun _=>([],[]) }),
 (158,{ fn:=Tryz.f158,n:=33,V:=5,cross:=[18],ord:=fun id=>match id with | 1=>([0,1,2,3,5,6,4,7,8,9,10],[4,7,9,10]) | 5=>([0,1,2,3,4,5,6,7,8,9,10,11],[7,8,9,11]) | _=>([],[]) }),
 (159,{ fn:=Tryz.f159,n:=9,V:=2,cross:=[4],ord:=fun _=>([],[]) }),
 (160,{ fn:=Tryz.f160,n:=54,V:=2,cross:=[4,5,6,7,8,9,11,17,23,34],ord:=fun _=>([],[]) }),
 (161,{ fn:=Tryz.f161,n:=8,V:=1,cross:=[2,4],ord:=fun _=>([],[]) }),
 (162,{ fn:=Tryz.f162,n:=22,V:=1,cross:=[2,3,5],ord:=fun id=>match id with | 4=>([0,1,3,4,5,6,7,8,9,2,10,11],[2]) | _=>([],[]) }),
 (163,{ fn:=Tryz.f163,n:=19,V:=2,cross:=[4,5,7,8,9,16],ord:=fun _=>([],[]) }),
 (164,{ fn:=Tryz.f164,n:=15,V:=1,cross:=[2,4],ord:=fun _=>([],[]) }),
 (165,{ fn:=Tryz.f165,n:=15,V:=1,cross:=[2,3],ord:=fun _=>([],[]) }),
 (166,{ fn:=Tryz.f166,n:=167,V:=2,cross:=[4,5,6,7,8,9,10,11,12,13,14,15,16,20,99,139,161],ord:=fun id=>match id with | 7=>([0,1,2,3,4,5,6,7,8,9,10,11,12,13,14],[12,14]) | 8=>([0,1,2,3,4,5,6,7,8,9,10,11,12,13,14],[12,14]) | 9=>([0,1,2,3,4,5,6,7,8,9,10,11,12,13,14],[12,14]) | 10=>([0,1,2,3,4,5,6,7,8,9,10,11,12,13,14],[12,14]) | 17=>([0,1,2,3,4,5,6,7,8,9,10,11,12,13,14],[12,14]) | 18=>([0,1,2,3,4,5,6,7,8,9,10,11,12,13,14],[12,14]) | 23=>([0,1,2,3,4,5,6,7,8,9,10,11,12,13,14],[12,14]) | _=>([],[]) }),
 (167,{ fn:=Tryz.f167,n:=102,V:=5,cross:=[10,11,12,13,14,15,16,17,18,28,30,34,46,68,89,94],ord:=fun _=>([],[]) }),
 (168,{ fn:=Tryz.f168,n:=6,V:=1,cross:=[2],ord:=fun _=>([],[]) }),
 (169,{ fn:=Tryz.f169,n:=25,V:=1,cross:=[2,4,8,14],ord:=fun _=>([],[]) }),
 (170,{ fn:=Tryz.f170,n:=4,V:=1,cross:=[2,3],ord:=fun _=>([],[]) }),
 (171,{ fn:=Tryz.f171,n:=8,V:=1,cross:=[2],ord:=fun _=>([],[]) }),
 (172,{ fn:=Tryz.f172,n:=8,V:=1,cross:=[2],ord:=fun _=>([],[]) }),
 (173,{ fn:=Tryz.f173,n:=14,V:=1,cross:=[2,4],ord:=fun _=>([],[]) }),
 (174,{ fn:=Tryz.f174,n:=14,V:=1,cross:=[2,4],ord:=fun _=>([],[]) })]
abbrev eqs:List Nat:=[]
theorem eqs_ok:∀t,eqs.contains t=true→Tryz.prog.eqGuardType Tryz.prog.depth t=false∧Tryz.prog.stoodInHeld t=false:=by
 intro t h
 exact absurd h (by simp[eqs])
theorem frames_ok:FrmOk Tryz.prog (frmGet frames) :=
 FrmOk.cons Tryz.func3 rfl (by decide) <|
 FrmOk.cons Tryz.func4 rfl (by decide) <|
 FrmOk.cons Tryz.func5 rfl (by decide) <|
 FrmOk.cons Tryz.func6 rfl (by decide) <|
 FrmOk.cons Tryz.func7 rfl (by decide) <|
 FrmOk.cons Tryz.func8 rfl (by decide) <|
 FrmOk.cons Tryz.func9 rfl (by decide) <|
 FrmOk.cons Tryz.func10 rfl (by decide) <|
 FrmOk.cons Tryz.func11 rfl (by decide) <|
 FrmOk.cons Tryz.func12 rfl (by decide) <|
 FrmOk.cons Tryz.func13 rfl (by decide) <|
 FrmOk.cons Tryz.func14 rfl (by decide) <|
 FrmOk.cons Tryz.func15 rfl (by decide) <|
 FrmOk.cons Tryz.func16 rfl (by decide) <|
 FrmOk.cons Tryz.func17 rfl (by decide) <|
 FrmOk.cons Tryz.func18 rfl (by decide) <|
 FrmOk.cons Tryz.func19 rfl (by decide) <|
 FrmOk.cons Tryz.func20 rfl (by decide) <|
 FrmOk.cons Tryz.func21 rfl (by decide) <|
 FrmOk.cons Tryz.func22 rfl (by decide) <|
 FrmOk.cons Tryz.func23 rfl (by decide) <|
 FrmOk.cons Tryz.func24 rfl (by decide) <|
 FrmOk.cons Tryz.func25 rfl (by decide) <|
 FrmOk.cons Tryz.func26 rfl (by decide) <|
 FrmOk.cons Tryz.func27 rfl (by decide) <|
 FrmOk.cons Tryz.func28 rfl (by decide) <|
 FrmOk.cons Tryz.func29 rfl (by decide) <|
 FrmOk.cons Tryz.func30 rfl (by decide) <|
 FrmOk.cons Tryz.func31 rfl (by decide) <|
 FrmOk.cons Tryz.func32 rfl (by decide) <|
 FrmOk.cons Tryz.func33 rfl (by decide) <|
 FrmOk.cons Tryz.func34 rfl (by decide) <|
 FrmOk.cons Tryz.func35 rfl (by decide) <|
 FrmOk.cons Tryz.func36 rfl (by decide) <|
 FrmOk.cons Tryz.func37 rfl (by decide) <|
 FrmOk.cons Tryz.func38 rfl (by decide) <|
 FrmOk.cons Tryz.func39 rfl (by decide) <|
 FrmOk.cons Tryz.func40 rfl (by decide) <|
 FrmOk.cons Tryz.func41 rfl (by decide) <|
 FrmOk.cons Tryz.func42 rfl (by decide) <|
 FrmOk.cons Tryz.func43 rfl (by decide) <|
 FrmOk.cons Tryz.func44 rfl (by decide) <|
 FrmOk.cons Tryz.func45 rfl (by decide) <|
 FrmOk.cons Tryz.func46 rfl (by decide) <|
 FrmOk.cons Tryz.func47 rfl (by decide) <|
 FrmOk.cons Tryz.func48 rfl (by decide) <|
 FrmOk.cons Tryz.func49 rfl (by decide) <|
 FrmOk.cons Tryz.func50 rfl (by decide) <|
 FrmOk.cons Tryz.func51 rfl (by decide) <|
 FrmOk.cons Tryz.func52 rfl (by decide) <|
 FrmOk.cons Tryz.func53 rfl (by decide) <|
 FrmOk.cons Tryz.func54 rfl (by decide) <|
 FrmOk.cons Tryz.func55 rfl (by decide) <|
 FrmOk.cons Tryz.func56 rfl (by decide) <|
 FrmOk.cons Tryz.func57 rfl (by decide) <|
 FrmOk.cons Tryz.func58 rfl (by decide) <|
 FrmOk.cons Tryz.func59 rfl (by decide) <|
 FrmOk.cons Tryz.func60 rfl (by decide) <|
 FrmOk.cons Tryz.func61 rfl (by decide) <|
 FrmOk.cons Tryz.func62 rfl (by decide) <|
 FrmOk.cons Tryz.func63 rfl (by decide) <|
 FrmOk.cons Tryz.func64 rfl (by decide) <|
 FrmOk.cons Tryz.func65 rfl (by decide) <|
 FrmOk.cons Tryz.func66 rfl (by decide) <|
 FrmOk.cons Tryz.func67 rfl (by decide) <|
 FrmOk.cons Tryz.func68 rfl (by decide) <|
 FrmOk.cons Tryz.func69 rfl (by decide) <|
 FrmOk.cons Tryz.func70 rfl (by decide) <|
 FrmOk.cons Tryz.func71 rfl (by decide) <|
 FrmOk.cons Tryz.func72 rfl (by decide) <|
 FrmOk.cons Tryz.func73 rfl (by decide) <|
 FrmOk.cons Tryz.func74 rfl (by decide) <|
 FrmOk.cons Tryz.func75 rfl (by decide) <|
 FrmOk.cons Tryz.func76 rfl (by decide) <|
 FrmOk.cons Tryz.func77 rfl (by decide) <|
 FrmOk.cons Tryz.func78 rfl (by decide) <|
 FrmOk.cons Tryz.func79 rfl (by decide) <|
 FrmOk.cons Tryz.func80 rfl (by decide) <|
 FrmOk.cons Tryz.func81 rfl (by decide) <|
 FrmOk.cons Tryz.func82 rfl (by decide) <|
 FrmOk.cons Tryz.func83 rfl (by decide) <|
 FrmOk.cons Tryz.func84 rfl (by decide) <|
 FrmOk.cons Tryz.func85 rfl (by decide) <|
 FrmOk.cons Tryz.func86 rfl (by decide) <|
 FrmOk.cons Tryz.func87 rfl (by decide) <|
 FrmOk.cons Tryz.func88 rfl (by decide) <|
 FrmOk.cons Tryz.func89 rfl (by decide) <|
 FrmOk.cons Tryz.func90 rfl (by decide) <|
 FrmOk.cons Tryz.func91 rfl (by decide) <|
 FrmOk.cons Tryz.func92 rfl (by decide) <|
 FrmOk.cons Tryz.func93 rfl (by decide) <|
 FrmOk.cons Tryz.func94 rfl (by decide) <|
 FrmOk.cons Tryz.func95 rfl (by decide) <|
 FrmOk.cons Tryz.func96 rfl (by decide) <|
 FrmOk.cons Tryz.func97 rfl (by decide) <|
 FrmOk.cons Tryz.func98 rfl (by decide) <|
 FrmOk.cons Tryz.func99 rfl (by decide) <|
 FrmOk.cons Tryz.func100 rfl (by decide) <|
 FrmOk.cons Tryz.func101 rfl (by decide) <|
 FrmOk.cons Tryz.func102 rfl (by decide) <|
 FrmOk.cons Tryz.func103 rfl (by decide) <|
 FrmOk.cons Tryz.func104 rfl (by decide) <|
 FrmOk.cons Tryz.func105 rfl (by decide) <|
 FrmOk.cons Tryz.func106 rfl (by decide) <|
 FrmOk.cons Tryz.func107 rfl (by decide) <|
 FrmOk.cons Tryz.func108 rfl (by decide) <|
 FrmOk.cons Tryz.func109 rfl (by decide) <|
 FrmOk.cons Tryz.func110 rfl (by decide) <|
 FrmOk.cons Tryz.func111 rfl (by decide) <|
 FrmOk.cons Tryz.func112 rfl (by decide) <|
 FrmOk.cons Tryz.func113 rfl (by decide) <|
 FrmOk.cons Tryz.func114 rfl (by decide) <|
 FrmOk.cons Tryz.func115 rfl (by decide) <|
 FrmOk.cons Tryz.func116 rfl (by decide) <|
 FrmOk.cons Tryz.func117 rfl (by decide) <|
 FrmOk.cons Tryz.func118 rfl (by decide) <|
 FrmOk.cons Tryz.func119 rfl (by decide) <|
 FrmOk.cons Tryz.func120 rfl (by decide) <|
 FrmOk.cons Tryz.func121 rfl (by decide) <|
 FrmOk.cons Tryz.func122 rfl (by decide) <|
 FrmOk.cons Tryz.func123 rfl (by decide) <|
 FrmOk.cons Tryz.func124 rfl (by decide) <|
 FrmOk.cons Tryz.func125 rfl (by decide) <|
 FrmOk.cons Tryz.func126 rfl (by decide) <|
 FrmOk.cons Tryz.func127 rfl (by decide) <|
 FrmOk.cons Tryz.func128 rfl (by decide) <|
 FrmOk.cons Tryz.func129 rfl (by decide) <|
 FrmOk.cons Tryz.func130 rfl (by decide) <|
 FrmOk.cons Tryz.func131 rfl (by decide) <|
 FrmOk.cons Tryz.func132 rfl (by decide) <|
 FrmOk.cons Tryz.func133 rfl (by decide) <|
 FrmOk.cons Tryz.func134 rfl (by decide) <|
 FrmOk.cons Tryz.func135 rfl (by decide) <|
 FrmOk.cons Tryz.func136 rfl (by decide) <|
 FrmOk.cons Tryz.func137 rfl (by decide) <|
 FrmOk.cons Tryz.func138 rfl (by decide) <|
 FrmOk.cons Tryz.func139 rfl (by decide) <|
 FrmOk.cons Tryz.func140 rfl (by decide) <|
 FrmOk.cons Tryz.func143 rfl (by decide) <|
 FrmOk.cons Tryz.func144 rfl (by decide) <|
 FrmOk.cons Tryz.func145 rfl (by decide) <|
 FrmOk.cons Tryz.func146 rfl (by decide) <|
 FrmOk.cons Tryz.func147 rfl (by decide) <|
 FrmOk.cons Tryz.func148 rfl (by decide) <|
 FrmOk.cons Tryz.func149 rfl (by decide) <|
 FrmOk.cons Tryz.func150 rfl (by decide) <|
 FrmOk.cons Tryz.func151 rfl (by decide) <|
 FrmOk.cons Tryz.func152 rfl (by decide) <|
 FrmOk.cons Tryz.func153 rfl (by decide) <|
 FrmOk.cons Tryz.func154 rfl (by decide) <|
 FrmOk.cons Tryz.func155 rfl (by decide) <|
 FrmOk.cons Tryz.func156 rfl (by decide) <|
 FrmOk.cons Tryz.func157 rfl (by decide) <|
 FrmOk.cons Tryz.func158 rfl (by decide) <|
 FrmOk.cons Tryz.func159 rfl (by decide) <|
 FrmOk.cons Tryz.func160 rfl (by decide) <|
 FrmOk.cons Tryz.func161 rfl (by decide) <|
 FrmOk.cons Tryz.func162 rfl (by decide) <|
 FrmOk.cons Tryz.func163 rfl (by decide) <|
 FrmOk.cons Tryz.func164 rfl (by decide) <|
 FrmOk.cons Tryz.func165 rfl (by decide) <|
 FrmOk.cons Tryz.func166 rfl (by decide) <|
 FrmOk.cons Tryz.func167 rfl (by decide) <|
 FrmOk.cons Tryz.func168 rfl (by decide) <|
 FrmOk.cons Tryz.func169 rfl (by decide) <|
 FrmOk.cons Tryz.func170 rfl (by decide) <|
 FrmOk.cons Tryz.func171 rfl (by decide) <|
 FrmOk.cons Tryz.func172 rfl (by decide) <|
 FrmOk.cons Tryz.func173 rfl (by decide) <|
 FrmOk.cons Tryz.func174 rfl (by decide) <|
 FrmOk.nil _
end Go.Proofs.YtjnifeedbgefpaaGreatDoor
namespace Go.Proofs
open Go.Shelf
def Tryz.lays156_ren:Go.Shelf.Ren:=⟨fun | 156=>70 | 165=>96 | 166=>97 | 169=>98 | 240=>120 | 241=>121 | 276=>141 | 277=>142 | n=>n,fun | 31=>82 | 9=>9 | 3=>3 | 4=>4 | 0=>0 | 20=>20 | 72=>104 | 76=>108 | 70=>101 | 37=>102 | 75=>107 | 127=>128 | 164=>141 | 5=>5 | 80=>110 | n=>n,fun | n=>n⟩
theorem Tryz.lays156:Go.Proofs.Lays.n156 Tryz.prog Tryz.lays156_ren:={
 mixed:=by kernel_rfl
 f156:=Tryz.func70.trans (congrArg some (by kernel_rfl))
 f165:=Tryz.func96.trans (congrArg some (by kernel_rfl))
 f166:=Tryz.func97.trans (congrArg some (by kernel_rfl))
 f169:=Tryz.func98.trans (congrArg some (by kernel_rfl))
 f240:=Tryz.func120.trans (congrArg some (by kernel_rfl))
 f241:=Tryz.func121.trans (congrArg some (by kernel_rfl))
 f276:=Tryz.func141.trans (congrArg some (by kernel_rfl))
 f277:=Tryz.func142.trans (congrArg some (by kernel_rfl))
 t0:=Tryz.underlying0
 a0:=Tryz.isAgg0
 z0:=Tryz.sizeOf0
 v0:=Tryz.zeroValue0
 t3:=Tryz.underlying3
 a3:=Tryz.isAgg3
 z3:=Tryz.sizeOf3
 v3:=Tryz.zeroValue3
 t4:=Tryz.underlying4
 a4:=Tryz.isAgg4
 z4:=Tryz.sizeOf4
 v4:=Tryz.zeroValue4
 t9:=Tryz.underlying9
 a9:=Tryz.isAgg9
 z9:=Tryz.sizeOf9
 v9:=Tryz.zeroValue9
 t20:=Tryz.underlying20
 a20:=Tryz.isAgg20
 z20:=Tryz.sizeOf20
 v20:=Tryz.zeroValue20
 t31:=Tryz.underlying82
 a31:=Tryz.isAgg82
 z31:=Tryz.sizeOf82
 v31:=Tryz.zeroValue82
 t37:=Tryz.underlying102
 a37:=Tryz.isAgg102
 z37:=Tryz.sizeOf102
 v37:=Tryz.zeroValue102
 t70:=Tryz.underlying101
 a70:=Tryz.isAgg101
 z70:=Tryz.sizeOf101
 v70:=Tryz.zeroValue101
 t72:=Tryz.underlying104
 a72:=Tryz.isAgg104
 z72:=Tryz.sizeOf104
 v72:=Tryz.zeroValue104
 t75:=Tryz.underlying107
 a75:=Tryz.isAgg107
 z75:=Tryz.sizeOf107
 v75:=Tryz.zeroValue107
 t76:=Tryz.underlying108
 a76:=Tryz.isAgg108
 z76:=Tryz.sizeOf108
 v76:=Tryz.zeroValue108
 t127:=Tryz.underlying128
 a127:=Tryz.isAgg128
 z127:=Tryz.sizeOf128
 v127:=Tryz.zeroValue128
 t164:=Tryz.underlying141
 a164:=Tryz.isAgg141
 z164:=Tryz.sizeOf141
 v164:=Tryz.zeroValue141 }
theorem Tryz.Builder_Extra_156:Builder.Extra Tryz.prog Tryz.lays156_ren:={
 sizeBuilder:=by kernel_rfl
 liesBuilder:=by kernel_rfl
 t5:=Tryz.underlying5
 a5:=Tryz.isAgg5
 z5:=Tryz.sizeOf5
 v5:=Tryz.zeroValue5
 infoByte:=by kernel_rfl
 cellsByte:=by kernel_rfl
 sizeByte:=by kernel_rfl
 neB5:=by decide }
open Go.RowKit in
theorem Tryz.strings_Join_none(a : Option Addr)(c : Nat)(sep : ByteArray)(w : World) :
  Calls Tryz.prog 70 #[.slice a 0 c,.string sep] w fun e w'=>e=.returned (.string ⟨#[]⟩)∧w'=w:=Any.strings_Join_none Tryz.lays156 Tryz.Builder_Extra_156 a c sep w
open Go.RowKit in
theorem Tryz.strings_Join(bk o c : Nat)(xs : List ByteArray)(sep : ByteArray)(w : World)(hcells : ∀(j : Nat) x, xs[j]? =some x → w.cell? ⟨bk, o+j, none⟩=some (.string x))(hbk : bk<w.heap.size)(hN : xs.length≤140737488355328)(hcap : xs.length≤c)(hlen : (Lib.join (xs.map (·.data.toList)) sep.data.toList).length≤140737488355328) :
  Calls Tryz.prog 70 #[.slice (some ⟨bk,o,none⟩) xs.length c,.string sep] w fun e w'=>e=.returned (.string ⟨(Lib.join (xs.map (·.data.toList)) sep.data.toList).toArray⟩)∧Below w.heap.size w w':=Any.strings_Join Tryz.lays156 Tryz.Builder_Extra_156 bk o c xs sep w hcells hbk hN hcap hlen
def Tryz.laysM171_ren:Go.Shelf.Ren:=⟨fun | 171=>136 | 243=>154 | 246=>160 | 283=>164 | 284=>165 | 285=>166 | 286=>167 | 129=>169 | 317=>168 | 318=>170 | 319=>171 | 320=>172 | 337=>173 | 338=>174 | n=>n,fun | 3=>3 | 9=>9 | 2=>2 | 4=>4 | 171=>156 | 0=>0 | 53=>147 | 37=>102 | 5=>5 | 173=>159 | 212=>162 | 51=>144 | 20=>20 | 213=>163 | 46=>131 | 232=>166 | 233=>167 | n=>n,fun | 17=>1 | 18=>2 | 19=>3 | n=>n⟩
theorem Tryz.laysM171:Go.Proofs.LaysM.n171 Tryz.prog Tryz.laysM171_ren:={
 mixed:=by kernel_rfl
 f129:=Tryz.func169.trans (congrArg some (by kernel_rfl))
 f171:=Tryz.func136.trans (congrArg some (by kernel_rfl))
 f243:=Tryz.func154.trans (congrArg some (by kernel_rfl))
 f246:=Tryz.func160.trans (congrArg some (by kernel_rfl))
 f283:=Tryz.func164.trans (congrArg some (by kernel_rfl))
 f284:=Tryz.func165.trans (congrArg some (by kernel_rfl))
 f285:=Tryz.func166.trans (congrArg some (by kernel_rfl))
 f286:=Tryz.func167.trans (congrArg some (by kernel_rfl))
 f317:=Tryz.func168.trans (congrArg some (by kernel_rfl))
 f318:=Tryz.func170.trans (congrArg some (by kernel_rfl))
 f319:=Tryz.func171.trans (congrArg some (by kernel_rfl))
 f320:=Tryz.func172.trans (congrArg some (by kernel_rfl))
 f337:=Tryz.func173.trans (congrArg some (by kernel_rfl))
 f338:=Tryz.func174.trans (congrArg some (by kernel_rfl))
 t0:=Tryz.underlying0
 a0:=Tryz.isAgg0
 z0:=Tryz.sizeOf0
 v0:=Tryz.zeroValue0
 t2:=Tryz.underlying2
 a2:=Tryz.isAgg2
 z2:=Tryz.sizeOf2
 v2:=Tryz.zeroValue2
 t3:=Tryz.underlying3
 a3:=Tryz.isAgg3
 z3:=Tryz.sizeOf3
 v3:=Tryz.zeroValue3
 t4:=Tryz.underlying4
 a4:=Tryz.isAgg4
 z4:=Tryz.sizeOf4
 v4:=Tryz.zeroValue4
 t5:=Tryz.underlying5
 a5:=Tryz.isAgg5
 z5:=Tryz.sizeOf5
 v5:=Tryz.zeroValue5
 t9:=Tryz.underlying9
 a9:=Tryz.isAgg9
 z9:=Tryz.sizeOf9
 v9:=Tryz.zeroValue9
 t20:=Tryz.underlying20
 a20:=Tryz.isAgg20
 z20:=Tryz.sizeOf20
 v20:=Tryz.zeroValue20
 t37:=Tryz.underlying102
 a37:=Tryz.isAgg102
 z37:=Tryz.sizeOf102
 v37:=Tryz.zeroValue102
 t46:=Tryz.underlying131
 a46:=Tryz.isAgg131
 z46:=Tryz.sizeOf131
 v46:=Tryz.zeroValue131
 t51:=Tryz.underlying144
 a51:=Tryz.isAgg144
 z51:=Tryz.sizeOf144
 v51:=Tryz.zeroValue144
 t53:=Tryz.underlying147
 a53:=Tryz.isAgg147
 z53:=Tryz.sizeOf147
 v53:=Tryz.zeroValue147
 t171:=Tryz.underlying156
 a171:=Tryz.isAgg156
 z171:=Tryz.sizeOf156
 v171:=Tryz.zeroValue156
 t173:=Tryz.underlying159
 a173:=Tryz.isAgg159
 z173:=Tryz.sizeOf159
 v173:=Tryz.zeroValue159
 t212:=Tryz.underlying162
 a212:=Tryz.isAgg162
 z212:=Tryz.sizeOf162
 v212:=Tryz.zeroValue162
 t213:=Tryz.underlying163
 a213:=Tryz.isAgg163
 z213:=Tryz.sizeOf163
 t232:=Tryz.underlying166
 a232:=Tryz.isAgg166
 z232:=Tryz.sizeOf166
 v232:=Tryz.zeroValue166
 t233:=Tryz.underlying167
 a233:=Tryz.isAgg167
 z233:=Tryz.sizeOf167
 v233:=Tryz.zeroValue167
 g17:=by kernel_rfl
 g18:=by kernel_rfl
 g19:=by kernel_rfl
 i0:=by kernel_rfl
 i2:=by kernel_rfl
 i3:=by kernel_rfl
 i4:=by kernel_rfl
 i5:=by kernel_rfl
 i9:=by kernel_rfl
 i20:=by kernel_rfl
 i37:=by kernel_rfl
 i46:=by kernel_rfl
 i51:=by kernel_rfl
 i53:=by kernel_rfl
 i171:=by kernel_rfl
 i173:=by kernel_rfl
 i212:=by kernel_rfl
 i232:=by kernel_rfl
 i233:=by kernel_rfl
 m17:=by kernel_rfl
 m18:=by kernel_rfl
 m19:=by kernel_rfl }
open Go.RowKit Go.Sort Go.Lib in
theorem Tryz.strconv_Itoa(n : Int)(h0 : -9223372036854775808 ≤ n)(h1 : n ≤ 9223372036854775807)(w : World)(htab : Lib.TabIs Tryz.prog w "internal/strconv.uint64pow10" .u64 Lib.pow10Tab) :
  Calls Tryz.prog 136 #[.int .i64 n] w fun e w'=>e=.returned (.string ⟨(Lib.itoa n).toArray⟩)∧∃k os,w'=grow (w.drewN k) os:=Any.strconv_Itoa Tryz.laysM171 n h0 h1 w htab
def Tryz.lays212_ren:Go.Shelf.Ren:=⟨fun | 212=>125 | 263=>149 | 264=>150 | n=>n,fun | 46=>131 | 51=>144 | 146=>145 | 53=>147 | 148=>148 | n=>n,fun | n=>n⟩
theorem Tryz.lays212:Go.Proofs.Lays.n212 Tryz.prog Tryz.lays212_ren:={
 mixed:=by kernel_rfl
 f212:=Tryz.func125.trans (congrArg some (by kernel_rfl))
 f263:=Tryz.func149.trans (congrArg some (by kernel_rfl))
 f264:=Tryz.func150.trans (congrArg some (by kernel_rfl))
 t46:=Tryz.underlying131
 a46:=Tryz.isAgg131
 z46:=Tryz.sizeOf131
 v46:=Tryz.zeroValue131
 t51:=Tryz.underlying144
 a51:=Tryz.isAgg144
 z51:=Tryz.sizeOf144
 v51:=Tryz.zeroValue144
 t53:=Tryz.underlying147
 a53:=Tryz.isAgg147
 z53:=Tryz.sizeOf147
 v53:=Tryz.zeroValue147
 t146:=Tryz.underlying145
 a146:=Tryz.isAgg145
 z146:=Tryz.sizeOf145
 v146:=Tryz.zeroValue145
 t148:=Tryz.underlying148
 a148:=Tryz.isAgg148
 z148:=Tryz.sizeOf148
 v148:=Tryz.zeroValue148 }
open Go.RowKit Go.Lib in
theorem Tryz.bits_Mul(x y : Nat)(hx : x<18446744073709551616)(hy : y<18446744073709551616)(w : World) :
  Calls Tryz.prog 125 #[.int .u64 x,.int .u64 y] w fun e w'=>e=.returned (.tuple #[.int .u64 ((x*y / 18446744073709551616:Nat):Int),.int .u64 ((x*y % 18446744073709551616:Nat):Int)])∧w'=w:=Any.bits_Mul Tryz.lays212 x y hx hy w
end Go.Proofs
namespace Go.Proofs.YtjnifeedbgefpaaGreatDoor
open Go Go.Ab
theorem mix:Tryz.prog.follows .mixedOrders=true:=by kernel_rfl
def SM{α:Type}(x:α):Prop:=x=x
def Z0:Int:=0
def Z1:Int:=1
def N0:Nat:=0
def N1:Nat:=1
def N2:Nat:=2
def N4:Nat:=4
def N6:Nat:=6
def U0:UInt8:=0
def LN{α:Type}(l:List α):Nat:=List.length l
def LI{α:Type}(l:List α):Int:=(↑(List.length l):Int)
def BI(l:List UInt8)(i:Nat):Int:=(↑(UInt8.toNat (List.getD l i (0:UInt8))):Int)
def NI(x:Nat):Int:=(↑x:Int)
def TN(x:Nat):Nat:=Int.toNat (↑x:Int)
def TL{α:Type}(l:List α):Nat:=Int.toNat (↑(List.length l):Int)
def GI(l:List Int)(i:Nat):Int:=List.getD l i (0:Int)
def ZI(a:Int):D:=D.int IntKind.i64 a
def ZB(a:Int):D:=D.int IntKind.u8 a
def SI(l:List Int):D:=D.sl (1:Nat) (List.length l) (fun (i:Nat)=>[D.int IntKind.i64 (List.getD l i (0:Int))]) Mode.any
abbrev Con:=Nat→List D→St→Option FnSpec
noncomputable def E0(con:Con)(n V:Nat)(cross:List Nat)(ord:Nat→List Nat×List Nat):Senv where
 P:=Tryz.prog
 tt:=tabGet tab
 n:=n
 dfs:=[]
 V:=V
 cross:=cross
 gh:=fun _=>[]
 gr:=[]
 unr:=fun _=>0
 cut:=fun _ _ _=>none
 ann:=fun _ _ _=>none
 ord:=ord
 con:=con
 eqs:=eqs
noncomputable def EC(con:Con)(n V:Nat)(cross:List Nat)(ord:Nat→List Nat×List Nat):Senv :=
 { E0 con n V cross ord with auto:=true,inl:=inlD { E0 con 0 0 [] (fun _=>([],[])) with auto:=true } (frmGet frames) 9 }
abbrev con0:Con:=fun _ _ _=>none
theorem con0_ok:ConOk Tryz.prog con0:=fun _ _ _ _ h=>nomatch h
theorem eOk{con:Con}(hc:ConOk Tryz.prog con){E:Senv}(h:E={ EC con E.n E.V E.cross E.ord with gh:=E.gh,gr:=E.gr,unr:=E.unr,cut:=E.cut,ann:=E.ann,cut2:=E.cut2,ann2:=E.ann2,own:=E.own,gz:=E.gz,mg:=E.mg,pvt:=E.pvt,bcut:=E.bcut,bd:=E.bd }):EnvOk E:=by
 rw[h]
 exact⟨tab_ok,hc,mix,fun k ds S R h=>inlD_ok (E:={ E0 con 0 0 [] (fun _=>([],[])) with auto:=true }) tab_ok hc mix frames_ok eqs_ok 9 k ds S R h,eqs_ok⟩
def pC(ds:List D)(d:D)(p:Prop):FnSpec where
 β:=Unit
 α:=Unit
 args:=fun _=>ds
 st:=fun _=>⟨[],[]⟩
 pre:=fun _=>p
 post:=fun _ _=>True
 res:=fun _ _=>.ret d
 out:=fun _ _=>⟨[],[]⟩
 fit:=some ()
theorem leS_nil(S:St):leS ⟨[],[]⟩ S:=by simp[leS,chk_iff,Go.Ab.nodupB,leO,leT]
theorem pC_ok{k : Nat}{ds : List D}{S : St}{us : List D}{d : D}{p : Prop}(h : p → weakL ds us ∧ ACalls Tryz.prog k us ⟨[], []⟩ (SpecR (sC us d) ())) :
  (∀x,(pC us d p).pre x→ACalls Tryz.prog k ((pC us d p).args x) ((pC us d p).st x) (SpecR (pC us d p) x))∧(∀x,(pC us d p).fit=some x→(pC us d p).pre x→weakL ds ((pC us d p).args x)∧leS ((pC us d p).st x) S)∧((pC us d p).all=true→∀x,(pC us d p).pre x→weakL ds ((pC us d p).args x)∧(pC us d p).st x=S) :=
 ⟨fun _ hp=>(h hp).2.mono fun _ _ ⟨_,_h1,h2,h3⟩=>⟨(),trivial,h2,h3⟩,fun _ _ hp=>⟨(h hp).1,leS_nil S⟩,fun e=>nomatch e⟩
theorem drop_step{α:Type}[Inhabited α]{l:List α}{i:Nat}(h:i<l.length):l.drop i=l.getD i default::l.drop (i+1):=by
 rw[List.drop_eq_getElem_cons h]
 simp[List.getD_eq_getElem?_getD,h]
theorem take_step{α:Type}[Inhabited α]{l:List α}{i:Nat}(h:i<l.length):l.take (i+1)=l.take i++[l.getD i default]:=by
 rw[List.take_add_one]
 simp[List.getD_eq_getElem?_getD,h]
def RT(p:Prop):Prop:=True∧∃(y:Unit),True∧p∧True∧True
def bsl(l:List UInt8)(m:Ab.Mode):D:=.sl 1 l.length (fun i=>[.int .u8 ((l.getD i 0).toNat:Int)]) m
def isl(l:List Int)(m:Ab.Mode):D:=.sl 1 l.length (fun i=>[.int .i64 (l.getD i 0)]) m
inductive Arr where
 |mk (kind:Int) (shape nums:List Int) (items:List Arr)
def inI64(z:Int):Prop:=-9223372036854775808≤z∧z≤9223372036854775807
mutual
def Arr.row:Arr→List D
 |.mk k s n is=>[.int .i64 k,isl s .any,isl n .any,.sl 4 (rowsL is).length (fun i=>(rowsL is).getD i []) .any]
def rowsL:List Arr→List (List D)
 | []=>[]
 |a::r=>a.row::rowsL r
end
mutual
def Arr.ok:Arr→Prop
 |.mk k s n is=>inI64 k∧(∀z∈s,inI64 z)∧(∀z∈n,inI64 z)∧s.length≤maxLen∧n.length≤maxLen∧is.length≤maxLen∧okL is
def okL:List Arr→Prop
 | []=>True
 |a::r=>a.ok∧okL r
end
mutual
/-- Nothing in it is longer than a machine's memory. -/
def Arr.sm:Arr→Prop
 |.mk _ s n is=>s.length≤maxB∧n.length≤maxB∧is.length≤maxB∧smL is
def smL:List Arr→Prop
 | []=>True
 |a::r=>a.sm∧smL r
end
theorem maxB_le{n:Nat}(h:n≤maxB):n≤maxLen:=Nat.le_trans h (by decide)
theorem rowsL_map:∀(l:List Arr),rowsL l=l.map Arr.row
 | []=>rfl
 |a::l=>by simp only[rowsL,List.map_cons,rowsL_map l]
theorem okL_iff:∀(l:List Arr),okL l↔∀a∈l,a.ok
 | []=>by simp[okL]
 |a::l=>by simp only[okL,List.forall_mem_cons,okL_iff l]
def gsl{α:Type}[Inhabited α](w:Nat)(g:α→List D)(l:List α):D:=.sl w l.length (fun i=>g (l.getD i default)) .any
instance:Inhabited Arr:=⟨.mk 0 [] [] []⟩
def DA:Arr:=Arr.mk (0:Int) [] [] []
def GA(l:List Arr)(i:Nat):Arr:=List.getD l i (Arr.mk (0:Int) [] [] [])
def intD:List D→Int
 | [.int _ z]=>z
 |_=>0
def intsD(n:Nat)(f:Nat→List D):List Int:=(List.range n).map fun i=>intD (f i)
theorem intsD_isl(l:List Int):intsD l.length (fun i=>[D.int .i64 (l.getD i 0)])=l:=by
 apply List.ext_getElem
 ·simp[intsD]
 ·intro i h1 h2
  simp[intsD,intD,List.getD_eq_getElem?_getD,h2]
def IntsP(n:Nat)(f:Nat→List D):Prop:=∀i,i<n→f i=[.int .i64 (intD (f i))]
theorem isl_weak{n:Nat}{f:Nat→List D}{m:Ab.Mode}(h:IntsP n f):weakL [.sl 1 n f m] [isl (intsD n f) .any]:=by
 simp only[isl,weakL,weakD,chk_iff]
 refine⟨⟨by simp,by simp[intsD],fun i hi=>?_,by simp[weakM]⟩,trivial⟩
 have e:(intsD n f).getD i 0=intD (f i):=by simp[intsD,List.getD_eq_getElem?_getD,hi]
 rw[e]
 exact h i hi
def goO:List Int→Int→Option Int
 | [],p=>some p
 |d::r,p=>if d<0∨65536<d then none else if d=0 then goO r p else if 65536<p*d then none else goO r (p*d)
def rightS(s:List Int):Bool:=decide (s.length≤8)&&(goO s 1).isSome
def sizeS(s:List Int):Int:=if s.contains 0 then 0 else (goO s 1).getD 0
structure GoHead (l:List Int) (i:Nat) (p:Int):Prop where
 hi:i≤l.length
 h1:1≤p
 h2:p≤65536
 hg:goO (l.drop i) p=goO l 1
theorem GoHead.init(l:List Int):GoHead l 0 1:=⟨Nat.zero_le _,by omega,by omega,by simp⟩
theorem drop_stepI{l:List Int}{i:Nat}(h:i<l.length):l.drop i=l.getD i 0::l.drop (i+1):=drop_step h
theorem GoHead.step{l : List Int}{i : Nat}{p : Int}(h : GoHead l i p)(hlt : i<l.length) :
  (l.getD i 0<0→goO l 1=none)∧(65536<l.getD i 0→goO l 1=none)∧(l.getD i 0=0→GoHead l (i+1) p) ∧
  (¬l.getD i 0<0→¬65536<l.getD i 0→0≤p*l.getD i 0∧p*l.getD i 0≤4294967296∧(65536<p*l.getD i 0→l.getD i 0≠0→goO l 1=none)∧(¬65536<p*l.getD i 0→l.getD i 0≠0→GoHead l (i+1) (p*l.getD i 0))):=by
 have hg:=h.hg
 rw[drop_stepI hlt,goO] at hg
 generalize l.getD i 0=d at *
 refine⟨fun h0=>?_,fun h0=>?_,fun h0=>?_,fun h0 h3=>?_⟩
 ·rw[if_pos (.inl h0)] at hg;exact hg.symm
 ·rw[if_pos (.inr h0)] at hg;exact hg.symm
 ·subst h0
  simp at hg
  exact⟨by omega,h.h1,h.h2,hg⟩
 ·have b1:0≤p*d:=Int.mul_nonneg (by have:=h.h1;omega) (by omega)
  have b2:p*d≤65536*65536:=Int.mul_le_mul h.h2 (by omega) (by omega) (by omega)
  refine⟨b1,by omega,fun h4 h5=>?_,fun h4 h5=>?_⟩
  ·rw[if_neg (by omega),if_neg h5,if_pos h4] at hg;exact hg.symm
  ·rw[if_neg (by omega),if_neg h5,if_neg h4] at hg
   refine⟨by omega,?_,by omega,hg⟩
   have:0<p*d:=Int.mul_pos (by have:=h.h1;omega) (by omega)
   omega
theorem GoHead.done{l:List Int}{i:Nat}{p:Int}(h:GoHead l i p)(hge:¬(i:Int)<l.length):goO l 1=some p:=by
 have hg:=h.hg
 have:i=l.length:=by have:=h.hi;omega
 rw[this,List.drop_length,goO] at hg
 exact hg.symm
noncomputable def Eright(l:List Int):Senv:={ EC con0 31 1 [2,3,5,8,9,10,11,12,15,22,29] (fun _=>([],[])) with
 ann:=fun b _ _=>match b with
  |0=>some { slots:=[11,3],keep:=[9,10],α:=Nat×Int,st:=fun y=>([.int .i64 y.1,.int .i64 y.2],⟨[],[]⟩),inv:=fun y=>GoHead l y.1 y.2,mu:=fun y=>l.length-y.1 }
  |_=>none }
noncomputable section
def Qon(a:List Int):Prop:=True∧∃(_y:Unit),True∧false=rightS a∧True∧True
def Qkr(a:List Int)(b:Nat)(c:Int):Prop:=GoHead a b c
def QgP(a:List Int)(b:Nat):Int:=GI a (Int.toNat (↑b:Int))
def Qoo(a:List Int)(b:Nat):Bool:=bif decide (QgP a b<Z0) then true else decide ((65536:Int)<QgP a b)
def QIA(a:List Int):D:=SI a
def QsA(a:List Int):Prop:=SM (QIA a)∧SM (ZI (LI a))∧True
end
theorem right_ok(l:List Int):ACalls Tryz.prog 134 [isl l .any] ⟨[],[]⟩ (SpecR (sC [isl l .any] (.bool (rightS l))) ()):=by
 refine con_of (A:=sC _ _) (x:=()) (E:=Eright l) (eOk con0_ok rfl) Tryz.func134 rfl (by kernel_rfl) rfl (by simp[sC,Eright,EC,E0]) ?_
 refine vc_eq (T :=
  ifB (decide ((8:Int)<(LI l))) (Qon l) ((∃(x:Nat×Int),Qkr l x.1 x.2∧(Z0=(NI x.1)∧Z1=x.2∧True)∧True∧True)∧∀(x:Nat×Int),Qkr l x.1 x.2→ifB (decide ((NI x.1)<(LI l))) (side (Z0≤(NI x.1)∧(NI x.1)<(LI l)) (ifB (decide (QgP l x.1<Z0)) (true=Qoo l x.1∧True) (decide ((65536:Int)<QgP l x.1)=Qoo l x.1∧True)∧ifB (Qoo l x.1) (Qon l) (ifB (QgP l x.1==Z0) (QsA l∧∃(y:Nat×Int),Qkr l y.1 y.2∧LN l-y.1<LN l-x.1∧(IntKind.wrap IntKind.i64 ((NI x.1)+Z1)=(NI y.1)∧x.2=y.2∧True)∧True∧True) (ifB (decide ((65536:Int)<IntKind.wrap IntKind.i64 (x.2*QgP l x.1))) (Qon l) (QsA l∧∃(y:Nat×Int),Qkr l y.1 y.2∧LN l-y.1<LN l-x.1∧(IntKind.wrap IntKind.i64 ((NI x.1)+Z1)=(NI y.1)∧IntKind.wrap IntKind.i64 (x.2*QgP l x.1)=y.2∧True)∧True∧True))))) (RT (true=rightS l)))) (by kernel_rfl) ?_
 delta GI LI LN N1 NI SI SM Z0 Z1 ZI Qon Qkr QgP Qoo QIA QsA RT
 simp only[Int.toNat_natCast,ifB_iff,side_iff,decide_eq_true_eq,decide_eq_false_iff_not,true_and,and_true,beq_iff_eq,Bool.cond_true_left,beq_eq_false_iff_ne,ne_eq,exists_const]
 have no:goO l 1=none→false=rightS l:=fun h=>by simp[rightS,h]
 refine⟨fun h=>?_,fun h8=>⟨⟨(0,1),GoHead.init l,rfl,rfl⟩,?_⟩⟩
 ·have:¬l.length≤8:=by omega
  simp[rightS,this]
 rintro ⟨i,p⟩ hh
 simp only at hh ⊢
 refine⟨fun hlt=>?_,fun hge=>?_⟩
 rotate_left
 ·have:l.length≤8:=by omega
  simp[rightS,hh.done hge,this]
 have hlt':i<l.length:=by omega
 obtain ⟨s1,s2,s3,s4⟩:=hh.step hlt'
 refine⟨by omega,⟨fun h=>by rw[decide_eq_true h];rfl,fun h=>by rw[decide_eq_false h];rfl⟩,fun h=>no ?_,fun h=>?_⟩
 ·rw[Bool.or_eq_true,decide_eq_true_eq,decide_eq_true_eq] at h
  exact h.elim s1 s2
 ·rw[Bool.or_eq_false_iff,decide_eq_false_iff_not,decide_eq_false_iff_not] at h
  obtain ⟨b1,b2,s5,s6⟩:=s4 h.1 h.2
  have hw:IntKind.i64.wrap (p*l.getD i 0)=p*l.getD i 0:=wrap_i64' (by omega) (by omega)
  rw[hw]
  exact⟨fun hd=>⟨(i+1,p),s3 hd,by simp only;omega,wrap_i64' (by omega) (by omega),rfl⟩,fun hd=>⟨fun h4=>no (s5 h4 hd),fun h4=>⟨(i+1,p*l.getD i 0),s6 h4 hd,by simp only;omega,wrap_i64' (by omega) (by omega),rfl⟩⟩⟩
noncomputable def Erprod(l:List Int):Senv:={ EC con0 30 1 [2,3,4,8,15,20,28] (fun _=>([],[])) with
 ann:=fun b _ _=>match b with
  |0=>some { slots:=[4,3],keep:=[0],α:=Nat×Int,st:=fun y=>([.int .i64 y.1,.int .i64 y.2],⟨[],[]⟩),inv:=fun y=>GoHead l y.1 y.2,mu:=fun y=>l.length-y.1 }
  |_=>none }
noncomputable section
def Qks(a:List Int)(b:Nat)(c:Int):Prop:=GoHead a b c
def Qop(a:List Int):Prop:=True∧∃(_y:Unit),True∧(65537:Int)=Option.getD (goO a Z1) (65537:Int)∧True∧True
def QIB(a:List Int):D:=SI a
def QsB(a:List Int):Prop:=SM (QIB a)∧True
end
theorem rprod_ok(l:List Int)(h0:∀z∈l,0≤z)(hl:l.length≤maxLen):ACalls Tryz.prog 151 [isl l .any] ⟨[],[]⟩ (SpecR (sC [isl l .any] (.int .i64 ((goO l 1).getD 65537))) ()):=by
 refine con_of (A:=sC _ _) (x:=()) (E:=Erprod l) (eOk con0_ok rfl) Tryz.func151 rfl (by kernel_rfl) rfl (by simp[sC,Erprod,EC,E0]) ?_
 refine vc_eq (T :=
  (∃(x:Nat×Int),Qks l x.1 x.2∧(Z0=(NI x.1)∧Z1=x.2∧True)∧True∧True)∧∀(x:Nat×Int),Qks l x.1 x.2→ifB (decide ((NI x.1)<(LI l))) (side (Z0≤(NI x.1)∧(NI x.1)<(LI l)) (ifB (decide ((65536:Int)<GI l (TN x.1))) (Qop l) (side (Z0≤(NI x.1)∧(NI x.1)<(LI l)) (ifB (decide (Z0<GI l (TN x.1))) (side (Z0≤(NI x.1)∧(NI x.1)<(LI l)) (ifB (decide ((65536:Int)<IntKind.wrap IntKind.i64 (x.2*GI l (TN x.1)))) (Qop l) (QsB l∧∃(y:Nat×Int),Qks l y.1 y.2∧LN l-y.1<LN l-x.1∧(IntKind.wrap IntKind.i64 ((NI x.1)+Z1)=(NI y.1)∧IntKind.wrap IntKind.i64 (x.2*GI l (TN x.1))=y.2∧True)∧True∧True))) (ifB (decide ((65536:Int)<x.2)) (Qop l) (QsB l∧∃(y:Nat×Int),Qks l y.1 y.2∧LN l-y.1<LN l-x.1∧(IntKind.wrap IntKind.i64 ((NI x.1)+Z1)=(NI y.1)∧x.2=y.2∧True)∧True∧True)))))) (RT (x.2=Option.getD (goO l Z1) (65537:Int)))) (by kernel_rfl) ?_
 delta GI LI LN N1 NI SI SM TN Z0 Z1 ZI Qks Qop QIB QsB RT
 simp only[Int.toNat_natCast,ifB_iff,side_iff,decide_eq_true_eq,decide_eq_false_iff_not,true_and,and_true,exists_const]
 have no:goO l 1=none→(65537:Int)=(goO l 1).getD 65537:=fun h=>by simp[h]
 refine⟨⟨(0,1),GoHead.init l,rfl,rfl⟩,?_⟩
 rintro ⟨i,p⟩ hh
 simp only at hh ⊢
 refine⟨fun hlt=>?_,fun hge=>by simp[hh.done hge]⟩
 have hlt':i<l.length:=by omega
 obtain ⟨s1,s2,s3,s4⟩:=hh.step hlt'
 have hd0:0≤l.getD i 0:=h0 _ (by rw[List.getD_eq_getElem?_getD,List.getElem?_eq_getElem hlt'];exact List.getElem_mem hlt')
 simp only[maxLen] at hl
 refine⟨by omega,fun h=>no (s2 h),fun h=>⟨by omega,?_⟩⟩
 obtain ⟨b1,b2,s5,s6⟩:=s4 (by omega) h
 have hw:IntKind.i64.wrap (p*l.getD i 0)=p*l.getD i 0:=wrap_i64' (by omega) (by omega)
 rw[hw]
 refine⟨fun hd=>⟨by omega,fun h4=>no (s5 h4 (by omega)),fun h4=>⟨(i+1,p*l.getD i 0),s6 h4 (by omega),by simp only;omega,wrap_i64' (by omega) (by omega),rfl⟩⟩,fun hd=>⟨fun h4=>absurd h4 (by have:=hh.h2;omega),fun _=>⟨(i+1,p),s3 (by omega),by simp only;omega,wrap_i64' (by omega) (by omega),rfl⟩⟩⟩
def conR:Con:=con0
theorem conR_ok:ConOk Tryz.prog conR:=con0_ok
def idxB(p:Int→Bool):List Int→Nat→Int
 | [],_=>-1
 |d::r,i=>if p d then (i:Int) else idxB p r (i+1)
theorem idxB_any(p:Int→Bool):∀(l:List Int) (i:Nat),decide (0≤idxB p l i)=l.any p
 | [],i=>rfl
 |d::r,i=>by
  rw[idxB,List.any_cons]
  split
  ·rename_i h;rw[h];simp
  ·rename_i h
   rw[idxB_any p r (i+1)]
   simp[h]
structure IdxHead (p:Int→Bool) (l:List Int) (i:Nat):Prop where
 hi:i≤l.length
 hg:idxB p (l.drop i) i=idxB p l 0
theorem IdxHead.step{p:Int→Bool}{l:List Int}{i:Nat}(h:IdxHead p l i)(hlt:i<l.length):(p (l.getD i 0)=true→idxB p l 0=i)∧(p (l.getD i 0)=false→IdxHead p l (i+1)):=by
 have hg:=h.hg
 rw[drop_stepI hlt,idxB] at hg
 refine⟨fun e=>?_,fun e=>?_⟩
 ·rw[if_pos e] at hg;exact hg.symm
 ·rw[if_neg (by rw[e];exact Bool.false_ne_true)] at hg;exact⟨by omega,hg⟩
theorem IdxHead.done{p:Int→Bool}{l:List Int}{i:Nat}(h:IdxHead p l i)(hge:¬(i:Int)<l.length):idxB p l 0 = -1:=by
 have hg:=h.hg
 have:i=l.length:=by have:=h.hi;omega
 rw[this,List.drop_length,idxB] at hg
 exact hg.symm
def annI(p:Int→Bool)(l:List Int)(keep:List Nat):LoopAnn:={ slots:=[8],keep:=keep,α:=Nat,st:=fun i=>([.int .i64 i],⟨[],[]⟩),inv:=fun i=>IdxHead p l i,mu:=fun i=>l.length-i }
noncomputable def Eidx(l:List Int)(v:Int):Senv:={ EC con0 19 2 [4,5,7,8,9,16] (fun _=>([],[])) with
 ann:=fun b _ _=>match b with
  |0=>some (annI (fun d=>v==d) l [0,1,6,7])
  |_=>none }
noncomputable section
def Qoq(a:Int)(b:List Int)(c:Nat):Prop:=IdxHead (fun (d:Int)=>a==d) b c
def QIC(a:List Int):D:=SI a
end
theorem idx_ok(l:List Int)(v:Int)(hl:l.length≤maxLen):ACalls Tryz.prog 163 [isl l .any,.int .i64 v] ⟨[],[]⟩ (SpecR (sC [isl l .any,.int .i64 v] (.int .i64 (idxB (fun d=>v==d) l 0))) ()):=by
 refine con_of (A:=sC _ _) (x:=()) (E:=Eidx l v) (eOk con0_ok rfl) Tryz.func163 rfl (by kernel_rfl) rfl (by simp[sC,Eidx,EC,E0]) ?_
 refine vc_eq (T :=
  (∃(x:Nat),Qoq v l x∧(Z0=(↑x:Int)∧True)∧True∧True)∧∀(x:Nat),Qoq v l x→ifB (decide ((↑x:Int)<(LI l))) (side (Z0≤(↑x:Int)∧(↑x:Int)<(LI l)) (ifB (v==GI l (Int.toNat (↑x:Int))) (RT ((↑x:Int)=idxB (fun (d:Int)=>v==d) l N0)) ((SM (QIC l)∧SM (ZI v)∧SM D.unk∧SM (ZI (LI l))∧True)∧∃(y:Nat),Qoq v l y∧LN l-y<LN l-x∧(IntKind.wrap IntKind.i64 ((↑x:Int)+Z1)=(↑y:Int)∧True)∧True∧True))) (RT ((-1:Int)=idxB (fun (d:Int)=>v==d) l N0))) (by kernel_rfl) ?_
 delta GI LI LN N0 N1 SI SM Z0 Z1 ZI Qoq QIC RT
 simp only[Int.toNat_natCast,ifB_iff,side_iff,decide_eq_true_eq,decide_eq_false_iff_not,true_and,and_true,exists_const]
 simp only[maxLen] at hl
 refine⟨⟨0,⟨Nat.zero_le _,by simp⟩,rfl⟩,fun i hh=>⟨fun hlt=>?_,fun hge=>(hh.done hge).symm⟩⟩
 have hlt':i<l.length:=by omega
 obtain ⟨s1,s2⟩:=hh.step hlt'
 exact⟨by omega,fun h=>(s1 h).symm,fun h=>⟨i+1,s2 h,by omega,wrap_i64' (by omega) (by omega)⟩⟩
noncomputable def Eneg(l:List Int):Senv:={ EC con0 19 2 [4,5,7,8,9,16] (fun _=>([],[])) with
 ann:=fun b _ _=>match b with
  |0=>some (annI (fun d=>decide (d<0)) l [0,1,6,7])
  |_=>none }
noncomputable section
def Qor(a:List Int)(b:Nat):Prop:=IdxHead (fun (d:Int)=>decide (d<Z0)) a b
def QsC(a:List Int):Int:=idxB (fun (d:Int)=>decide (d<Z0)) a N0
def QID(a:List Int):D:=SI a
end
theorem neg_ok(l:List Int)(hl:l.length≤maxLen):ACalls Tryz.prog 152 [isl l .any,.fn (.func 133) [] []] ⟨[],[]⟩ (SpecR (sC [isl l .any,.fn (.func 133) [] []] (.int .i64 (idxB (fun d=>decide (d<0)) l 0))) ()):=by
 refine con_of (A:=sC _ _) (x:=()) (E:=Eneg l) (eOk con0_ok rfl) Tryz.func152 rfl (by kernel_rfl) rfl (by simp[sC,Eneg,EC,E0]) ?_
 refine vc_eq (T :=
  (∃(x:Nat),Qor l x∧(Z0=(↑x:Int)∧True)∧True∧True)∧∀(x:Nat),Qor l x→ifB (decide ((↑x:Int)<(LI l))) (side (Z0≤(↑x:Int)∧(↑x:Int)<(LI l)) (True∧ifB (decide (GI l (Int.toNat (↑x:Int))<Z0)) (RT ((↑x:Int)=QsC l)) ((SM (QID l)∧SM (D.fn (Fn.func (133:Nat)) [] [])∧SM D.unk∧SM (ZI (LI l))∧True)∧∃(y:Nat),Qor l y∧LN l-y<LN l-x∧(IntKind.wrap IntKind.i64 ((↑x:Int)+Z1)=(↑y:Int)∧True)∧True∧True))) (RT ((-1:Int)=QsC l))) (by kernel_rfl) ?_
 delta GI LI LN N0 N1 SI SM Z0 Z1 ZI Qor QsC QID RT
 simp only[Int.toNat_natCast,ifB_iff,side_iff,decide_eq_true_eq,decide_eq_false_iff_not,true_and,and_true,exists_const]
 simp only[maxLen] at hl
 refine⟨⟨0,⟨Nat.zero_le _,by simp⟩,rfl⟩,fun i hh=>⟨fun hlt=>?_,fun hge=>(hh.done hge).symm⟩⟩
 have hlt':i<l.length:=by omega
 obtain ⟨s1,s2⟩:=hh.step hlt'
 exact⟨by omega,fun h=>(s1 (decide_eq_true h)).symm,fun h=>⟨i+1,s2 (decide_eq_false h),by omega,wrap_i64' (by omega) (by omega)⟩⟩
theorem intsP_isl(l:List Int):IntsP l.length (fun i=>[D.int .i64 (l.getD i 0)]):=fun _ _=>rfl
def conSh:Con:=fun k ds S=>match k with
 |163=>match ds with
  | [.sl 1 n f _,.int .i64 v]=>some (pC ds (.int .i64 (idxB (fun d=>v==d) (intsD n f) 0)) (IntsP n f∧n≤maxLen))
  |_=>none
 |152=>match ds with
  | [.sl 1 n f _,.fn (.func 133) [] []]=>some (pC ds (.int .i64 (idxB (fun d=>decide (d<0)) (intsD n f) 0)) (IntsP n f∧n≤maxLen))
  |_=>none
 |134=>match ds with
  | [.sl 1 n f _]=>some (pC ds (.bool (rightS (intsD n f))) (IntsP n f))
  |_=>none
 |151=>match ds with
  | [.sl 1 n f _]=>some (pC ds (.int .i64 ((goO (intsD n f) 1).getD 65537)) (IntsP n f∧(∀z∈intsD n f,0≤z)∧n≤maxLen))
  |_=>none
 |k=>conR k ds S
theorem intsD_len(n:Nat)(f:Nat→List D):(intsD n f).length=n:=by simp[intsD]
theorem sC_weak{k:Nat}{ds us:List D}{d:D}(hw:weakL ds us)(h:ACalls Tryz.prog k us ⟨[],[]⟩ (SpecR (sC us d) ())):ACalls Tryz.prog k ds ⟨[],[]⟩ (SpecR (sC ds d) ()) :=
 (ACalls.weakArgs h hw).mono fun _ _ ⟨_,_h1,h2,h3⟩=>⟨(),trivial,h2,h3⟩
theorem conSh_ok:ConOk Tryz.prog conSh:=by
 intro k ds S A h
 unfold conSh at h
 split at h
 ·split at h
  ·injection h with h;subst h
   exact pC_ok fun ⟨h1,h2⟩=>⟨weakL_refl _,sC_weak (us:=[isl (intsD _ _) .any,_]) ⟨(isl_weak h1).1,weakD_refl _,trivial⟩ (idx_ok _ _ (by rw[intsD_len];exact h2))⟩
  ·cases h
 ·split at h
  ·injection h with h;subst h
   exact pC_ok fun ⟨h1,h2⟩=>⟨weakL_refl _,sC_weak (us:=[isl (intsD _ _) .any,_]) ⟨(isl_weak h1).1,weakD_refl _,trivial⟩ (neg_ok _ (by rw[intsD_len];exact h2))⟩
  ·cases h
 ·split at h
  ·injection h with h;subst h
   exact pC_ok fun h1=>⟨weakL_refl _,sC_weak (isl_weak h1) (right_ok _)⟩
  ·cases h
 ·split at h
  ·injection h with h;subst h
   exact pC_ok fun ⟨h1,h2,h3⟩=>⟨weakL_refl _,sC_weak (isl_weak h1) (rprod_ok _ h2 (by rw[intsD_len];exact h3))⟩
  ·cases h
 ·exact conR_ok _ _ _ _ h
noncomputable def Eprod(l:List Int):Senv:={ EC conSh 19 1 [2,3,5,7,8,9,10,11] (fun _=>([],[])) with
 ann:=fun b _ _=>match b with
  |0=>some { slots:=[10,3],keep:=[8,9],α:=Nat×Int,st:=fun y=>([.int .i64 y.1,.int .i64 y.2],⟨[],[]⟩),inv:=fun y=>GoHead l y.1 y.2,mu:=fun y=>l.length-y.1 }
  |_=>none }
noncomputable section
def QIE(a:List Int):D:=SI a
end
theorem prod_ok(l:List Int)(h:rightS l=true):ACalls Tryz.prog 153 [isl l .any] ⟨[],[]⟩ (SpecR (sC [isl l .any] (.int .i64 (sizeS l))) ()):=by
 refine con_of (A:=sC _ _) (x:=()) (E:=Eprod l) (eOk conSh_ok rfl) Tryz.func153 rfl (by kernel_rfl) rfl (by simp[sC,Eprod,EC,E0]) ?_
 refine vc_eq (T :=
  ((IntsP (LN l) fun (i:Nat)=>[ZI (GI l i)])∧LN l≤(9223372036854775807:Nat))∧∀(y:Unit),True→True∧ifB (decide (Z0≤idxB (fun (d:Int)=>Z0==d) (intsD (LN l) fun (i:Nat)=>[ZI (GI l i)]) N0)) (RT (Z0=sizeS l)) ((∃(x:Nat×Int),GoHead l x.1 x.2∧(Z0=(NI x.1)∧Z1=x.2∧True)∧True∧True)∧∀(x:Nat×Int),GoHead l x.1 x.2→ifB (decide ((NI x.1)<(LI l))) (side (Z0≤(NI x.1)∧(NI x.1)<(LI l)) ((SM (QIE l)∧SM (ZI (LI l))∧True)∧∃(y:Nat×Int),GoHead l y.1 y.2∧LN l-y.1<LN l-x.1∧(IntKind.wrap IntKind.i64 ((NI x.1)+Z1)=(NI y.1)∧IntKind.wrap IntKind.i64 (x.2*GI l (TN x.1))=y.2∧True)∧True∧True)) (RT (x.2=sizeS l)))) (by kernel_rfl) ?_
 delta GI LI LN N0 N1 NI SI SM TN Z0 Z1 ZI QIE RT
 simp only[intsD_isl,idxB_any,Int.toNat_natCast,ifB_iff,side_iff,decide_eq_true_eq,decide_eq_false_iff_not,true_and,and_true,exists_const]
 simp only[rightS,Bool.and_eq_true,decide_eq_true_eq] at h
 have hcon:(l.any fun d=>0==d)=l.contains 0:=by
  rw[Bool.eq_iff_iff,List.contains_iff_mem,List.any_eq_true]
  constructor
  ·rintro ⟨z,hz,e⟩
   have e:0=z:=by simpa using e
   rw[e];exact hz
  ·exact fun hm=>⟨0,hm,rfl⟩
 rw[hcon]
 refine⟨⟨intsP_isl l,by omega⟩,fun _ _=>⟨fun hz=>by rw[sizeS,if_pos hz],fun hz=>⟨⟨(0,1),GoHead.init l,rfl,rfl⟩,?_⟩⟩⟩
 rintro ⟨i,p⟩ hh
 simp only at hh ⊢
 refine⟨fun hlt=>?_,fun hge=>by rw[sizeS,if_neg (by rw[hz];exact Bool.false_ne_true),hh.done hge];rfl⟩
 have hlt':i<l.length:=by omega
 obtain ⟨s1,s2,s3,s4⟩:=hh.step hlt'
 have hne:l.getD i 0≠0:=by
  intro e
  have:l.contains 0=true:=by
   rw[List.contains_iff_mem,← e,List.getD_eq_getElem?_getD,List.getElem?_eq_getElem hlt'];exact List.getElem_mem hlt'
  rw[this] at hz;cases hz
 have n1:¬l.getD i 0<0:=fun e=>by rw[s1 e] at h;exact absurd h.2 (by simp)
 have n2:¬65536<l.getD i 0:=fun e=>by rw[s2 e] at h;exact absurd h.2 (by simp)
 obtain ⟨b1,b2,s5,s6⟩:=s4 n1 n2
 have n3:¬65536<p*l.getD i 0:=fun e=>by rw[s5 e hne] at h;exact absurd h.2 (by simp)
 exact⟨by omega,(i+1,p*l.getD i 0),s6 n3 hne,by simp only;omega,wrap_i64' (by omega) (by omega),wrap_i64' (by omega) (by omega)⟩
noncomputable def Edims(l:List Int):Senv:={ EC conSh 21 1 [2,3,6,10,17,20] (fun _=>([],[])) with
 ann:=fun b _ _=>match b with
  |0=>some { slots:=[3],keep:=[0],α:=Nat,st:=fun i=>([.int .i64 i],⟨[],[]⟩),inv:=fun i=>i≤l.length∧∀z∈l.take i,0≤z,mu:=fun i=>l.length-i }
  |_=>none }
theorem goO_le:∀(l:List Int) (p:Int),p≤65536→∀q,goO l p=some q→q≤65536
 | [],p,hp,q,h=>by rw[goO] at h;injection h with h;omega
 |d::r,p,hp,q,h=>by
  rw[goO] at h
  split at h
  ·cases h
  ·split at h
   ·exact goO_le r p hp q h
   ·split at h
    ·cases h
    ·exact goO_le r _ (by omega) q h
def dimsS(s:List Int):Int:=if 8<s.length then 15 else if s.any (fun d=>decide (d<0)) then 16 else if (goO s 1).isSome then 0 else 21
noncomputable section
def Qkt(a:List Int):Int:=dimsS a
def Qos(a:Nat)(b:List Int):Prop:=a≤LN b∧∀(z:Int),z∈List.take a b→Z0≤z
def QIF(a:List Int):D:=SI a
def QsD(a:List Int):List Int:=intsD (LN a) fun (i:Nat)=>[ZI (GI a i)]
end
theorem dims_ok(l:List Int):ACalls Tryz.prog 126 [isl l .any] ⟨[],[]⟩ (SpecR (sC [isl l .any] (.int .i64 (dimsS l))) ()):=by
 refine con_of (A:=sC _ _) (x:=()) (E:=Edims l) (eOk conSh_ok rfl) Tryz.func126 rfl (by kernel_rfl) rfl (by simp[sC,Edims,EC,E0]) ?_
 refine vc_eq (T :=
  ifB (decide ((8:Int)<(LI l))) (RT ((15:Int)=Qkt l)) ((∃(x:Nat),Qos x l∧(Z0=(↑x:Int)∧True)∧True∧True)∧∀(x:Nat),Qos x l→ifB (decide ((↑x:Int)<(LI l))) (side (Z0≤(↑x:Int)∧(↑x:Int)<(LI l)) (ifB (decide (GI l (Int.toNat (↑x:Int))<Z0)) (RT ((16:Int)=Qkt l)) ((SM (QIF l)∧True)∧∃(y:Nat),Qos y l∧LN l-y<LN l-x∧(IntKind.wrap IntKind.i64 ((↑x:Int)+Z1)=(↑y:Int)∧True)∧True∧True))) (((IntsP (LN l) fun (i:Nat)=>[ZI (GI l i)])∧(∀(z:Int),z∈QsD l→Z0≤z)∧LN l≤(9223372036854775807:Nat))∧∀(y:Unit),True→ifB (decide ((65536:Int)<Option.getD (goO (QsD l) Z1) (65537:Int))) (RT ((21:Int)=Qkt l)) (RT (Z0=Qkt l))))) (by kernel_rfl) ?_
 delta GI LI LN N1 SI SM Z0 Z1 ZI Qkt Qos QIF QsD RT
 simp only[intsD_isl,Int.toNat_natCast,ifB_iff,side_iff,decide_eq_true_eq,decide_eq_false_iff_not,true_and,and_true,exists_const]
 have tk:∀i,i<l.length→∀P:Int→Prop,(∀z∈l.take i,P z)→P (l.getD i 0)→∀z∈l.take (i+1),P z:=fun i hi P h1 h2 z hz=>by
  rw[List.take_add_one,List.mem_append] at hz
  rcases hz with hz | hz
  ·exact h1 z hz
  ·rw[List.getElem?_eq_getElem hi] at hz
   simp at hz
   rw[hz]
   simpa[List.getD_eq_getElem?_getD,hi] using h2
 refine⟨fun h=>?_,fun h8=>⟨⟨0,⟨Nat.zero_le _,by simp⟩,rfl⟩,fun i hh=>⟨fun hlt=>?_,fun hge=>?_⟩⟩⟩
 ·have:8<l.length:=by omega
  simp[dimsS,this]
 ·have hlt':i<l.length:=by omega
  have h8':¬8<l.length:=by omega
  refine⟨by omega,fun h=>?_,fun h=>⟨i+1,⟨by omega,tk i hlt' _ hh.2 (by omega)⟩,by omega,wrap_i64' (by omega) (by omega)⟩⟩
  have:l.any (fun d=>decide (d<0))=true:=by
   rw[List.any_eq_true]
   refine⟨l.getD i 0,?_,decide_eq_true h⟩
   rw[List.getD_eq_getElem?_getD,List.getElem?_eq_getElem hlt'];exact List.getElem_mem hlt'
  rw[dimsS,if_neg h8',if_pos this]
 ·have hi:i=l.length:=by omega
  rw[hi,List.take_length] at hh
  have h8':¬8<l.length:=by omega
  have hnn:¬l.any (fun d=>decide (d<0))=true:=by
   rw[List.any_eq_true]
   rintro ⟨z,hz,h⟩
   have:=hh.2 z hz
   simp at h
   omega
  refine⟨⟨intsP_isl l,hh.2,by omega⟩,fun _ _=>?_⟩
  rw[dimsS,if_neg h8',if_neg hnn]
  have hb:=goO_le l 1 (by omega)
  cases hg:goO l 1 with
  |none=>simp
  |some p=>have:=hb p hg;simp;omega
noncomputable def Ecount(l:List Int):Senv:={ EC conSh 17 1 [2,3,7,14] (fun _=>([],[])) with
 ann:=fun b _ _=>match b with
  |0=>some { slots:=[3],keep:=[0],α:=Nat,st:=fun i=>([.int .i64 i],⟨[],[]⟩),inv:=fun i=>i≤l.length∧∀z∈l.take i,z≠0,mu:=fun i=>l.length-i }
  |_=>none }
noncomputable section
def Qot(a:Nat)(b:List Int):Prop:=a≤LN b∧∀(z:Int),z∈List.take a b→z≠Z0
def QIG(a:List Int):D:=SI a
def QsE(a:List Int):List Int:=intsD (LN a) fun (i:Nat)=>[ZI (GI a i)]
end
theorem count_ok(l:List Int)(h:dimsS l=0):ACalls Tryz.prog 128 [isl l .any] ⟨[],[]⟩ (SpecR (sC [isl l .any] (.int .i64 (sizeS l))) ()):=by
 refine con_of (A:=sC _ _) (x:=()) (E:=Ecount l) (eOk conSh_ok rfl) Tryz.func128 rfl (by kernel_rfl) rfl (by simp[sC,Ecount,EC,E0]) ?_
 refine vc_eq (T :=
  (∃(x:Nat),Qot x l∧(Z0=(↑x:Int)∧True)∧True∧True)∧∀(x:Nat),Qot x l→ifB (decide ((↑x:Int)<(LI l))) (side (Z0≤(↑x:Int)∧(↑x:Int)<(LI l)) (ifB (GI l (Int.toNat (↑x:Int))==Z0) (RT (Z0=sizeS l)) ((SM (QIG l)∧True)∧∃(y:Nat),Qot y l∧LN l-y<LN l-x∧(IntKind.wrap IntKind.i64 ((↑x:Int)+Z1)=(↑y:Int)∧True)∧True∧True))) (((IntsP (LN l) fun (i:Nat)=>[ZI (GI l i)])∧(∀(z:Int),z∈QsE l→Z0≤z)∧LN l≤(9223372036854775807:Nat))∧∀(y:Unit),True→RT (Option.getD (goO (QsE l) Z1) (65537:Int)=sizeS l))) (by kernel_rfl) ?_
 delta GI LI LN N1 SI SM Z0 Z1 ZI Qot QIG QsE RT
 simp only[intsD_isl,Int.toNat_natCast,ifB_iff,side_iff,decide_eq_true_eq,decide_eq_false_iff_not,true_and,and_true,exists_const]
 have tk:∀i,i<l.length→∀P:Int→Prop,(∀z∈l.take i,P z)→P (l.getD i 0)→∀z∈l.take (i+1),P z:=fun i hi P h1 h2 z hz=>by
  rw[List.take_add_one,List.mem_append] at hz
  rcases hz with hz | hz
  ·exact h1 z hz
  ·rw[List.getElem?_eq_getElem hi] at hz
   simp at hz
   rw[hz]
   simpa[List.getD_eq_getElem?_getD,hi] using h2
 have hl8:l.length≤8:=by
  unfold dimsS at h
  split at h
  ·cases h
  ·omega
 have hnn:∀z∈l,0≤z:=by
  intro z hz
  unfold dimsS at h
  split at h
  ·cases h
  ·split at h
   ·cases h
   ·rename_i hn
    rw[List.any_eq_true] at hn
    by_cases h0:z<0
    ·exact (hn ⟨z,hz,decide_eq_true h0⟩).elim
    ·omega
 have hg:(goO l 1).isSome=true:=by
  unfold dimsS at h
  (repeat' split at h)<;>first | assumption | (cases h;done)
 refine⟨⟨0,⟨Nat.zero_le _,by simp⟩,rfl⟩,fun i hh=>⟨fun hlt=>?_,fun hge=>?_⟩⟩
 ·have hlt':i<l.length:=by omega
  refine⟨by omega,fun h=>?_,fun h=>⟨i+1,⟨by omega,tk i hlt' _ hh.2 (by simpa using h)⟩,by omega,wrap_i64' (by omega) (by omega)⟩⟩
  have h0:l.getD i 0=0:=by simpa using h
  have:l.contains 0=true:=by
   rw[List.contains_iff_mem,← h0,List.getD_eq_getElem?_getD,List.getElem?_eq_getElem hlt'];exact List.getElem_mem hlt'
  rw[sizeS,if_pos this]
 ·have hi:i=l.length:=by omega
  rw[hi,List.take_length] at hh
  refine⟨⟨intsP_isl l,hnn,by omega⟩,fun _ _=>?_⟩
  have:¬l.contains 0=true:=by
   rw[List.contains_iff_mem]
   exact fun hm=>hh.2 0 hm rfl
  rw[sizeS,if_neg this]
  cases hgo:goO l 1 with
  |none=>rw[hgo] at hg;cases hg
  |some p=>rfl
def formS(k:Int)(s:List Int)(nn ni:Nat):Int :=
 if k=1∨k=2∨k=3 then
  if dimsS s≠0 then dimsS s
  else if ((if k=3 then (ni:Int) else nn)≠sizeS s)∨((if k=3 then (nn:Int) else ni)≠0) then 16 else 0
 else 14
def conAr:Con:=fun k ds S=>match k with
 |153=>match ds with
  | [.sl 1 n f _]=>some (pC ds (.int .i64 (sizeS (intsD n f))) (IntsP n f∧rightS (intsD n f)=true))
  |_=>none
 |126=>match ds with
  | [.sl 1 n f _]=>some (pC ds (.int .i64 (dimsS (intsD n f))) (IntsP n f))
  |_=>none
 |128=>match ds with
  | [.sl 1 n f _]=>some (pC ds (.int .i64 (sizeS (intsD n f))) (IntsP n f∧dimsS (intsD n f)=0))
  |_=>none
 |k=>conSh k ds S
theorem conAr_ok:ConOk Tryz.prog conAr:=by
 intro k ds S A h
 unfold conAr at h
 split at h
 ·split at h
  ·injection h with h;subst h
   exact pC_ok fun ⟨h1,h2⟩=>⟨weakL_refl _,sC_weak (isl_weak h1) (prod_ok _ h2)⟩
  ·cases h
 ·split at h
  ·injection h with h;subst h
   exact pC_ok fun h1=>⟨weakL_refl _,sC_weak (isl_weak h1) (dims_ok _)⟩
  ·cases h
 ·split at h
  ·injection h with h;subst h
   exact pC_ok fun ⟨h1,h2⟩=>⟨weakL_refl _,sC_weak (isl_weak h1) (count_ok _ h2)⟩
  ·cases h
 ·exact conSh_ok _ _ _ _ h
noncomputable def Eform:Senv:=EC conAr 44 5 [12,13,16,20,25,29,34] (fun id=>match id with | 1=>([0,1,2,3,4,5,6,7],[]) | _=>([],[]))
noncomputable section
def Qji(a:Int)(b:List Int)(c d:Nat):Int:=formS a b c d
def QsF(a:Int)(b:List Int)(c d:Nat):Prop:=RT ((15:Int)=Qji a b c d)
def Qis(a:List Int):Prop:=IntsP (LN a) fun (i:Nat)=>[ZI (GI a i)]
def QsG(a:List Int):Prop:=Qis a∧LN a≤(9223372036854775807:Nat)
def Qou(a:List Int):List Int:=intsD (LN a) fun (i:Nat)=>[ZI (GI a i)]
def QsH(a:List Int):Bool:=decide (Z0≤idxB (fun (d:Int)=>decide (d<Z0)) (Qou a) N0)
def QgQ(a:Int)(b:List Int)(c d:Nat):Prop:=RT ((16:Int)=Qji a b c d)
def QsI(a:List Int):Bool:=rightS (Qou a)
def Qku(a:List Int):Bool:=!QsI a
def QsJ(a:Int)(b:List Int)(c d:Nat):Prop:=RT ((21:Int)=Qji a b c d)
def QsK(a:Int)(b:List Int)(c d:Nat):Prop:=True∧QgQ a b c d
def QsL(a:List Int):Prop:=Qis a∧QsI a=true
def QsM(a:Nat)(b:List Int):Bool:=(↑a:Int) != sizeS (Qou b)
def QsN(a:Int)(b:List Int)(c d:Nat):Prop:=RT (Z0=Qji a b c d)
def QsO(a:Nat)(b:List Int)(c:Int)(d e:Nat):Prop:=SM a∧ifB (decide ((8:Int)<(LI b))) (QsF c b d e) (SM a∧QsG b∧∀(y:Unit),True→True∧ifB (QsH b) (QgQ c b d e) (SM a∧Qis b∧∀(y:Unit),True→ifB (Qku b) (QsJ c b d e) (SM a∧Qis b∧∀(y:Unit),True→ifB (Qku b) (QsK c b d e) (QsL b∧∀(y:Unit),True→True∧ifB (QsM d b) (QgQ c b d e) (ifB ((↑e:Int) != Z0) (QgQ c b d e) (QsN c b d e))))))
def QsP(a:Int)(b:Nat)(c:List Int)(d e:Nat):Prop:=ifB (a==(3:Int)) (SM b∧ifB (decide ((8:Int)<(LI c))) (QsF a c d e) (SM b∧QsG c∧∀(y:Unit),True→True∧ifB (QsH c) (QgQ a c d e) (SM b∧Qis c∧∀(y:Unit),True→ifB (Qku c) (QsJ a c d e) (SM b∧Qis c∧∀(y:Unit),True→ifB (Qku c) (QsK a c d e) (QsL c∧∀(y:Unit),True→True∧ifB (QsM e c) (QgQ a c d e) (ifB ((↑d:Int) != Z0) (QgQ a c d e) (QsN a c d e))))))) (RT ((14:Int)=Qji a c d e))
end
theorem form_ok(k : Int)(s : List Int)(nn ni : Nat)(g h : Nat → List D)(hs : s.length≤maxLen)(hn : nn≤maxLen)(hi : ni≤maxLen) :
  ACalls Tryz.prog 109 [.agg [.int .i64 k,isl s .any,.sl 1 nn g .any,.sl 4 ni h .any]] ⟨[],[]⟩ (SpecR (sC [.agg [.int .i64 k,isl s .any,.sl 1 nn g .any,.sl 4 ni h .any]] (.int .i64 (formS k s nn ni))) ()):=by
 refine con_of (A:=sC _ _) (x:=()) (E:=Eform) (eOk conAr_ok rfl) Tryz.func109 rfl (by kernel_rfl) rfl (by simp[sC,Eform,EC,E0]) ?_
 refine vc_eq (T :=
  ∀(x:Nat),True→SM x∧SM x∧SM x∧ifB (k==Z1) (ifB (k==Z1) (QsO x s k nn ni) (QsP k x s nn ni)) (ifB (k==(2:Int)) (QsO x s k nn ni) (QsP k x s nn ni))) (by kernel_rfl) ?_
 delta GI LI LN N0 SM Z0 Z1 ZI Qji QsF QsK QsL QsM QsN QsO QsP Qis QsG Qou QsH QgQ QsI Qku QsJ RT
 simp only[intsD_isl,idxB_any,Int.toNat_natCast,ifB_iff,side_iff,decide_eq_true_eq,decide_eq_false_iff_not,true_and,and_true,beq_iff_eq,bne_iff_ne,Bool.cond_false_right,Bool.cond_true_left,Bool.and_eq_true,Bool.and_eq_false_iff,beq_eq_false_iff_ne,ne_eq,exists_const,forall_const]
 simp only[maxLen] at hs hn hi
 have n8:(8<(s.length:Int))↔8<s.length:=by omega
 simp only[n8]
 repeat' (first
  |exact intsP_isl s
  |refine And.intro ?_ ?_
  |intro _)
 all_goals first
  |omega
  |(simp_all[formS,dimsS,rightS];done)
  |grind [formS,dimsS,rightS]
  |skip
 all_goals trace_state
def Arr.k:Arr→Int | .mk k _ _ _=>k
def Arr.sh:Arr→List Int | .mk _ s _ _=>s
def Arr.nu:Arr→List Int | .mk _ _ n _=>n
def Arr.it:Arr→List Arr | .mk _ _ _ i=>i
def Arr.row1(a:Arr):List D:=[.int .i64 a.k,isl a.sh .any,isl a.nu .any,gsl 4 Arr.row a.it]
def Arr.row2(a:Arr):List D:=[.int .i64 a.k,isl a.sh .any,isl a.nu .any,gsl 4 Arr.row1 a.it]
theorem row_len(l:List Arr):(rowsL l).length=l.length:=by rw[rowsL_map];simp
theorem row_wk(a:Arr):wkL a.row a.row1:=by
 cases a with
 |mk k s n is =>
  simp only[Arr.row,Arr.row1,Arr.k,Arr.sh,Arr.nu,Arr.it,gsl,isl,wkL,wkD,weakD,chk_iff]
  refine⟨⟨by simp[kEq],trivial⟩,⟨by simp,trivial,fun i _=>by simp[kEq],by simp[weakM]⟩,⟨by simp,trivial,fun i _=>by simp[kEq],by simp[weakM]⟩,⟨by simp,row_len is,fun i hi=>?_,by simp[weakM]⟩,trivial⟩
  rw[row_len] at hi
  have:(rowsL is).getD i []=(is.getD i default).row:=by
   rw[rowsL_map];simp[List.getD_eq_getElem?_getD,hi]
  rw[this]
  exact wkL_refl _
theorem row1_wk(a:Arr):wkL a.row1 a.row2:=by
 simp only[Arr.row1,Arr.row2,gsl,isl,wkL,wkD,weakD,chk_iff]
 exact⟨⟨by simp[kEq],trivial⟩,⟨by simp,trivial,fun i _=>by simp[kEq],by simp[weakM]⟩,⟨by simp,trivial,fun i _=>by simp[kEq],by simp[weakM]⟩,⟨by simp,trivial,fun i _=>row_wk _,by simp[weakM]⟩,trivial⟩
def numB(z:Int):Bool:=decide (-4611686018427387903≤z)&&decide (z≤4611686018427387903)
def chrB(z:Int):Bool:=decide (0≤z)&&decide (z≤1114111)&&(decide (z<55296)||decide (57343<z))
def badK(k z:Int):Bool:=(k==1&&!numB z)||(k==2&&!chrB z)
mutual
def chkA:Arr→Int×Int×Int
 |.mk k s n is =>
  if formS k s n.length is.length≠0 then (formS k s n.length is.length,0,0)
  else if n.any (badK k) then (17,0,0)
  else match chkL is 0 ((n.length:Int)+is.length) with
   |none=>(17,0,0)
   |some r=>if 16<r.1∨262144<r.2 then (21,0,0) else (0,r.1,r.2)
def chkL:List Arr→Int→Int→Option (Int×Int)
 | [],d,w=>some (d,w)
 |x::r,d,w=>if (chkA x).1≠0 then none else chkL r (if d<(chkA x).2.1+1 then (chkA x).2.1+1 else d) (if 262145<w+(chkA x).2.2 then 262145 else w+(chkA x).2.2)
end
theorem chkL_pos:∀(l:List Arr) (d w d' w':Int),chkL l d w=some (d',w')→0≤d→0≤w→(∀x∈l,(chkA x).1=0→0≤(chkA x).2.1∧0≤(chkA x).2.2)→0≤d'∧0≤w'
 | [],d,w,d',w',h,h1,h2,_=>by
  rw[chkL] at h;injection h with h;injection h with e1 e2;omega
 |x::r,d,w,d',w',h,h1,h2,h3=>by
  rw[chkL] at h
  split at h
  ·cases h
  ·rename_i hx
   have hx:(chkA x).1=0:=by simpa using hx
   have:=h3 x (by simp) hx
   refine chkL_pos r _ _ d' w' h ?_ ?_ fun y hy=>h3 y (by simp[hy])
   ·split<;>omega
   ·split<;>omega
theorem chkA_bounds:∀(a:Arr),(0≤(chkA a).2.1∧(chkA a).2.1≤16)∧0≤(chkA a).2.2∧(chkA a).2.2≤262144
 |.mk k s n is=>by
  rw[chkA]
  split
  ·simp
  ·split
   ·simp
   ·split
    ·simp
    ·rename_i r hr
     split
     ·simp
     ·rename_i hb
      have:=chkL_pos is 0 _ r.1 r.2 hr (by omega) (by omega) fun x hx _=>by
       have:=chkA_bounds x
       omega
      simp only
      omega
termination_by a=>SizeOf.sizeOf a
decreasing_by
 have:=List.sizeOf_lt_of_mem hx
 simp;omega
noncomputable def Enum:Senv:=EC con0 9 1 [2] (fun _=>([],[]))
noncomputable section
def Qov(a:Int):Bool:=bif decide ((-4611686018427387903:Int)≤a) then decide (a≤(4611686018427387903:Int)) else false
end
theorem num_ok(z:Int):ACalls Tryz.prog 110 [.int .i64 z] ⟨[],[]⟩ (SpecR (sC [.int .i64 z] (.bool (numB z))) ()):=by
 refine con_of (A:=sC _ _) (x:=()) (E:=Enum) (eOk con0_ok rfl) Tryz.func110 rfl (by kernel_rfl) rfl (by simp[sC,Enum,EC,E0]) ?_
 refine vc_eq (T :=
  ifB (decide ((-4611686018427387903:Int)≤z)) (decide (z≤(4611686018427387903:Int))=Qov z∧True) (false=Qov z∧True)∧RT (Qov z=numB z)) (by kernel_rfl) ?_
 delta Qov RT
 simp only[ifB_iff,decide_eq_true_eq,decide_eq_false_iff_not,true_and,and_true,Bool.cond_false_right,exists_const]
 refine⟨⟨fun h=>by rw[decide_eq_true h];rfl,fun h=>by rw[decide_eq_false h];rfl⟩,rfl⟩
noncomputable def Echr:Senv:=EC con0 17 1 [2] (fun _=>([],[]))
noncomputable section
def Qkv(a:Int):Bool:=bif bif decide (Z0≤a) then decide (a≤(1114111:Int)) else false then bif decide (a<(55296:Int)) then true else decide ((57343:Int)<a) else false
def QsQ(a:Int):Prop:=false=Qkv a∧True
end
theorem chr_ok(z:Int):ACalls Tryz.prog 111 [.int .i64 z] ⟨[],[]⟩ (SpecR (sC [.int .i64 z] (.bool (chrB z))) ()):=by
 refine con_of (A:=sC _ _) (x:=()) (E:=Echr) (eOk con0_ok rfl) Tryz.func111 rfl (by kernel_rfl) rfl (by simp[sC,Echr,EC,E0]) ?_
 refine vc_eq (T :=
  ifB (decide (Z0≤z)) (ifB (decide (z≤(1114111:Int))) (ifB (decide (z<(55296:Int))) (true=Qkv z∧True) (decide ((57343:Int)<z)=Qkv z∧True)) (QsQ z)) (QsQ z)∧RT (Qkv z=chrB z)) (by kernel_rfl) ?_
 delta Z0 Qkv QsQ RT
 simp only[ifB_iff,decide_eq_true_eq,decide_eq_false_iff_not,true_and,and_true,Bool.cond_false_right,Bool.cond_true_left,exists_const]
 refine⟨⟨fun h1=>⟨fun h2=>⟨fun h3=>by simp[h1,h2,h3],fun h3=>by simp[h1,h2,h3]⟩,fun h2=>by simp[h1,h2]⟩,fun h1=>by simp[h1]⟩,rfl⟩
def sVis(row:Arr→List D)(xb:Nat)(q:Arr→Prop):FnSpec where
 β:=Arr
 α:=Unit
 args:=fun a=>[.agg (row a),.ref 1 xb 0]
 st:=fun _=>⟨[(1,xb,.cells [.fn (.func 108) [] [.ref 1 xb 0]])],[]⟩
 pre:=q
 post:=fun _ _=>True
 res:=fun a _=>.ret (.tup [.int .i64 (chkA a).1,.int .i64 (chkA a).2.1,.int .i64 (chkA a).2.2])
 out:=fun _ _=>⟨[(1,xb,.cells [.fn (.func 108) [] [.ref 1 xb 0]])],[]⟩
def conVis(xb:Nat)(its:List Arr):Con:=fun k ds S=>match k with
 |108=>some (sVis Arr.row1 xb (fun b=>b∈its))
 |109=>match ds with
  | [.agg [.int .i64 k,.sl 1 n f _,.sl 1 nn _g _,.sl 4 ni _h _]]=>some (pC ds (.int .i64 (formS k (intsD n f) nn ni)) (IntsP n f∧n≤maxLen∧nn≤maxLen∧ni≤maxLen))
  |_=>none
 |110=>match ds with
  | [.int .i64 z]=>some (pC [.int .i64 z] (.bool (numB z)) True)
  |_=>none
 |111=>match ds with
  | [.int .i64 z]=>some (pC [.int .i64 z] (.bool (chrB z)) True)
  |_=>none
 |k=>conAr k ds S
theorem conVis_ok{xb:Nat}{its:List Arr}(ih:∀b∈its,ACalls Tryz.prog 108 ((sVis Arr.row2 xb (fun _=>True)).args b) ((sVis Arr.row2 xb (fun _=>True)).st b) (SpecR (sVis Arr.row2 xb (fun _=>True)) b)):ConOk Tryz.prog (conVis xb its):=by
 intro k ds S A h
 unfold conVis at h
 split at h
 ·injection h with h;subst h
  refine ConOk.plain (fun b hb=>?_) rfl rfl
  refine ((ih b hb).wkArgs ?_).mono fun _ _ ⟨y,h1,h2,h3⟩=>⟨y,h1,h2,h3⟩
  simp only[sVis,wkL,wkD]
  exact⟨row1_wk b,by simp[weakD,chk_iff]⟩
 ·split at h
  ·rename_i k n f _ nn g _ ni g' _
   injection h with h;subst h
   refine pC_ok fun ⟨h1,h2,h3,h4⟩=>⟨weakL_refl _,sC_weak (us:=[.agg [.int .i64 k,isl (intsD n f) .any,.sl 1 nn g .any,.sl 4 ni g' .any]]) ?_ (form_ok _ _ _ _ _ _ (by rw[intsD_len];exact h2) h3 h4)⟩
   refine⟨?_,trivial⟩
   simp only[weakD,weakL]
   refine⟨by simp[chk_iff,kEq],(isl_weak h1).1,?_,?_,trivial⟩
   ·simp[chk_iff,weakM]
   ·simp[chk_iff,weakM]
  ·cases h
 ·split at h
  ·injection h with h;subst h
   exact pC_ok fun _=>⟨weakL_refl _,num_ok _⟩
  ·cases h
 ·split at h
  ·injection h with h;subst h
   exact pC_ok fun _=>⟨weakL_refl _,chr_ok _⟩
  ·cases h
 ·exact conAr_ok _ _ _ _ h
theorem chkA_eq(a : Arr) : chkA a=if formS a.k a.sh a.nu.length a.it.length≠0 then (formS a.k a.sh a.nu.length a.it.length, 0, 0)
  else if a.nu.any (badK a.k) then (17,0,0)
  else match chkL a.it 0 ((a.nu.length:Int)+a.it.length) with
   |none=>(17,0,0)
   |some r=>if 16<r.1∨262144<r.2 then (21,0,0) else (0,r.1,r.2):=by
 cases a with
 |mk k s n is=>rw[chkA];rfl
theorem sizeS_le{s:List Int}:sizeS s≤65536:=by
 unfold sizeS
 split
 ·omega
 ·cases hg:goO s 1 with
  |none=>simp
  |some p=>have:=goO_le s 1 (by omega) p hg;simpa using this
theorem form_small{k:Int}{s:List Int}{nn ni:Nat}(h:formS k s nn ni=0):nn≤65536∧ni≤65536:=by
 have hs:=sizeS_le (s:=s)
 unfold formS at h
 by_cases hk:k=1∨k=2∨k=3
 ·rw[if_pos hk] at h
  by_cases hd:dimsS s≠0
  ·rw[if_pos hd] at h;exact (hd h).elim
  ·rw[if_neg hd] at h
   by_cases hc:((if k=3 then (ni:Int) else nn)≠sizeS s)∨((if k=3 then (nn:Int) else ni)≠0)
   ·rw[if_pos hc] at h;omega
   ·simp only[not_or,ne_eq,Decidable.not_not] at hc
    obtain ⟨c1,c2⟩:=hc
    by_cases k3:k=3<;>simp only[k3,if_true,if_false] at c1 c2<;>omega
 ·rw[if_neg hk] at h;omega
theorem mem_getD{α:Type}[Inhabited α]{l:List α}{i:Nat}(h:i<l.length):l.getD i default∈l:=by
 rw[List.getD_eq_getElem?_getD,List.getElem?_eq_getElem h];exact List.getElem_mem h
def cutV(k:Int)(d8:D)(S:St):Option LoopAnn :=
 match d8 with
 |.int _ z=>some { slots:=[45],keep:=[],α:=Unit,st:=fun _=>([.bool (badK k z)],S),inv:=fun _=>True,mu:=fun _=>0 }
 |_=>none
noncomputable def Evis(xb:Nat)(a:Arr):Senv:={ EC (conVis xb a.it) 87 7 [8,9,10,12,13,14,15,19,22,23,24,25,45,55,56,57,58,69,84] (fun id=>match id with | 10=>([0,1,2,3,4,5,6,7,8],[]) | _=>([],[])) with
 cut:=fun id env S=>match id with
  |7=>cutV a.k (Ab.look env 8) S
  |_=>none
 ann:=fun b _ S=>match b with
  |0=>some { slots:=[24],keep:=[0,1,2,22,23],α:=Nat,st:=fun i=>([.int .i64 i],S),inv:=fun i=>i≤a.nu.length∧∀z∈a.nu.take i,badK a.k z=false,mu:=fun i=>a.nu.length-i }
  |2=>some { slots:=[57,9,10],keep:=[0,1,2,55,56],α:=Nat×Int×Int,st:=fun y=>([.int .i64 y.1,.int .i64 y.2.1,.int .i64 y.2.2],S),inv:=fun y=>y.1≤a.it.length∧0≤y.2.1∧y.2.1≤17∧0≤y.2.2∧y.2.2≤262145∧chkL (a.it.drop y.1) y.2.1 y.2.2=chkL a.it 0 ((a.nu.length:Int)+a.it.length),mu:=fun y=>a.it.length-y.1 }
  |_=>none }
noncomputable section
def QgR(a:Arr):Nat:=LN (Arr.sh a)
def Qjj(a:Arr)(b:Nat):List D:=[ZI (GI (Arr.sh a) b)]
def Qkw(a:Arr):List Int:=Arr.nu a
def H7(a:Arr):Nat:=LN (Qkw a)
def Qit(a:Arr):List Arr:=Arr.it a
def H8(a:Arr):Nat:=LN (Qit a)
def Qgx(a:Arr):Int:=Arr.k a
def QsR(a:Arr):Int:=formS (Qgx a) (intsD (QgR a) fun (i:Nat)=>Qjj a i) (H7 a) (H8 a)
def Qjk(a:Arr):Int:=Prod.fst (chkA a)
def Qow(a:Arr):Int:=Prod.fst (Prod.snd (chkA a))
def Qkx(a:Arr):Int:=Prod.snd (Prod.snd (chkA a))
def Qox(a:Arr):Prop:=Z0=Qow a∧Z0=Qkx a∧True
def QsS(a:Nat):Prop:=SM a∧(SM (D.fn (Fn.func (108:Nat)) [] [D.ref N1 a N0])∧True)∧True
def Qjl(a:Nat):Prop:=QsS a∧True
def Qoy(a:Nat)(b:Arr):Prop:=a≤H7 b∧∀(z:Int),z∈List.take a (Qkw b)→badK (Qgx b) z=false
def Qoz(a:Arr)(b:Nat):List D:=[ZI (GI (Qkw a) b)]
def Qky:Arr:=DA
def Qjm(a:Arr)(b:Nat):Arr:=List.getD (Qit a) b Qky
def QIH(a:Arr)(b:Nat):List Int:=Arr.sh (Qjm a b)
def QII(a:Arr)(b:Nat):List Int:=Arr.nu (Qjm a b)
def QsT(a:Arr)(b:Nat):List Arr:=Arr.it (Qjm a b)
def QsU(a:Arr)(b:Nat):List D:=[ZI (Arr.k (Qjm a b)),SI (QIH a b),SI (QII a b),D.sl N4 (LN (QsT a b)) (fun (i:Nat)=>Arr.row (List.getD (QsT a b) i Qky)) Mode.any]
def QgS(a:Nat)(b:Arr)(c:Nat):Prop:=(SM a∧(SM (Qgx b)∧(SM (QgR b)∧(∀(i:Nat),i<QgR b→SM (Qjj b i))∧True)∧(SM (H7 b)∧(∀(i:Nat),i<H7 b→SM (Qoz b i))∧True)∧(SM (H8 b)∧(∀(i:Nat),i<H8 b→SM (QsU b i))∧True)∧True)∧QsS c)∧True
def Qkz(a:Arr):Int:=(NI (H7 a))
def QoA(a:Arr)(b:Nat):Int:=GI (Qkw a) (Int.toNat (↑b:Int))
def QkA(a:Arr)(b:Nat):Bool:=badK (Qgx a) (QoA a b)
def QsV(a:Nat)(b:Arr)(c d:Nat):Prop:=SM a∧ifB (Qgx b==(2:Int)) (True∧∀(_y:Unit),True→∃(_x:Unit),True∧((!chrB (QoA b c))=QkA b c∧True)∧QgS a b d) (∃(_x:Unit),True∧(false=QkA b c∧True)∧QgS a b d)
def QsW(a:Arr)(b:Nat):Prop:=True∧∃(_y:Unit),True∧((17:Int)=Qjk a∧Qox a)∧Qjl b
def QsX(a:Arr):D:=D.sl N1 (H7 a) (fun (i:Nat)=>Qoz a i) Mode.any
def QsY(a:Arr):D:=D.sl N4 (H8 a) (fun (i:Nat)=>QsU a i) Mode.any
def QIJ(a:Arr):D:=D.agg [ZI (Qgx a),D.sl N1 (QgR a) (fun (i:Nat)=>Qjj a i) Mode.any,QsX a,QsY a]
def QsZ(a:Arr):Prop:=SM (QIJ a)
def QkB(a:Arr):Int:=(NI (H8 a))
def Qs0(a:Arr):Int:=Qkz a+QkB a
def QoB(a:Nat)(b:Arr)(c d:Int):Prop:=a≤H8 b∧Z0≤c∧c≤(17:Int)∧Z0≤d∧d≤(262145:Int)∧chkL (List.drop a (Qit b)) c d=chkL (Qit b) Z0 (Qs0 b)
def QkC(a:Arr)(b:Nat):Arr:=List.getD (Qit a) (Int.toNat (↑b:Int)) Qky
def Qs1(a:Arr)(b:Nat):List Int:=Arr.sh (QkC a b)
def Qs2(a:Arr)(b:Nat):Nat:=LN (Qs1 a b)
def Qs3(a:Arr)(b:Nat):List Int:=Arr.nu (QkC a b)
def Qs4(a:Arr)(b:Nat):Nat:=LN (Qs3 a b)
def Qs5(a:Arr)(b:Nat):List Arr:=Arr.it (QkC a b)
def Qs6(a:Arr)(b:Nat):Nat:=LN (Qs5 a b)
def Qs7(a:Arr):Int:=IntKind.wrap IntKind.i64 (Qow a+Z1)
def QoC(a b:Int):Bool:=bif decide ((16:Int)<a) then true else decide ((262144:Int)<b)
end
theorem vis_step(xb : Nat)(a : Arr)(ha : a.nu.length≤maxLen ∧ a.it.length≤maxLen ∧ a.sh.length≤maxLen)(ih : ∀b∈a.it, ACalls Tryz.prog 108 ((sVis Arr.row2 xb (fun _=>True)).args b) ((sVis Arr.row2 xb (fun _=>True)).st b) (SpecR (sVis Arr.row2 xb (fun _=>True)) b)) :
  ACalls Tryz.prog 108 ((sVis Arr.row2 xb (fun _=>True)).args a) ((sVis Arr.row2 xb (fun _=>True)).st a) (SpecR (sVis Arr.row2 xb (fun _=>True)) a):=by
 refine con_of (A:=sVis Arr.row2 xb (fun _=>True)) (x:=a) (E:=Evis xb a) (eOk (conVis_ok ih) rfl) Tryz.func108 rfl (by kernel_rfl) rfl (by simp[sVis,Evis,EC,E0]) ?_
 refine vc_eq (T :=
  ∀(x:Nat),xb≠x∧True→SM x∧((IntsP (QgR a) fun (i:Nat)=>Qjj a i)∧QgR a≤(9223372036854775807:Nat)∧H7 a≤(9223372036854775807:Nat)∧H8 a≤(9223372036854775807:Nat))∧∀(y:Unit),True→ifB (QsR a != Z0) (True∧∃(y:Unit),True∧(QsR a=Qjk a∧Qox a)∧Qjl xb) (SM x∧(∃(x_1:Nat),Qoy x_1 a∧(Z0=(↑x_1:Int)∧True)∧QgS x a xb)∧∀(x_1:Nat),Qoy x_1 a→ifB (decide ((↑x_1:Int)<Qkz a)) (side (Z0≤(↑x_1:Int)∧(↑x_1:Int)<Qkz a) ((SM x∧ifB (Qgx a==Z1) (True∧∀(y:Unit),True→ifB (!numB (QoA a x_1)) (∃(x_2:Unit),True∧(true=QkA a x_1∧True)∧QgS x a xb) (QsV x a x_1 xb)) (QsV x a x_1 xb))∧∀(x_2:Unit),True→ifB (QkA a x_1) (QsW a xb) ((QsZ a∧SM (D.ref N1 xb N0)∧SM (D.ref N2 x N0)∧SM (QsX a)∧SM (ZI (Qkz a))∧True)∧∃(y:Nat),Qoy y a∧H7 a-y<H7 a-x_1∧(IntKind.wrap IntKind.i64 ((↑x_1:Int)+Z1)=(↑y:Int)∧True)∧QgS x a xb))) (SM x∧SM x∧SM x∧(∃(x_2:Nat×Int×Int),QoB x_2.1 a x_2.2.1 x_2.2.2∧(Z0=(NI x_2.1)∧Z0=x_2.2.1∧IntKind.wrap IntKind.i64 (Qs0 a)=x_2.2.2∧True)∧QgS x a xb)∧∀(x_2:Nat×Int×Int),QoB x_2.1 a x_2.2.1 x_2.2.2→ifB (decide ((NI x_2.1)<QkB a)) (side (Z0≤(NI x_2.1)∧(NI x_2.1)<QkB a) (∀(x_3:Nat),x≠x_3∧xb≠x_3∧True→SM x_3∧SM xb∧SM x_3∧∃(x_4:Arr),((Arr.k (QkC a x_2.1)=Qgx x_4∧(Qs2 a x_2.1=QgR x_4∧(∀(i:Nat),i<Qs2 a x_2.1→[ZI (GI (Qs1 a x_2.1) i)]=Qjj x_4 i)∧True)∧(Qs4 a x_2.1=H7 x_4∧(∀(i:Nat),i<Qs4 a x_2.1→[ZI (GI (Qs3 a x_2.1) i)]=Qoz x_4 i)∧True)∧(Qs6 a x_2.1=H8 x_4∧(∀(i:Nat),i<Qs6 a x_2.1→Arr.row (List.getD (Qs5 a x_2.1) i Qky)=Arr.row (Qjm x_4 i))∧True)∧True)∧SM xb∧True)∧Qjl xb∧x_4∈Qit a∧∀(y:Unit),True→ifB (Qjk x_4 != Z0) (QsW a xb) ((QsZ a∧SM (D.ref N1 xb N0)∧SM (D.ref N2 x N0)∧SM (QsY a)∧SM (ZI (QkB a))∧True)∧∃(y:Nat×Int×Int),QoB y.1 a y.2.1 y.2.2∧H8 a-y.1<H8 a-x_2.1∧(IntKind.wrap IntKind.i64 ((NI x_2.1)+Z1)=(NI y.1)∧(if x_2.2.1<Qs7 x_4 then Qs7 x_4 else x_2.2.1)=y.2.1∧(if (262145:Int)<IntKind.wrap IntKind.i64 (x_2.2.2+Qkx x_4) then (262145:Int) else IntKind.wrap IntKind.i64 (x_2.2.2+Qkx x_4))=y.2.2∧True)∧QgS x a xb))) (ifB (decide ((16:Int)<x_2.2.1)) (true=QoC x_2.2.1 x_2.2.2∧True) (decide ((262144:Int)<x_2.2.2)=QoC x_2.2.1 x_2.2.2∧True)∧ifB (QoC x_2.2.1 x_2.2.2) (True∧∃(y:Unit),True∧((21:Int)=Qjk a∧Qox a)∧Qjl xb) (True∧∃(y:Unit),True∧(Z0=Qjk a∧x_2.2.1=Qow a∧x_2.2.2=Qkx a∧True)∧Qjl xb))))) (by kernel_rfl) ?_
 delta DA GI LN N0 N1 N2 N4 NI SI SM Z0 Z1 ZI QsR Qjk Qow Qkx Qox QsS Qjl Qoy Qoz Qky Qjm QIH QII QsT QsU QgS Qkz QoA QkA QsV QgR QsW QsX QsY QIJ QsZ QkB Qs0 QoB QkC Qs1 Qjj Qs2 Qs3 Qs4 Qs5 Qs6 Qs7 QoC Qkw H7 Qit H8 Qgx
 have da:(default:Arr)=Arr.mk 0 [] [] []:=rfl
 simp only[← da,intsD_isl,Int.toNat_natCast,ifB_iff,side_iff,decide_eq_true_eq,decide_eq_false_iff_not,true_and,and_true,beq_iff_eq,bne_iff_ne,Bool.cond_true_left,beq_eq_false_iff_ne,ne_eq,exists_const,forall_const]
 intro x _
 have hA:=chkA_eq a
 obtain ⟨l1,l2,l3⟩:=ha
 have tt:(∀i:Nat,i<a.sh.length→True)∧(∀i:Nat,i<a.nu.length→True)∧∀i:Nat,i<a.it.length→True:=⟨fun _ _=>trivial,fun _ _=>trivial,fun _ _=>trivial⟩
 refine⟨⟨intsP_isl _,l3,l1,l2⟩,fun h=>?_,fun h=>⟨⟨0,⟨Nat.zero_le _,by simp⟩,rfl,tt⟩,fun i hi=>⟨fun hlt=>?_,fun hge=>?_⟩⟩⟩
 ·rw[hA,if_pos h];exact⟨rfl,rfl,rfl⟩
 ·have h0:formS a.k a.sh a.nu.length a.it.length=0:=by simpa using h
  have hsm:=form_small h0
  have hlt':i<a.nu.length:=by omega
  have hmem:a.nu.getD i 0∈a.nu:=by rw[List.getD_eq_getElem?_getD,List.getElem?_eq_getElem hlt'];exact List.getElem_mem hlt'
  have htk:a.nu.take (i+1)=a.nu.take i++[a.nu.getD i 0]:=by
   rw[List.take_add_one];simp[List.getD_eq_getElem?_getD,hlt']
  generalize a.nu.getD i 0=z at *
  refine⟨by omega,?_,fun hb=>?_,fun hb=>⟨i+1,⟨by omega,fun y hy=>?_⟩,by omega,wrap_i64' (by omega) (by omega),tt⟩⟩
  ·refine⟨fun k1=>⟨fun hn=>⟨by simp at hn;simp[badK,k1,hn],tt⟩,fun hn=>⟨fun k2=>by omega,fun k2=>⟨by simp at hn;simp[badK,k1,hn],tt⟩⟩⟩,fun k1=>⟨fun k2=>⟨by simp[badK,k2],tt⟩,fun k2=>⟨by simp[badK,k1,k2],tt⟩⟩⟩
  ·have:a.nu.any (badK a.k)=true:=List.any_eq_true.2 ⟨z,hmem,hb⟩
   rw[hA,if_neg (by simp[h0]),if_pos this]
   exact⟨rfl,rfl,rfl⟩
  ·rw[htk,List.mem_append] at hy
   rcases hy with hy | hy
   ·exact hi.2 y hy
   ·simp at hy;rw[hy];exact hb
 ·have h0:formS a.k a.sh a.nu.length a.it.length=0:=by simpa using h
  have hsm:=form_small h0
  have hii:i=a.nu.length:=by omega
  rw[hii,List.take_length] at hi
  have hany:¬a.nu.any (badK a.k)=true:=by
   rw[List.any_eq_true]
   rintro ⟨z,hz,hb⟩
   rw[hi.2 z hz] at hb
   cases hb
  rw[if_neg (by simp[h0]),if_neg hany] at hA
  refine⟨⟨(0,0,(a.nu.length:Int)+a.it.length),⟨Nat.zero_le _,Int.le_refl _,by simp,by simp only;omega,by simp only;omega,by simp⟩,⟨rfl,rfl,wrap_i64' (by omega) (by omega)⟩,tt⟩,?_⟩
  rintro ⟨j,d,w⟩ ⟨b1,b2,b3,b4,b5,hch⟩
  simp only at b1 b2 b3 b4 b5 hch ⊢
  refine⟨fun hlt=>⟨by omega,fun x3 _=>?_⟩,fun hge=>?_⟩
  ·have hlt':j<a.it.length:=by omega
   have hbd:=chkA_bounds (a.it.getD j default)
   rw[drop_step hlt',chkL] at hch
   refine⟨a.it.getD j default,⟨rfl,⟨rfl,fun _ _=>rfl⟩,⟨rfl,fun _ _=>rfl⟩,rfl,fun _ _=>rfl⟩,mem_getD hlt',fun herr=>?_,fun hok=>?_⟩
   ·rw[if_pos herr] at hch
    rw[← hch] at hA
    rw[hA]
    exact⟨rfl,rfl,rfl⟩
   ·have hok:(chkA (a.it.getD j default)).1=0:=by simpa using hok
    rw[if_neg (fun hne=>hne hok)] at hch
    have w1:IntKind.i64.wrap ((chkA (a.it.getD j default)).2.1+1)=(chkA (a.it.getD j default)).2.1+1:=wrap_i64' (by omega) (by omega)
    have w2:IntKind.i64.wrap (w+(chkA (a.it.getD j default)).2.2)=w+(chkA (a.it.getD j default)).2.2:=wrap_i64' (by omega) (by omega)
    rw[w1,w2]
    refine⟨(j+1,(if d<(chkA (a.it.getD j default)).2.1+1 then (chkA (a.it.getD j default)).2.1+1 else d),(if 262145<w+(chkA (a.it.getD j default)).2.2 then 262145 else w+(chkA (a.it.getD j default)).2.2)),⟨by simp only;omega,?_,?_,?_,?_,hch⟩,by simp only;omega,⟨wrap_i64' (by omega) (by omega),rfl,rfl⟩,tt⟩
    ·simp only;split<;>omega
    ·simp only;split<;>omega
    ·simp only;split<;>omega
    ·simp only;split<;>omega
  ·have hj:j=a.it.length:=by omega
   rw[hj,List.drop_length,chkL] at hch
   rw[← hch] at hA
   simp only at hA
   refine⟨⟨fun h1=>by rw[decide_eq_true h1];rfl,fun h1=>by rw[decide_eq_false h1];rfl⟩,fun hc=>?_,fun hc=>?_⟩
   ·rw[Bool.or_eq_true,decide_eq_true_eq,decide_eq_true_eq] at hc
    rw[if_pos hc] at hA
    rw[hA];exact⟨rfl,rfl,rfl⟩
   ·rw[Bool.or_eq_false_iff,decide_eq_false_iff_not,decide_eq_false_iff_not] at hc
    rw[if_neg (by omega)] at hA
    rw[hA];exact⟨rfl,rfl,rfl⟩
theorem vis_all:∀(a:Arr),a.ok→∀xb,ACalls Tryz.prog 108 ((sVis Arr.row2 xb (fun _=>True)).args a) ((sVis Arr.row2 xb (fun _=>True)).st a) (SpecR (sVis Arr.row2 xb (fun _=>True)) a)
 |.mk k s n is,h,xb=>by
  have h':=h
  simp only[Arr.ok] at h'
  obtain ⟨_,_,_,h1,h2,h3,h4⟩:=h'
  refine vis_step xb (.mk k s n is) ⟨h2,h3,h1⟩ fun b hb=>?_
  have hb':b∈is:=hb
  exact vis_all b ((okL_iff _).1 h4 b hb') xb
termination_by a=>SizeOf.sizeOf a
decreasing_by
 have:=List.sizeOf_lt_of_mem hb'
 simp;omega
theorem vis1_all(a:Arr)(ha:a.ok)(xb:Nat)(q:Arr→Prop):ACalls Tryz.prog 108 ((sVis Arr.row1 xb q).args a) ((sVis Arr.row1 xb q).st a) (SpecR (sVis Arr.row1 xb q) a):=by
 refine ((vis_all a ha xb).wkArgs ?_).mono fun _ _ ⟨y,h1,h2,h3⟩=>⟨y,h1,h2,h3⟩
 simp only[sVis,wkL,wkD]
 exact⟨row1_wk a,by simp[weakD,chk_iff]⟩
def conRi(a:Arr):Con:=fun k ds _=>match k with
 |108=>match ds with
  | [_,.ref _ xb _]=>some (sVis Arr.row1 xb (fun b=>b=a))
  |_=>none
 |_=>none
theorem conRi_ok{a:Arr}(ha:a.ok):ConOk Tryz.prog (conRi a):=by
 intro k ds S A h
 unfold conRi at h
 split at h
 ·split at h
  ·injection h with h;subst h
   refine ConOk.plain (fun b hb=>?_) rfl rfl
   have hb:b=a:=hb
   rw[hb]
   exact vis1_all a ha _ _
  ·cases h
 ·cases h
noncomputable def Eri(a:Arr):Senv:=EC (conRi a) 16 7 [] (fun _=>([],[]))
noncomputable section
def QoD(a:Arr):Nat:=LN (Arr.sh a)
def Qs8(a:Arr)(b:Nat):List D:=[ZI (GI (Arr.sh a) b)]
def QoE(a:Arr):Nat:=LN (Arr.nu a)
def Qs9(a:Arr)(b:Nat):List D:=[ZI (GI (Arr.nu a) b)]
def QoF(a:Arr):Nat:=LN (Arr.it a)
def Qta(a:Arr)(b:Nat):List D:=Arr.row (GA (Arr.it a) b)
end
theorem ri_ok(a:Arr)(ha:a.ok):ACalls Tryz.prog 93 [.agg a.row1] ⟨[],[]⟩ (SpecR (sC [.agg a.row1] (.int .i64 (chkA a).1)) ()):=by
 refine con_of (A:=sC _ _) (x:=()) (E:=Eri a) (eOk (conRi_ok ha) rfl) Tryz.func93 rfl (by kernel_rfl) rfl (by simp[sC,Eri,EC,E0]) ?_
 refine vc_eq (T :=
  ∀(x:Nat),True→∀(x_1:Nat),x≠x_1∧True→SM x_1∧SM x_1∧SM x∧∃(x:Arr),((Arr.k a=Arr.k x∧(QoD a=QoD x∧(∀(i:Nat),i<QoD a→Qs8 a i=Qs8 x i)∧True)∧(QoE a=QoE x∧(∀(i:Nat),i<QoE a→Qs9 a i=Qs9 x i)∧True)∧(QoF a=QoF x∧(∀(i:Nat),i<QoF a→Qta a i=Qta x i)∧True)∧True)∧SM x_1∧True)∧((SM x_1∧(D.fn (Fn.func (108:Nat)) [] [D.ref (max (N0+N1) N0) x_1 N0]=D.fn (Fn.func (108:Nat)) [] [D.ref N1 x_1 N0]∧True)∧True)∧True)∧x=a∧∀(y:Unit),True→RT (Prod.fst (chkA x)=Prod.fst (chkA a))) (by kernel_rfl) ?_
 delta DA GA GI LN N0 N1 SM Z0 ZI QoD Qs8 QoE Qs9 QoF Qta RT
 intro x _ x1 hx
 exact⟨rfl,rfl,rfl,a,⟨⟨rfl,⟨rfl,fun _ _=>rfl,trivial⟩,⟨rfl,fun _ _=>rfl,trivial⟩,⟨rfl,fun _ _=>rfl,trivial⟩,trivial⟩,rfl,trivial⟩,⟨⟨rfl,⟨rfl,trivial⟩,trivial⟩,trivial⟩,rfl,fun _ _=>⟨trivial,(),trivial,rfl,trivial,trivial⟩⟩
def sizeR(k:Int)(nn ni:Nat):Int:=if k=1∨k=2 then nn else if k=3 then ni else 0
def sRc(row:Arr→List D)(q:Arr→Prop)(r:Arr→D):FnSpec where
 β:=Arr
 α:=Unit
 args:=fun a=>[.agg (row a)]
 st:=fun _=>⟨[],[]⟩
 pre:=q
 post:=fun _ _=>True
 res:=fun a _=>.ret (r a)
 out:=fun _ _=>⟨[],[]⟩
theorem sRc_row{k:Nat}{q q':Arr→Prop}{r:Arr→D}{b:Arr}(h:ACalls Tryz.prog k ((sRc Arr.row2 q r).args b) ⟨[],[]⟩ (SpecR (sRc Arr.row2 q r) b)):ACalls Tryz.prog k ((sRc Arr.row1 q' r).args b) ⟨[],[]⟩ (SpecR (sRc Arr.row1 q' r) b):=by
 refine (h.wkArgs ?_).mono fun _ _ ⟨y,h1,h2,h3⟩=>⟨y,h1,h2,h3⟩
 simp only[sRc,wkL,wkD]
 exact⟨row1_wk b,trivial⟩
set_option maxRecDepth 100000
theorem itoa_ok(n:Int)(h:inI64 n):ACalls Tryz.prog 136 [.int .i64 n] ⟨[],[]⟩ (SpecR (sC [.int .i64 n] (.str (Lib.itoa n))) ()):=by
 refine ACalls.of_shelf_g ⟨_,Tryz.func136,by kernel_rfl,by kernel_rfl⟩ fun C args w ha hG hb=>?_
 obtain ⟨u,e,hu⟩:=repL_one' ha
 have e2:args=[u].toArray:=by rw[← e]
 subst e2
 simp only[Rep] at hu;subst hu
 have:=Tryz.strconv_Itoa n h.1 h.2 w (var_below hG.1 hb)
 exact this.mono fun e w' ⟨h1,k,os,h2⟩=>⟨⟨_,h1,by simp[Rep]⟩,by subst h2;exact Lib.below_grow _ _ (Nat.le_refl _) _ _⟩
def conIt:Con:=fun k ds S=>match k with
 |136=>match ds with
  | [.int .i64 n]=>some (pC [.int .i64 n] (.str (Lib.itoa n)) (inI64 n))
  |_=>none
 |k=>conAr k ds S
theorem conIt_ok:ConOk Tryz.prog conIt:=by
 intro k ds S A h
 unfold conIt at h
 split at h
 ·split at h
  ·injection h with h;subst h
   exact pC_ok fun h1=>⟨weakL_refl _,itoa_ok _ h1⟩
  ·cases h
 ·exact conAr_ok _ _ _ _ h
theorem itoa_len{n:Int}(h:inI64 n):1≤(Lib.itoa n).length∧(Lib.itoa n).length≤21:=by
 have k:∀u,u<18446744073709551616→1≤(Lib.decDigits u).length∧(Lib.decDigits u).length≤20:=fun u hu=>by
  rw[Lib.decDigits_length];exact⟨Lib.nDigits_pos u,Lib.nDigits_le20 u hu⟩
 unfold inI64 at h
 unfold Lib.itoa
 split
 ·have:=k n.natAbs (by omega);simp only[List.length_cons];omega
 ·have:=k n.toNat (by omega);omega
theorem dec_first:∀u,48≤((Lib.decDigits u).getD 0 0).toNat∧((Lib.decDigits u).getD 0 0).toNat≤57
 |u=>by
  rw[Lib.decDigits]
  by_cases hu:u<10
  ·rw[dif_pos hu,List.getD_cons_zero,UInt8.toNat_ofNat'];omega
  ·rw[dif_neg hu]
   have:=dec_first (u / 10)
   have hl:1≤(Lib.decDigits (u / 10)).length:=by rw[Lib.decDigits_length];exact Lib.nDigits_pos _
   rw[List.getD_eq_getElem?_getD,List.getElem?_append_left (l₁:=Lib.decDigits (u / 10)) (i:=0) (by omega),← List.getD_eq_getElem?_getD]
   exact this
termination_by u=>u
decreasing_by omega
theorem itoa_sign{n:Int}(_:inI64 n)(e:(((Lib.itoa n).getD 0 0).toNat:Int)=45):n<0:=by
 unfold Lib.itoa at e
 split at e
 ·assumption
 ·have:=dec_first n.toNat
  omega
def showI(n:Int):List UInt8:=if n<0 then 95::Lib.decDigits n.natAbs else Lib.decDigits n.toNat
noncomputable def Esh(_n:Int):Senv:=EC conIt 13 1 [2,3,8] (fun _=>([],[]))
noncomputable section
def Qtb(a:Int):List UInt8:=List.drop N1 (List.take (TL (Lib.itoa a)) (Lib.itoa a))
end
theorem show_ok(n:Int)(h:inI64 n):ACalls Tryz.prog 112 [.int .i64 n] ⟨[],[]⟩ (SpecR (sC [.int .i64 n] (.str (showI n))) ()):=by
 refine con_of (A:=sC _ _) (x:=()) (E:=Esh n) (eOk conIt_ok rfl) Tryz.func112 rfl (by kernel_rfl) rfl (by simp[sC,Esh,EC,E0]) ?_
 refine vc_eq (T :=
  inI64 n∧∀(y:Unit),True→side (Z0≤Z0∧Z0<(LI (Lib.itoa n))) (ifB ((BI (Lib.itoa n) N0)==(45:Int)) (side (Z0≤Z1∧Z1≤(LI (Lib.itoa n))∧(LI (Lib.itoa n))≤(LI (Lib.itoa n))) (side (N1+LN (Qtb n)≤(9223372036854775807:Nat)) (RT ((95:UInt8)::List.append [] (Qtb n)=showI n)))) (RT (Lib.itoa n=showI n)))) (by kernel_rfl) ?_
 delta BI LI LN N0 N1 TL U0 Z0 Z1 Qtb RT
 refine⟨h,fun _ _=>?_⟩
 have hl:=itoa_len h
 rw[side_iff]
 refine⟨by omega,?_⟩
 simp only[side_iff,ifB_iff,beq_iff_eq,beq_eq_false_iff_ne,Int.toNat_natCast,List.take_length,true_and,and_true,exists_const]
 refine⟨fun e=>⟨by omega,?_,?_⟩,fun e=>?_⟩
 ·rw[List.length_drop];omega
 ·have hn:n<0:=itoa_sign h (by omega)
  simp only[showI,Lib.itoa,if_pos hn];rfl
 ·have hn:¬n<0:=fun hn=>by
   have:((Lib.itoa n).getD 0 0).toNat=45:=by simp[Lib.itoa,if_pos hn]
   have e:¬(((Lib.itoa n).getD 0 0).toNat:Int)=45:=by simpa using e
   omega
  simp only[showI,Lib.itoa,if_neg hn]
theorem showI_len{n:Int}(h:inI64 n):1≤(showI n).length∧(showI n).length≤21:=by
 have:=itoa_len h
 unfold showI;unfold Lib.itoa at this
 split<;>simp_all
theorem tdiv10(n:Int):n.tdiv 10=if n<0 then -((n.natAbs / 10:Nat):Int) else ((n.natAbs / 10:Nat):Int):=by
 cases n with
 |ofNat k=>rw[if_neg (by simp)];rfl
 |negSucc k=>rw[if_pos (Int.negSucc_lt_zero k)];rfl
theorem tmod10(n:Int):n.tmod 10=if n<0 then -((n.natAbs % 10:Nat):Int) else ((n.natAbs % 10:Nat):Int):=by
 cases n with
 |ofNat k=>rw[if_neg (by simp)];rfl
 |negSucc k=>rw[if_pos (Int.negSucc_lt_zero k)];rfl
theorem dig10:∀k,k<10→List.drop k (List.take (k+1) [48,49,50,51,52,53,54,55,56,57])=[UInt8.ofNat (48+k)]:=by decide
theorem showI_step{n:Int}(h:10≤n.natAbs):showI n=showI (n.tdiv 10)++[UInt8.ofNat (48+n.natAbs % 10)]:=by
 have e:∀u,10≤u→Lib.decDigits u=Lib.decDigits (u / 10)++[UInt8.ofNat (48+u % 10)]:=fun u hu=>by
  rw[Lib.decDigits,dif_neg (by omega)]
 unfold showI
 by_cases hn:n<0
 ·have h2:n.tdiv 10 = -((n.natAbs / 10:Nat):Int):=by rw[tdiv10,if_pos hn]
  have h1:n.tdiv 10<0:=by omega
  rw[if_pos hn,if_pos h1,e _ h,show (n.tdiv 10).natAbs=n.natAbs / 10 by omega];rfl
 ·have h2:n.tdiv 10=((n.natAbs / 10:Nat):Int):=by rw[tdiv10,if_neg hn]
  have h1:¬n.tdiv 10<0:=by omega
  rw[if_neg hn,if_neg h1,e n.toNat (by omega),show (n.tdiv 10).toNat=n.toNat / 10 by omega,show n.toNat=n.natAbs by omega]
def conRs(z:Nat):Con:=fun k ds _S=>match k with
 |156=>match ds with
  | [.int .i64 n]=>some (pC [.int .i64 n] (.str (showI n)) (inI64 n∧n.natAbs<z))
  |_=>none
 |_k=>none
noncomputable def Ers(z:Nat):Senv:=EC (conRs z) 41 1 [2,3,4,10,23] (fun id=>match id with | 7=>([0,1,3,4,5,6,7,2,8,9],[2]) | _=>([],[]))
noncomputable section
def QoG(a:Int):Bool:=bif decide ((-10:Int)<a) then decide (a<Z0) else false
def QkD:List UInt8:=[(48:UInt8),(49:UInt8),(50:UInt8),(51:UInt8),(52:UInt8),(53:UInt8),(54:UInt8),(55:UInt8),(56:UInt8),(57:UInt8)]
def Qtc(a:Int):List UInt8:=List.drop (Int.toNat (IntKind.wrap IntKind.i64 (Z0-a))) (List.take (Int.toNat (IntKind.wrap IntKind.i64 (Z1-a))) QkD)
def QkE(a:Int):List UInt8:=showI a
def QoH(a:Int):Bool:=bif decide (Z0≤a) then decide (a<(10:Int)) else false
def QkF(a:Int):Int:=IntKind.wrap IntKind.i64 (Z0-Int.tmod a (10:Int))
def QoI(a:Int):Int:=IntKind.wrap IntKind.i64 (QkF a+Z1)
def Qtd(a:Int):Prop:=inI64 (IntKind.wrap IntKind.i64 (Int.tdiv a (10:Int)))∧Int.natAbs (IntKind.wrap IntKind.i64 (Int.tdiv a (10:Int)))<Int.natAbs a
def QoJ(a:Int):List UInt8:=showI (IntKind.wrap IntKind.i64 (Int.tdiv a (10:Int)))
def Qte(a:Int):Nat:=LN (QoJ a)
def Qtf(a:Int):List UInt8:=List.drop (Int.toNat (QkF a)) (List.take (Int.toNat (QoI a)) QkD)
def QoK(a:Int):Int:=IntKind.wrap IntKind.i64 (Int.tmod a (10:Int)+Z1)
def Qtg(a:Int):List UInt8:=List.drop (Int.toNat (Int.tmod a (10:Int))) (List.take (Int.toNat (QoK a)) QkD)
end
theorem rs_step(n:Int)(h:inI64 n)(hc:ConOk Tryz.prog (conRs n.natAbs)):ACalls Tryz.prog 156 [.int .i64 n] ⟨[],[]⟩ (SpecR (sC [.int .i64 n] (.str (showI n))) ()):=by
 refine con_of (A:=sC _ _) (x:=()) (E:=Ers n.natAbs) (eOk hc rfl) Tryz.func156 rfl (by kernel_rfl) rfl (by simp[sC,Ers,EC,E0]) ?_
 refine vc_eq (T :=
  ifB (decide ((-10:Int)<n)) (decide (n<Z0)=QoG n∧True) (false=QoG n∧True)∧ifB (QoG n) (side (Z0≤IntKind.wrap IntKind.i64 (Z0-n)∧IntKind.wrap IntKind.i64 (Z0-n)≤IntKind.wrap IntKind.i64 (Z1-n)∧IntKind.wrap IntKind.i64 (Z1-n)≤(10:Int)) (side (N1+LN (Qtc n)≤(9223372036854775807:Nat)) (RT ((95:UInt8)::List.append [] (Qtc n)=QkE n)))) (ifB (decide (Z0≤n)) (decide (n<(10:Int))=QoH n∧True) (false=QoH n∧True)∧ifB (QoH n) (side (Z0≤n∧n≤IntKind.wrap IntKind.i64 (n+Z1)∧IntKind.wrap IntKind.i64 (n+Z1)≤(10:Int)) (RT (List.drop (Int.toNat n) (List.take (Int.toNat (IntKind.wrap IntKind.i64 (n+Z1))) QkD)=QkE n))) (ifB (decide (Int.tmod n (10:Int)<Z0)) (True∧side (Z0≤QkF n∧QkF n≤QoI n∧QoI n≤(10:Int)) (Qtd n∧∀(y:Unit),True→side (Qte n+LN (Qtf n)≤(9223372036854775807:Nat)) (RT (QoJ n++Qtf n=QkE n)))) (True∧side (Z0≤Int.tmod n (10:Int)∧Int.tmod n (10:Int)≤QoK n∧QoK n≤(10:Int)) (Qtd n∧∀(y:Unit),True→side (Qte n+LN (Qtg n)≤(9223372036854775807:Nat)) (RT (QoJ n++Qtg n=QkE n))))))) (by kernel_rfl) ?_
 delta LN N1 Z0 Z1 QoG Qte Qtf QoK Qtg QkD Qtc QkE QoH QkF QoI Qtd QoJ RT
 have h':=h
 unfold inI64 at h'
 have hd:=tdiv10 n
 have ho:=tmod10 n
 simp only[ifB_iff,Bool.cond_false_right,Bool.and_eq_true,Bool.and_eq_false_iff,decide_eq_true_eq,decide_eq_false_iff_not,true_and,and_true,exists_const,forall_const]
 refine⟨⟨fun h=>by simp[h],fun h=>by simp[h]⟩,fun ⟨h1,h2⟩=>?_,fun h1=>⟨⟨fun h=>by simp[h],fun h=>by simp[h]⟩,fun ⟨h2,h3⟩=>?_,fun h2=>?_⟩⟩
 ·have e1:IntKind.i64.wrap (0-n)=(n.natAbs:Int):=by rw[wrap_i64' (by omega) (by omega)];omega
  have e2:IntKind.i64.wrap (1-n)=((n.natAbs+1:Nat):Int):=by rw[wrap_i64' (by omega) (by omega)];omega
  rw[e1,e2]
  rw[side_iff]
  refine⟨by omega,?_⟩
  rw[Int.toNat_natCast,Int.toNat_natCast,dig10 _ (by omega)]
  rw[side_iff]
  refine⟨by simp,?_⟩
  unfold showI
  rw[if_pos h2,Lib.decDigits_one (by omega)];rfl
 ·have e2:IntKind.i64.wrap (n+1)=n+1:=wrap_i64' (by omega) (by omega)
  rw[e2]
  rw[side_iff]
  refine⟨by omega,?_⟩
  rw[show (n+1).toNat=n.toNat+1 by omega,dig10 _ (by omega)]
  unfold showI
  rw[if_neg (by omega),Lib.decDigits_one (by omega)]
 ·have hb:10≤n.natAbs:=by omega
  have e0:IntKind.i64.wrap (n.tdiv 10)=n.tdiv 10:=by
   refine wrap_i64' ?_ ?_<;>(rw[hd];split<;>omega)
  have i0:inI64 (n.tdiv 10)∧(n.tdiv 10).natAbs<n.natAbs:=by
   unfold inI64;rw[hd];split<;>omega
  have hl:=(showI_len i0.1).2
  refine⟨fun h3=>?_,fun h3=>?_⟩
  ·have hn:n<0:=by
    by_cases hn:n<0
    ·exact hn
    ·rw[ho,if_neg hn] at h3;omega
   rw[if_pos hn] at ho
   have e1:IntKind.i64.wrap (0-n.tmod 10)=((n.natAbs % 10:Nat):Int):=by rw[wrap_i64' (by omega) (by omega)];omega
   have e2:IntKind.i64.wrap (((n.natAbs % 10:Nat):Int)+1)=((n.natAbs % 10+1:Nat):Int):=by rw[wrap_i64' (by omega) (by omega)];omega
   rw[e1,e2,e0]
   rw[side_iff]
   refine⟨by omega,i0,?_⟩
   rw[Int.toNat_natCast,Int.toNat_natCast,dig10 _ (by omega)]
   rw[side_iff]
   exact⟨by simp only[List.length_cons,List.length_nil];omega,(showI_step hb).symm⟩
  ·have e1:n.tmod 10=((n.natAbs % 10:Nat):Int):=by
    rw[ho];split
    ·rename_i hn;rw[ho,if_pos hn] at h3;omega
    ·rfl
   have e2:IntKind.i64.wrap (((n.natAbs % 10:Nat):Int)+1)=((n.natAbs % 10+1:Nat):Int):=by rw[wrap_i64' (by omega) (by omega)];omega
   rw[e1,e2,e0]
   rw[side_iff]
   refine⟨by omega,i0,?_⟩
   rw[Int.toNat_natCast,Int.toNat_natCast,dig10 _ (by omega)]
   rw[side_iff]
   exact⟨by simp only[List.length_cons,List.length_nil];omega,(showI_step hb).symm⟩
theorem rs_ok:∀(z:Nat) (n:Int),inI64 n→n.natAbs<z→ACalls Tryz.prog 156 [.int .i64 n] ⟨[],[]⟩ (SpecR (sC [.int .i64 n] (.str (showI n))) ())
 |0,_,_,hz=>absurd hz (by omega)
 |z+1,n,h,hz=>rs_step n h (by
  intro k ds S A hk
  unfold conRs at hk
  split at hk
  ·split at hk
   ·injection hk with hk;subst hk
    exact pC_ok fun ⟨h1,h2⟩=>⟨weakL_refl _,rs_ok z _ h1 (by omega)⟩
   ·cases hk
  ·cases hk)
theorem rshow_ok(n:Int)(h:inI64 n):ACalls Tryz.prog 156 [.int .i64 n] ⟨[],[]⟩ (SpecR (sC [.int .i64 n] (.str (showI n))) ()):=rs_ok _ n h (Nat.lt_succ_self _)
def conNu:Con:=fun k ds S=>match k with
 |112=>match ds with
  | [.int .i64 n]=>some (pC [.int .i64 n] (.str (showI n)) (inI64 n))
  |_=>none
 |156=>match ds with
  | [.int .i64 n]=>some (pC [.int .i64 n] (.str (showI n)) (inI64 n))
  |_=>none
 |k=>conIt k ds S
theorem conNu_ok:ConOk Tryz.prog conNu:=by
 intro k ds S A h
 unfold conNu at h
 split at h
 ·split at h
  ·injection h with h;subst h
   exact pC_ok fun h1=>⟨weakL_refl _,show_ok _ h1⟩
  ·cases h
 ·split at h
  ·injection h with h;subst h
   exact pC_ok fun h1=>⟨weakL_refl _,rshow_ok _ h1⟩
  ·cases h
 ·exact conIt_ok _ _ _ _ h
theorem gTz : Tryz.prog.globalNamed "math/bits.deBruijn64tab" = some 3 := by kernel_rfl
theorem tz_walk(w:World)(hc:w.cell? ⟨3,(IntKind.u64.wrap (bits BinOp.and IntKind.u64 16 (IntKind.u64.wrap (-16))*285870213051353865) / 288230376151711744).toNat,none⟩=some (.int .u8 4)):Calls Tryz.prog 172 #[.int .u64 16] w fun e w'=>e=.returned (.int .i64 4)∧Go.RowKit.Below w.heap.size w w':=by
 go_enter Tryz.func172,Tryz.ntmps172
 go_wp2
 all_goals go_ret
 all_goals exact⟨rfl,Go.RowKit.Below.refl _ _⟩
theorem tz_ok:ACalls Tryz.prog 172 [.int .u64 16] ⟨[],[]⟩ (SpecR (sC [.int .u64 16] (.int .i64 4)) ()):=by
 refine ACalls.of_shelf_g ⟨_,Tryz.func172,by kernel_rfl,by kernel_rfl⟩ fun C args w ha hG hb=>?_
 obtain ⟨u,e,hu⟩:=repL_one' ha
 have e2:args=[u].toArray:=by rw[← e]
 subst e2
 simp only[Rep] at hu;subst hu
 have ht : Lib.TabIs Tryz.prog w "math/bits.deBruijn64tab" .u8 (Lib.deBruijn64tab.map Int.ofNat) := var_below hG.2.1 hb
 have hc:=ht.cell gTz 15 (by decide)
 exact (tz_walk w hc).mono fun e w' ⟨h1,h2⟩=>⟨⟨_,h1,by simp[Rep]⟩,h2⟩
def conTz:Con:=fun k ds S=>match k with
 |172=>some (pC ds (.int .i64 4) (weakL ds [.int .u64 16]))
 |k=>conIt k ds S
theorem conTz_ok:ConOk Tryz.prog conTz:=by
 intro k ds S A h
 unfold conTz at h
 split at h
 ·injection h with h;subst h
  exact pC_ok fun h1=>⟨weakL_refl _,sC_weak h1 tz_ok⟩
 ·exact conIt_ok _ _ _ _ h
def digU(k:Nat):UInt8:=[48,49,50,51,52,53,54,55,56,57,97,98,99,100,101,102].getD k 0
def hexN(n:Nat):List UInt8:=if n<16 then [digU n] else [digU (n / 16),digU (n % 16)]
noncomputable def Ehb:Senv:={ EC conTz 102 5 [10,11,12,13,14,15,16,17,18,28,30,34,46,68,89,94] (fun _=>([],[])) with unr:=fun b=>match b with | 0=>2 | _=>0 }
noncomputable section
def QoL:List UInt8:=[(48:UInt8),(49:UInt8),(50:UInt8),(51:UInt8),(52:UInt8),(53:UInt8),(54:UInt8),(55:UInt8),(56:UInt8),(57:UInt8),(97:UInt8),(98:UInt8),(99:UInt8),(100:UInt8),(101:UInt8),(102:UInt8),(103:UInt8),(104:UInt8),(105:UInt8),(106:UInt8),(107:UInt8),(108:UInt8),(109:UInt8),(110:UInt8),(111:UInt8),(112:UInt8),(113:UInt8),(114:UInt8),(115:UInt8),(116:UInt8),(117:UInt8),(118:UInt8),(119:UInt8),(120:UInt8),(121:UInt8),(122:UInt8)]
def Qth(a:Int):Int:=(BI QoL (Int.toNat (Int.fdiv a (16:Int))))
def Qti(a:Int):Int:=(BI QoL (Int.toNat (andI IntKind.u64 a (15:Int))))
def Qtj(a:Int):List D:=[ZB (Qth a),ZB (Qti a)]
def Qa:D:=ZB Z0
def Qtk:Prop:=SM N0∧(∀(i:Nat),i<N0→eqOf (List D) [] [])∧True
def Qtl(a:Int):Int:=(BI QoL (Int.toNat a))
def Qtm(a:Int):List D:=[ZB (Qtl a)]
end
theorem hexb_ok(n:Int)(h:0≤n∧n<128):ACalls Tryz.prog 167 [.sl 1 0 (fun _=>[]) .nil,.int .u64 n,.int .i64 16,.bool false,.bool false] ⟨[],[]⟩ (SpecR (sC [.sl 1 0 (fun _=>[]) .nil,.int .u64 n,.int .i64 16,.bool false,.bool false] (.tup [.sl 1 0 (fun _=>[]) .nil,.str (hexN n.toNat)])) ()):=by
 refine con_of (A:=sC _ _) (x:=()) (E:=Ehb) (eOk conTz_ok rfl) Tryz.func167 rfl (by kernel_rfl) rfl (by simp[sC,Ehb,EC,E0]) ?_
 refine vc_eq (T :=
  (SM false∧True)∧∀(x:Nat),True→True∧(SM (16:Int)∧True)∧∀(y:Unit),True→ifB (decide ((16:Int)≤n)) (side (Z0≤andI IntKind.u64 n (15:Int)∧andI IntKind.u64 n (15:Int)<(36:Int)) (SM x∧ifB (decide ((16:Int)≤Int.fdiv n (16:Int))) (side (Z0≤andI IntKind.u64 (Int.fdiv n (16:Int)) (15:Int)∧andI IntKind.u64 (Int.fdiv n (16:Int)) (15:Int)<(36:Int)) (SM x∧False)) (side (Z0≤Int.fdiv n (16:Int)∧Int.fdiv n (16:Int)<(36:Int)) (SM x∧True∧SM x∧chk (List.all (Qtj n) byteB&&decide (LN (List.take N2 (List.drop (63:Nat) (Qa::Qa::Qa::Qa::Qa::Qa::Qa::Qa::Qa::Qa::Qa::Qa::Qa::Qa::Qa::Qa::Qa::Qa::Qa::Qa::Qa::Qa::Qa::Qa::Qa::Qa::Qa::Qa::Qa::Qa::Qa::Qa::Qa::Qa::Qa::Qa::Qa::Qa::Qa::Qa::Qa::Qa::Qa::Qa::Qa::Qa::Qa::Qa::Qa::Qa::Qa::Qa::Qa::Qa::Qa::Qa::Qa::Qa::Qa::Qa::Qa::Qa::Qa::Qtj n)))=N2)) (True∧∃(y:Unit),True∧(Qtk∧[UInt8.ofNat (Int.toNat (Qth n)),UInt8.ofNat (Int.toNat (Qti n))]=hexN (Int.toNat n)∧True)∧True∧True))))) (side (Z0≤n∧n<(36:Int)) (SM x∧True∧SM x∧chk (List.all (Qtm n) byteB&&decide (LN (List.take N1 (List.drop (64:Nat) (Qa::Qa::Qa::Qa::Qa::Qa::Qa::Qa::Qa::Qa::Qa::Qa::Qa::Qa::Qa::Qa::Qa::Qa::Qa::Qa::Qa::Qa::Qa::Qa::Qa::Qa::Qa::Qa::Qa::Qa::Qa::Qa::Qa::Qa::Qa::Qa::Qa::Qa::Qa::Qa::Qa::Qa::Qa::Qa::Qa::Qa::Qa::Qa::Qa::Qa::Qa::Qa::Qa::Qa::Qa::Qa::Qa::Qa::Qa::Qa::Qa::Qa::Qa::Qa::Qtm n)))=N1)) (True∧∃(y:Unit),True∧(Qtk∧[UInt8.ofNat (Int.toNat (Qtl n))]=hexN (Int.toNat n)∧True)∧True∧True)))) (by kernel_rfl) ?_
 delta BI LN N0 N1 N2 SM U0 Z0 ZB QoL Qth Qti Qtj Qa Qtk Qtl Qtm
 obtain ⟨m,rfl⟩:∃m:Nat,n=m:=⟨n.toNat,by omega⟩
 have hm:m<128:=by omega
 refine⟨⟨rfl,trivial⟩,fun x _=>⟨trivial,⟨rfl,trivial⟩,fun _ _=>?_⟩⟩
 simp only[ifB_iff,side_iff,chk_iff,true_and,and_true,exists_const,decide_eq_true_eq,decide_eq_false_iff_not,Bool.and_eq_true,Int.toNat_natCast,and_false,implies_true]
 have ha:andI .u64 (m:Int) 15=((m % 16:Nat):Int):=by
  have h1:andI .u64 (m:Int) ((15:Nat):Int)=((m &&& 15:Nat):Int):=andI_nat rfl (by simp only[IntKind.bits];omega) (by simp only[IntKind.bits];omega)
  rw[show ((15:Nat):Int)=15 from rfl] at h1
  rw[h1,show (15:Nat)=2 ^ 4-1 from rfl,Nat.and_two_pow_sub_one_eq_mod]
 have hf:(m:Int).fdiv 16=((m / 16:Nat):Int):=fdiv_nat m 16
 have hd:∀k,k<16→([48,49,50,51,52,53,54,55,56,57,97,98,99,100,101,102,103,104,105,106,107,108,109,110,111,112,113,114,115,116,117,118,119,120,121,122]:List UInt8).getD k 0=digU k:=by decide
 have hb:∀b:UInt8,byteB (.int .u8 (b.toNat:Int))=true:=fun b=>by
  have:=b.toNat_lt
  simp only[byteB,Bool.and_eq_true,decide_eq_true_eq];omega
 simp only[ha,hf,Int.toNat_natCast]
 refine⟨fun h16=>⟨by omega,by omega,fun _=>⟨by omega,⟨?_,rfl⟩,?_⟩⟩,fun h16=>⟨by omega,⟨?_,rfl⟩,?_⟩⟩
 ·rw[hd _ (by omega),hd _ (by omega)];simp only[List.all_cons,List.all_nil,hb];rfl
 ·rw[hd _ (by omega),hd _ (by omega)];simp only[UInt8.ofNat_toNat];unfold hexN;rw[if_neg (by omega)]
 ·rw[hd _ (by omega)];simp only[List.all_cons,List.all_nil,hb];rfl
 ·rw[hd _ (by omega)];simp only[UInt8.ofNat_toNat];unfold hexN;rw[if_pos (by omega)]
def conHb:Con:=fun k ds S=>match k with
 |167=>match ds with
  | [_,.int .u64 n,_,_,_]=>some (pC ds (.tup [.sl 1 0 (fun _=>[]) .nil,.str (hexN n.toNat)]) (weakL ds [.sl 1 0 (fun _=>[]) .nil,.int .u64 n,.int .i64 16,.bool false,.bool false]∧0≤n∧n<128))
  |_=>none
 |k=>conNu k ds S
theorem conHb_ok:ConOk Tryz.prog conHb:=by
 intro k ds S A h
 unfold conHb at h
 split at h
 ·split at h
  ·injection h with h;subst h
   exact pC_ok fun h1=>⟨weakL_refl _,sC_weak h1.1 (hexb_ok _ h1.2)⟩
  ·cases h
 ·exact conNu_ok _ _ _ _ h
noncomputable def Ehx:Senv:=EC conHb 8 2 [4] (fun _=>([],[]))
theorem hex_ok(n:Int)(h:0≤n∧n<128):ACalls Tryz.prog 155 [.int .i64 n,.int .i64 16] ⟨[],[]⟩ (SpecR (sC [.int .i64 n,.int .i64 16] (.str (hexN n.toNat))) ()):=by
 refine con_of (A:=sC _ _) (x:=()) (E:=Ehx) (eOk conHb_ok rfl) Tryz.func155 rfl (by kernel_rfl) rfl (by simp[sC,Ehx,EC,E0]) ?_
 refine vc_eq (T :=
  (((SM N0∧(∀(i:Nat),i<N0→eqOf (List D) [] [])∧True)∧SM (IntKind.wrap IntKind.u64 n)∧SM (16:Int)∧decide (n<Z0)=false∧SM false∧True)∧Z0≤IntKind.wrap IntKind.u64 n∧IntKind.wrap IntKind.u64 n<(128:Int))∧∀(y:Unit),True→True∧RT (hexN (Int.toNat (IntKind.wrap IntKind.u64 n))=hexN (Int.toNat n))) (by kernel_rfl) ?_
 delta N0 SM Z0 RT
 have e:IntKind.u64.wrap n=n:=by rw[IntKind.wrap_u64];omega
 have e1:decide (n<0)=false:=by simp;omega
 simp only[e,e1]
 simpa using h
mutual
inductive Nd where
 |mk (kd at_ cl:Int) (tx:List UInt8) (pr op:Int) (va:Arr) (ki:List Nd) (bo:List Sm) (de sl ss:Int)
inductive Sm where
 |mk (kd at_:Int) (nm:List UInt8) (sl:Int) (te nd:Nd)
end
def Nd.kd:Nd→Int | .mk x _ _ _ _ _ _ _ _ _ _ _=>x
def Nd.at_:Nd→Int | .mk _ x _ _ _ _ _ _ _ _ _ _=>x
def Nd.cl:Nd→Int | .mk _ _ x _ _ _ _ _ _ _ _ _=>x
def Nd.tx:Nd→List UInt8 | .mk _ _ _ x _ _ _ _ _ _ _ _=>x
def Nd.pr:Nd→Int | .mk _ _ _ _ x _ _ _ _ _ _ _=>x
def Nd.op:Nd→Int | .mk _ _ _ _ _ x _ _ _ _ _ _=>x
def Nd.va:Nd→Arr | .mk _ _ _ _ _ _ x _ _ _ _ _=>x
def Nd.ki:Nd→List Nd | .mk _ _ _ _ _ _ _ x _ _ _ _=>x
def Nd.bo:Nd→List Sm | .mk _ _ _ _ _ _ _ _ x _ _ _=>x
def Nd.de:Nd→Int | .mk _ _ _ _ _ _ _ _ _ x _ _=>x
def Nd.sl:Nd→Int | .mk _ _ _ _ _ _ _ _ _ _ x _=>x
def Nd.ss:Nd→Int | .mk _ _ _ _ _ _ _ _ _ _ _ x=>x
def Sm.kd:Sm→Int | .mk x _ _ _ _ _=>x
def Sm.at_:Sm→Int | .mk _ x _ _ _ _=>x
def Sm.nm:Sm→List UInt8 | .mk _ _ x _ _ _=>x
def Sm.sl:Sm→Int | .mk _ _ _ x _ _=>x
def Sm.te:Sm→Nd | .mk _ _ _ _ x _=>x
def Sm.nd:Sm→Nd | .mk _ _ _ _ _ x=>x
def nd0:Nd:=.mk 0 0 0 [] 0 0 (.mk 0 [] [] []) [] [] 0 0 0
instance:Inhabited Nd:=⟨nd0⟩
instance:Inhabited Sm:=⟨.mk 0 0 [] 0 nd0 nd0⟩
def lsl(w:Nat)(l:List (List D)):D:=.sl w l.length (fun i=>l.getD i []) .any
mutual
def Nd.row:Nd→List D
 |.mk kd at_ cl tx pr op va ki bo de sl ss=>[.int .i64 kd,.int .i64 at_,.int .i64 cl,.str tx,.int .i64 pr,.int .i64 op,.int .i64 va.k,isl va.sh .any,isl va.nu .any,gsl 4 Arr.row va.it,lsl 15 (ndRows ki),lsl 34 (smRows bo),.int .i64 de,.int .i64 sl,.int .i64 ss]
def Sm.row:Sm→List D
 |.mk kd at_ nm sl te nd=>.int .i64 kd::.int .i64 at_::.str nm::.int .i64 sl::(te.row++nd.row)
def ndRows:List Nd→List (List D)
 | []=>[]
 |x::r=>x.row::ndRows r
def smRows:List Sm→List (List D)
 | []=>[]
 |x::r=>x.row::smRows r
end
mutual
def Nd.ok:Nd→Prop
 |.mk kd at_ cl _ pr op va ki bo de sl ss=>(inI64 kd∧inI64 at_∧inI64 cl∧inI64 pr∧inI64 op∧inI64 de∧inI64 sl∧inI64 ss)∧va.ok∧ndsOk ki∧smsOk bo
def Sm.ok:Sm→Prop
 |.mk kd at_ _ sl te nd=>(inI64 kd∧inI64 at_∧inI64 sl)∧te.ok∧nd.ok
def ndsOk:List Nd→Prop
 | []=>True
 |x::r=>x.ok∧ndsOk r
def smsOk:List Sm→Prop
 | []=>True
 |x::r=>x.ok∧smsOk r
end
mutual
/-- Nothing in it is longer than a machine's memory. -/
def Nd.sm:Nd→Prop
 |.mk _ _ _ tx _ _ va ki bo _ _ _=>(tx.length≤maxB∧ki.length≤maxB∧bo.length≤maxB)∧va.sm∧ndsSm ki∧smsSm bo
def Sm.sm:Sm→Prop
 |.mk _ _ nm _ te nd=>nm.length≤maxB∧te.sm∧nd.sm
def ndsSm:List Nd→Prop
 | []=>True
 |x::r=>x.sm∧ndsSm r
def smsSm:List Sm→Prop
 | []=>True
 |x::r=>x.sm∧smsSm r
end
theorem ndRows_map:∀(l:List Nd),ndRows l=l.map Nd.row
 | []=>by simp only[ndRows,List.map_nil]
 |a::l=>by simp only[ndRows,List.map_cons,ndRows_map l]
theorem smRows_map:∀(l:List Sm),smRows l=l.map Sm.row
 | []=>by simp only[smRows,List.map_nil]
 |a::l=>by simp only[smRows,List.map_cons,smRows_map l]
theorem ndsOk_iff:∀(l:List Nd),ndsOk l↔∀a∈l,a.ok
 | []=>by simp[ndsOk]
 |a::l=>by simp only[ndsOk,List.forall_mem_cons,ndsOk_iff l]
theorem smsOk_iff:∀(l:List Sm),smsOk l↔∀a∈l,a.ok
 | []=>by simp[smsOk]
 |a::l=>by simp only[smsOk,List.forall_mem_cons,smsOk_iff l]
theorem ndsSm_iff:∀(l:List Nd),ndsSm l↔∀a∈l,a.sm
 | []=>by simp[ndsSm]
 |a::l=>by simp only[ndsSm,List.forall_mem_cons,ndsSm_iff l]
theorem smsSm_iff:∀(l:List Sm),smsSm l↔∀a∈l,a.sm
 | []=>by simp[smsSm]
 |a::l=>by simp only[smsSm,List.forall_mem_cons,smsSm_iff l]
def Nd.rowE(n:Nd):List D:=[.int .i64 n.kd,.int .i64 n.at_,.int .i64 n.cl,.str n.tx,.int .i64 n.pr,.int .i64 n.op,.int .i64 n.va.k,isl n.va.sh .any,isl n.va.nu .any,gsl 4 Arr.row n.va.it,gsl 15 Nd.row n.ki,gsl 34 Sm.row n.bo,.int .i64 n.de,.int .i64 n.sl,.int .i64 n.ss]
def Nd.row1(n:Nd):List D:=n.rowE
def Sm.row1(s:Sm):List D:=.int .i64 s.kd::.int .i64 s.at_::.str s.nm::.int .i64 s.sl::(s.te.rowE++s.nd.rowE)
def Nd.row2(n:Nd):List D:=[.int .i64 n.kd,.int .i64 n.at_,.int .i64 n.cl,.str n.tx,.int .i64 n.pr,.int .i64 n.op,.int .i64 n.va.k,isl n.va.sh .any,isl n.va.nu .any,gsl 4 Arr.row n.va.it,gsl 15 Nd.row1 n.ki,gsl 34 Sm.row1 n.bo,.int .i64 n.de,.int .i64 n.sl,.int .i64 n.ss]
def Sm.row2(s:Sm):List D:=.int .i64 s.kd::.int .i64 s.at_::.str s.nm::.int .i64 s.sl::(s.te.row2++s.nd.row2)
theorem wkL_app:∀ {a a' b b':List D},wkL a a'→wkL b b'→wkL (a++b) (a'++b')
 | [],[],_,_,_,h=>h
 | [],_::_,_,_,h,_=>by simp[wkL] at h
 |_::_,[],_,_,h,_=>by simp[wkL] at h
 |x::a,y::a',b,b',h,h2=>by
  simp only[wkL,List.cons_append] at h ⊢
  exact⟨h.1,wkL_app h.2 h2⟩
theorem lsl_wk{α:Type}[Inhabited α]{w:Nat}{g:α→List D}{l:List α}:wkD (lsl w (l.map g)) (gsl w g l):=by
 simp only[lsl,gsl,wkD,chk_iff]
 refine⟨by simp,by simp,fun i hi=>?_,by simp[weakM]⟩
 have hi:i<l.length:=by simpa using hi
 have:(l.map g).getD i []=g (l.getD i default):=by simp[List.getD_eq_getElem?_getD,hi]
 rw[this]
 exact wkL_refl _
theorem gsl_wk{α:Type}[Inhabited α]{w:Nat}{g g':α→List D}{l:List α}(h:∀x,wkL (g x) (g' x)):wkD (gsl w g l) (gsl w g' l):=by
 simp only[gsl,wkD,chk_iff]
 exact⟨by simp,trivial,fun i _=>h _,by simp[weakM]⟩
theorem nd_wk(n:Nd):wkL n.row n.row1:=by
 cases n with
 |mk kd at_ cl tx pr op va ki bo de sl ss =>
  simp only[Nd.row,Nd.row1,Nd.rowE,Nd.kd,Nd.at_,Nd.cl,Nd.tx,Nd.pr,Nd.op,Nd.va,Nd.ki,Nd.bo,Nd.de,Nd.sl,Nd.ss,wkL,ndRows_map,smRows_map]
  exact⟨wkD_refl _,wkD_refl _,wkD_refl _,wkD_refl _,wkD_refl _,wkD_refl _,wkD_refl _,wkD_refl _,wkD_refl _,wkD_refl _,lsl_wk,lsl_wk,wkD_refl _,wkD_refl _,wkD_refl _,trivial⟩
theorem sm_wk(s:Sm):wkL s.row s.row1:=by
 cases s with
 |mk kd at_ nm sl te nd =>
  simp only[Sm.row,Sm.row1,Sm.kd,Sm.at_,Sm.nm,Sm.sl,Sm.te,Sm.nd,wkL]
  exact⟨wkD_refl _,wkD_refl _,wkD_refl _,wkD_refl _,wkL_app (nd_wk _) (nd_wk _)⟩
theorem nd1_wk(n:Nd):wkL n.row1 n.row2:=by
 simp only[Nd.row1,Nd.rowE,Nd.row2,wkL]
 exact⟨wkD_refl _,wkD_refl _,wkD_refl _,wkD_refl _,wkD_refl _,wkD_refl _,wkD_refl _,wkD_refl _,wkD_refl _,wkD_refl _,gsl_wk nd_wk,gsl_wk sm_wk,wkD_refl _,wkD_refl _,wkD_refl _,trivial⟩
theorem dn:(default:Nd)=Nd.mk 0 0 0 [] 0 0 (Arr.mk 0 [] [] []) [] [] 0 0 0:=of_eq_true (eq_true rfl)
theorem dm:(default:Sm)=Sm.mk 0 0 [] 0 (Nd.mk 0 0 0 [] 0 0 (Arr.mk 0 [] [] []) [] [] 0 0 0) (Nd.mk 0 0 0 [] 0 0 (Arr.mk 0 [] [] []) [] [] 0 0 0):=of_eq_true (eq_true rfl)
def dig(b:UInt8):Bool:=decide (48≤b.toNat)&&decide (b.toNat≤57)
def low(b:UInt8):Bool:=decide (97≤b.toNat)&&decide (b.toNat≤122)
def asc(s:String):List UInt8:=s.toUTF8.data.toList
def resL : List (List UInt8) := ["X", "Y", "F", "G", "self", "arg", "min", "max", "and", "or", "not", "shape", "reshape", "tally", "depth", "stack", "iota", "take", "drop", "first", "reverse", "rotate", "transpose", "from", "pick", "select", "amend", "up", "down", "sort", "find", "in", "unique", "where", "copy", "expand", "cut", "encode", "decode", "box", "open", "same", "kind", "ord", "chr", "format", "left", "right", "each", "swap", "outer", "inner", "rank", "power", "stencil", "atop", "over"].map asc
def sgnL : List (List UInt8) := ["+", "-", "*", "%", "|", "^", "<", "<=", "=", "~=", ">=", ">", ",", "/", "\\"].map asc
def resB(s:List UInt8):Bool:=resL.contains s||sgnL.contains s
structure Tok where
 kind:Int
 at_:Int
 len:Int
 num:Int
 text:List UInt8
deriving Inhabited,DecidableEq
def Tok.row(t:Tok):List D:=[.int .i64 t.kind,.int .i64 t.at_,.int .i64 t.len,.int .i64 t.num,.str t.text]
def amongR:List UInt8→List UInt8→Bool
 | [],_=>false
 |b::r,s=>(b==32&&decide (s.length<r.length)&&r.take s.length==s&&r.getD s.length 0==32)||amongR r s
def amongT(t s:List UInt8):Bool:=!s.isEmpty&&s.all (fun b=>b != 32)&&amongR t s
def joinW(ws:List (List UInt8)):List UInt8:=ws.flatMap (fun w=>32::w)++[32]
theorem joinW_cons(w:List UInt8)(ws:List (List UInt8)):joinW (w::ws)=32::(w++joinW ws):=by simp[joinW]
theorem joinW_head(ws:List (List UInt8)):∃r,joinW ws=32::r:=by
 cases ws with
 |nil=>exact⟨[],rfl⟩
 |cons w ws=>exact⟨_,joinW_cons w ws⟩
theorem amongR_skip(s r:List UInt8):∀(w:List UInt8),(∀b∈w,b≠32)→amongR (w++r) s=amongR r s
 | [],_=>rfl
 |b::w,h=>by
  have hb:(b==32)=false:=by simpa using h b (by simp)
  simp only[List.cons_append,amongR,hb,Bool.false_and,Bool.false_or]
  exact amongR_skip s r w fun c hc=>h c (by simp[hc])
theorem among_head{s w r : List UInt8}(hs : ∀b∈s, b≠32)(hw : ∀b∈w, b≠32) :
  (decide (s.length<(w++32::r).length)&&(w++32::r).take s.length==s&&(w++32::r).getD s.length 0==32)=(s==w):=by
 by_cases h:s=w
 ·subst h
  simp
 ·have h2:(s==w)=false:=by simpa using h
  rw[h2]
  by_cases h3:(w++32::r).take s.length=s
  ·by_cases h4:(w++32::r).getD s.length 0=32
   ·exfalso
    rcases Nat.lt_trichotomy s.length w.length with hl | hl | hl
    ·rw[List.getD_eq_getElem?_getD,List.getElem?_append_left hl,List.getElem?_eq_getElem hl] at h4
     exact hw _ (List.getElem_mem hl) h4
    ·rw[hl,List.take_left] at h3
     exact h h3.symm
    ·have:(32:UInt8)∈s:=by
      rw[← h3]
      have:s.length=w.length+(s.length-w.length-1+1):=by omega
      rw[this,List.take_append]
      simp
     exact hs _ this rfl
   ·have h4:((w++32::r).getD s.length 0==32)=false:=by simpa using h4
    rw[h4,Bool.and_false]
  ·have h3:((w++32::r).take s.length==s)=false:=by simpa using h3
   rw[h3,Bool.and_false,Bool.false_and]
theorem amongR_words{s:List UInt8}(hs:∀b∈s,b≠32):∀(ws:List (List UInt8)),(∀w∈ws,∀b∈w,b≠32)→amongR (joinW ws) s=ws.contains s
 | [],_=>by simp[joinW,amongR]
 |w::ws,h=>by
  obtain ⟨r,hr⟩:=joinW_head ws
  have ih:=amongR_words hs ws fun v hv=>h v (by simp[hv])
  rw[joinW_cons]
  simp only[amongR,beq_self_eq_true,Bool.true_and,List.contains_cons]
  rw[amongR_skip s _ w (h w (by simp)),ih]
  congr 1
  rw[hr]
  exact among_head hs (h w (by simp))
theorem amongT_words{s:List UInt8}(ws:List (List UInt8))(h:(ws.all fun w=>!w.isEmpty&&w.all fun b=>b != 32)=true):amongT (joinW ws) s=ws.contains s:=by
 have h1:∀w∈ws,w≠[]∧∀b∈w,b≠32:=fun w hw=>by
  have:=List.all_eq_true.1 h w hw
  simp only[Bool.and_eq_true,Bool.not_eq_true',List.isEmpty_eq_false_iff,List.all_eq_true,bne_iff_ne] at this
  exact this
 unfold amongT
 cases he:s.isEmpty with
 |true =>
  have:s=[]:=List.isEmpty_iff.1 he
  subst this
  cases hc:ws.contains [] with
  |false=>rfl
  |true=>exact ((h1 [] (by simpa using hc)).1 rfl).elim
 |false =>
  cases ha:s.all fun b=>b != 32 with
  |false =>
   cases hc:ws.contains s with
   |false=>rfl
   |true =>
    have:=(h1 s (by simpa using hc)).2
    rw[List.all_eq_false] at ha
    obtain ⟨b,hb,hb2⟩:=ha
    exact (this b hb (by simpa using hb2)).elim
  |true =>
   simp only[Bool.not_false,Bool.true_and]
   exact amongR_words (fun b hb=>by simpa using List.all_eq_true.1 ha b hb) ws fun w hw=>(h1 w hw).2
def refWords : List UInt8 := asc " X Y F G self arg min max and or not shape reshape tally depth stack iota take drop first reverse rotate transpose from pick select amend up down sort find in unique where copy expand cut encode decode box open same kind ord chr format left right each swap outer inner rank power stencil atop over "
def refNames : List UInt8 := asc " + - * % | ^ < <= = ~= >= > , / \\ "
theorem refWords_eq:refWords=joinW resL:=by decide +kernel
theorem refNames_eq:refNames=joinW sgnL:=by decide +kernel
theorem among_words(s:List UInt8):amongT refWords s=resL.contains s:=by rw[refWords_eq];exact amongT_words _ (by decide +kernel)
theorem among_names(s:List UInt8):amongT refNames s=sgnL.contains s:=by rw[refNames_eq];exact amongT_words _ (by decide +kernel)
def sep(b:UInt8):Prop:=b=10∨b=32
def plainB(w:List UInt8):Bool:=!w.isEmpty&&low (w.getD 0 0)&&w.all fun b=>low b||dig b
def nameB(w:List UInt8):Bool:=plainB w&&decide (w.length≤32)&&!resB w
def partsS(s:Sm):List Nd:=if s.kd=3 then [s.te,s.nd] else [s.nd]
def innerN(n:Nd):List Nd:=n.ki++n.bo.flatMap partsS
mutual
def dpN:Nd→Nat
 |.mk _ _ _ _ _ _ _ ki bo _ _ _=>1+max (dpL ki) (dpB bo)
def dpL:List Nd→Nat
 | []=>0
 |x::r=>max (dpN x) (dpL r)
def dpB:List Sm→Nat
 | []=>0
 |x::r=>max (dpM x) (dpB r)
def dpM:Sm→Nat
 |.mk kd _ _ _ te nd=>if kd=3 then max (dpN te) (dpN nd) else dpN nd
end
mutual
def szN:Nd→Nat
 |.mk _ _ _ _ _ _ _ ki bo _ _ _=>1+szL ki+szB bo
def szL:List Nd→Nat
 | []=>0
 |x::r=>szN x+szL r
def szB:List Sm→Nat
 | []=>0
 |x::r=>szM x+szB r
def szM:Sm→Nat
 |.mk kd _ _ _ te nd=>if kd=3 then szN te+szN nd else szN nd
end
theorem dpL_app:∀a b:List Nd,dpL (a++b)=max (dpL a) (dpL b)
 | [],b=>by simp only[List.nil_append,dpL];omega
 |x::a,b=>by simp only[List.cons_append,dpL,dpL_app a b];omega
theorem szL_app:∀a b:List Nd,szL (a++b)=szL a+szL b
 | [],b=>by simp only[List.nil_append,szL];omega
 |x::a,b=>by simp only[List.cons_append,szL,szL_app a b];omega
theorem dpM_parts(s:Sm):dpM s=dpL (partsS s):=by
 cases s with
 |mk kd at_ nm sl te nd =>
  have e:partsS (.mk kd at_ nm sl te nd)=if kd=3 then [te,nd] else [nd]:=rfl
  rw[e,dpM]
  split<;>(simp only[dpL];omega)
theorem szM_parts(s:Sm):szM s=szL (partsS s):=by
 cases s with
 |mk kd at_ nm sl te nd =>
  have e:partsS (.mk kd at_ nm sl te nd)=if kd=3 then [te,nd] else [nd]:=rfl
  rw[e,szM]
  split<;>(simp only[szL];omega)
theorem dpB_parts:∀l:List Sm,dpB l=dpL (l.flatMap partsS)
 | []=>by simp only[dpB,List.flatMap_nil,dpL]
 |s::l=>by rw[dpB,List.flatMap_cons,dpL_app,dpM_parts,dpB_parts l]
theorem szB_parts:∀l:List Sm,szB l=szL (l.flatMap partsS)
 | []=>by simp only[szB,List.flatMap_nil,szL]
 |s::l=>by rw[szB,List.flatMap_cons,szL_app,szM_parts,szB_parts l]
theorem dpN_inner(n:Nd):dpN n=1+dpL (innerN n):=by
 cases n
 simp only[dpN,innerN,Nd.ki,Nd.bo,dpL_app,dpB_parts]
theorem szN_inner(n:Nd):szN n=1+szL (innerN n):=by
 cases n
 simp only[szN,innerN,Nd.ki,Nd.bo,szL_app,szB_parts]
 omega
theorem dpN_pos(n:Nd):1≤dpN n:=by rw[dpN_inner];omega
theorem szN_pos(n:Nd):1≤szN n:=by rw[szN_inner];omega
theorem dpL_mem:∀ {l:List Nd} {x:Nd},x∈l→dpN x≤dpL l
 |y::l,x,h=>by
  simp only[dpL]
  rcases List.mem_cons.1 h with rfl | h
  ·omega
  ·have:=dpL_mem h;omega
theorem szL_mem:∀ {l:List Nd} {x:Nd},x∈l→szN x≤szL l
 |y::l,x,h=>by
  simp only[szL]
  rcases List.mem_cons.1 h with rfl | h
  ·omega
  ·have:=szL_mem h;omega
def primL : List (List UInt8) := ["", "+", "-", "*", "%", "|", "^", "min", "max", "<", "<=", "=", "~=", ">=", ">", "and", "or", "not", "shape", "reshape", "tally", "depth", ",", "stack", "iota", "take", "drop", "first", "reverse", "rotate", "transpose", "from", "pick", "select", "amend", "up", "down", "sort", "find", "in", "unique", "where", "copy", "expand", "cut", "encode", "decode", "box", "open", "same", "kind", "ord", "chr", "format", "left", "right"].map asc
def opL : List (List UInt8) := ["", "/", "\\", "each", "swap", "outer", "inner", "rank", "power", "stencil", "atop", "over"].map asc
def primT(p:Int):List UInt8:=if p<1∨56≤p then [] else primL.getD p.toNat []
def opT(p:Int):List UInt8:=if p<1∨12≤p then [] else opL.getD p.toNat []
def zeroA(a:Arr):Bool:=a.k==0&&a.sh.isEmpty&&a.nu.isEmpty&&a.it.isEmpty
def onlyB(n:Nd)(k:Int):Bool :=
 n.kd==k&&decide (0≤n.at_)&&decide (0≤n.de)&&decide (0≤n.sl)&&decide (0≤n.ss)&&(n.tx.isEmpty||k==2)&&(n.pr==0||k==9)&&(n.op==0||k==17)&&(zeroA n.va||k==1)&&(n.bo.isEmpty||k==10)
def emptyB(n:Nd):Bool:=n.kd==0&&n.at_==0&&n.cl==0&&n.de==0&&n.sl==0&&n.ss==0&&onlyB n 0&&n.ki.isEmpty
def classesB(n:Nd)(l:List Int):Bool:=n.ki.map Nd.cl==l
def leafB(n:Nd):Bool :=
 n.ki.isEmpty&&(
  if n.kd=1 then n.cl==1&&(chkA n.va).1==0&&((n.va.sh.isEmpty&&n.va.k != 3)||(n.va.sh.length==1&&n.va.k==2))
  else if n.kd=2 then decide (1≤n.cl)&&decide (n.cl≤4)&&nameB n.tx
  else if n.kd=6∨n.kd=7∨n.kd=8 then n.cl==1
  else if n.kd=9 then n.cl==2&&!(primT n.pr).isEmpty
  else if n.kd=11∨n.kd=12∨n.kd=13 then n.cl==2
  else if n.kd=17 then n.cl==(if n.op≤5 then 3 else 4)&&!(opT n.op).isEmpty
  else false)
def rightK(n:Nd):Int:=if (n.ki.getD 0 default).kd=17∧((n.ki.getD 0 default).op=7∨(n.ki.getD 0 default).op=8∨(n.ki.getD 0 default).op=9) then 1 else 2
def compB(n:Nd):Bool :=
 if n.kd=3 then n.cl==1&&decide (2≤n.ki.length)&&decide (n.ki.length≤1000)&&classesB n (List.replicate n.ki.length 1)
 else if n.kd=4 then n.cl==1&&classesB n [2,1]
 else if n.kd=5 then n.cl==1&&classesB n [2,1,1]
 else if n.kd=14 then n.cl==2&&classesB n [3,2]
 else if n.kd=15 then n.cl==2&&classesB n [4,2,rightK n]
 else if n.kd=16 then n.cl==2&&(classesB n [2,2]||classesB n [2,2,2]||classesB n [1,2,2])
 else false
mutual
/-- A kind of leaf occurs outside inner lambdas. -/
def occN(k:Int):Nd→Bool
 |.mk kd _ _ _ _ _ _ ki _ _ _ _=>kd==k||(kd != 10&&occL k ki)
def occL(k:Int):List Nd→Bool
 | []=>false
 |x::r=>occN k x||occL k r
end
def occB(l:List Sm)(k:Int):Bool:=l.any fun s=>(partsS s).any (occN k)
def lamC(n:Nd):Bool :=
 n.ki.isEmpty&&!n.bo.isEmpty&&(n.bo.getD (n.bo.length-1) default).kd==1 &&
  (if n.cl=2 then !(occB n.bo 12)&&!(occB n.bo 13) else if n.cl=3 then occB n.bo 12&&!(occB n.bo 13) else if n.cl=4 then occB n.bo 13 else false)
def CD(k:Nat)(ds:List D)(d:D):Prop:=ACalls Tryz.prog k ds ⟨[],[]⟩ (SpecR (sC ds d) ())
def CS(k:Nat)(ds:List D)(S:St)(d:D):Prop:=ACalls Tryz.prog k ds S (fun r S'=>r=.ret d∧S'=S)
theorem CS.frame{k:Nat}{ds:List D}{S:St}{d:D}(F:St)(h:CS k ds S d):CS k ds (S.add F) d:=by
 refine ((ACalls.frame h F).from fun C F' w H=>H).mono ?_
 rintro r S' ⟨S0,⟨rfl,rfl⟩,rfl⟩
 exact⟨rfl,rfl⟩
theorem CD.at_{k:Nat}{ds:List D}{d:D}(h:CD k ds d)(S:St):CS k ds S d:=ACalls.whole S h
theorem CS.wk{k:Nat}{ds us:List D}{S:St}{d:D}(h:CS k us S d)(hw:wkL ds us):CS k ds S d:=ACalls.wkArgs h hw
theorem CS.cd{k:Nat}{ds:List D}{d:D}(h:CS k ds ⟨[],[]⟩ d):CD k ds d:=ACalls.mono h fun _ _ ⟨h1,h2⟩=>⟨(),trivial,h1,h2⟩
theorem pS_ok{k : Nat}{β : Type}{ds : List D}{S : St}{d : β → D}{p : β → Prop}(h : ∀x, p x → CS k ds S (d x)) :
  (∀x,(pE ds S d p).pre x→ACalls Tryz.prog k ((pE ds S d p).args x) ((pE ds S d p).st x) (SpecR (pE ds S d p) x))∧(∀x,(pE ds S d p).fit=some x→(pE ds S d p).pre x→weakL ds ((pE ds S d p).args x)∧leS ((pE ds S d p).st x) S)∧((pE ds S d p).all=true→∀x,(pE ds S d p).pre x→weakL ds ((pE ds S d p).args x)∧(pE ds S d p).st x=S) :=
 ⟨fun x hp=>ACalls.mono (h x hp) fun _ _ ⟨h1,h2⟩=>⟨(),trivial,h1,h2⟩,fun _ e=>(by cases e),fun _ _ _=>⟨weakL_refl ds,rfl⟩⟩
def pA(ds:List D)(S:St)(d:D)(p:Prop):FnSpec:=pE (β:=Unit) ds S (fun _=>d) fun _=>p
theorem pA_ok{k : Nat}{ds : List D}{S : St}{d : D}{p : Prop}(h : p → CS k ds S d) :
  (∀x,(pA ds S d p).pre x→ACalls Tryz.prog k ((pA ds S d p).args x) ((pA ds S d p).st x) (SpecR (pA ds S d p) x))∧(∀x,(pA ds S d p).fit=some x→(pA ds S d p).pre x→weakL ds ((pA ds S d p).args x)∧leS ((pA ds S d p).st x) S)∧((pA ds S d p).all=true→∀x,(pA ds S d p).pre x→weakL ds ((pA ds S d p).args x)∧(pA ds S d p).st x=S) :=
 pS_ok fun _ hp=>h hp
def sS(ds:List D)(S:St)(d:D):FnSpec where
 β:=Unit
 α:=Unit
 args:=fun _=>ds
 st:=fun _=>S
 pre:=fun _=>True
 post:=fun _ _=>True
 res:=fun _ _=>.ret d
 out:=fun _ _=>S
theorem CS.of{k:Nat}{ds:List D}{S:St}{d:D}(h:ACalls Tryz.prog k ((sS ds S d).args ()) ((sS ds S d).st ()) (SpecR (sS ds S d) ())):CS k ds S d :=
 ACalls.mono h fun _ _ ⟨_,_,h2,h3⟩=>⟨h2,h3⟩
theorem CS.to{k:Nat}{ds:List D}{S S':St}{d:D}(h:CS k ds S' d)(h1:StTo S S')(h2:StTo S' S):CS k ds S d :=
 ACalls.to (ACalls.from h h1) fun r S0 ⟨e1,e2⟩=>⟨S,by rw[e2];exact h2,e1,rfl⟩
theorem CS.front{k:Nat}{ds:List D}{os:List (Nat×Nat×AObj)}{d:D}(o:Nat×Nat×AObj)(h:CS k ds ⟨os,[]⟩ d):CS k ds ⟨o::os,[]⟩ d:=by
 have p:List.Perm (os.map (·.2)++[o.2]) (o.2::os.map (·.2)):=List.perm_append_singleton _ _
 refine CS.to (CS.frame ⟨[o],[]⟩ h) (StTo.perm (r1:=[]) (r2:=[]) ?_ ?_) (StTo.perm (r1:=[]) (r2:=[]) ?_ ?_)
 ·simp[St.add]
 ·simp[St.add]
 ·simpa[St.add] using p.symm
 ·simp[St.add]
def idxG{α:Type}(p:α→Bool):List α→Int→Int
 | [],_=>-1
 |x::r,i=>if p x then i else idxG p r (i+1)
theorem idxG_any{α:Type}(p:α→Bool):∀(l:List α) (i:Int),0≤i→(decide (0≤idxG p l i))=l.any p
 | [],i,_=>by simp[idxG]
 |x::r,i,h=>by
  rw[idxG]
  by_cases hx:p x=true
  ·rw[if_pos hx];simp[hx,h]
  ·rw[if_neg hx,idxG_any p r (i+1) (by omega)];simp[hx]
structure IdxG {α:Type} (p:α→Bool) (l:List α) (i:Nat):Prop where
 hi:i≤l.length
 hg:idxG p (l.drop i) i=idxG p l 0
theorem IdxG.step{α:Type}[Inhabited α]{p:α→Bool}{l:List α}{i:Nat}(h:IdxG p l i)(hlt:i<l.length):(p (l.getD i default)=true→idxG p l 0=i)∧(p (l.getD i default)=false→IdxG p l (i+1)):=by
 have hg:=h.hg
 rw[drop_step hlt,idxG] at hg
 refine⟨fun e=>?_,fun e=>?_⟩
 ·rw[if_pos e] at hg;exact hg.symm
 ·rw[if_neg (by rw[e];exact Bool.false_ne_true)] at hg;exact⟨by omega,hg⟩
theorem IdxG.done{α:Type}{p:α→Bool}{l:List α}{i:Nat}(h:IdxG p l i)(hge:¬(i:Int)<l.length):idxG p l 0 = -1:=by
 have hg:=h.hg
 have:i=l.length:=by have:=h.hi;omega
 rw[this,List.drop_length,idxG] at hg
 exact hg.symm
def isN(b:Nd)(ds:List D)(ex:List D):Prop:=wkL ds (.agg b.row1::ex)
def isN2(b:Nd)(ds:List D)(ex:List D):Prop:=wkL ds (.agg b.row2::ex)
def isS(b:Sm)(ds:List D)(ex:List D):Prop:=wkL ds (.agg b.row1::ex)
theorem CD.wk{k:Nat}{ds us:List D}{d:D}(h:CD k us d)(hw:wkL ds us):CD k ds d:=sC_wk hw h
theorem nd_self(n:Nd)(ex:List D):isN n (.agg n.row1::ex) ex:=wkL_refl _
theorem nd2_self(n:Nd)(ex:List D):isN2 n (.agg n.row2::ex) ex:=wkL_refl _
theorem sm_self(s:Sm)(ex:List D):isS s (.agg s.row1::ex) ex:=wkL_refl _
theorem CD.down{k:Nat}{n:Nd}{ex:List D}{d:D}(h:CD k (.agg n.row2::ex) d):CD k (.agg n.row1::ex) d :=
 h.wk (by simp only[wkL,wkD];exact⟨nd1_wk n,wkL_refl _⟩)
theorem CD.isN{k:Nat}{n:Nd}{ds ex:List D}{d:D}(h:CD k (.agg n.row2::ex) d)(hi:isN n ds ex):CD k ds d:=h.down.wk hi
theorem CD.isN2{k:Nat}{n:Nd}{ds ex:List D}{d:D}(h:CD k (.agg n.row2::ex) d)(hi:isN2 n ds ex):CD k ds d:=h.wk hi
theorem nd_getD{l:List Nd}{i:Nat}(h:i<l.length):l.getD i default∈l:=by
 rw[List.getD_eq_getElem?_getD,List.getElem?_eq_getElem h];exact List.getElem_mem h
theorem sm_getD{l:List Sm}{i:Nat}(h:i<l.length):l.getD i default∈l:=by
 rw[List.getD_eq_getElem?_getD,List.getElem?_eq_getElem h];exact List.getElem_mem h
mutual
def nodeV:Nd→Bool
  | .mk kd at_ cl tx pr op va ki bo de sl ss =>
    onlyB (.mk kd at_ cl tx pr op va ki bo de sl ss) kd &&
      (if kd = 10 then lamC (.mk kd at_ cl tx pr op va ki bo de sl ss) && (decide (bo.length ≤ 1000) && stmtsV true [] bo)
       else leafB (.mk kd at_ cl tx pr op va ki bo de sl ss) || (compB (.mk kd at_ cl tx pr op va ki bo de sl ss) && nodesV ki))
def nodesV:List Nd→Bool
 | []=>true
 |x::r=>nodeV x&&nodesV r
def stmtsV(g:Bool)(names:List (List UInt8)):List Sm→Bool
 | []=>true
 |x::r=>stmtV g names x&&stmtsV g (if x.kd=2 then names++[x.nm] else names) r
def stmtV(g:Bool)(names:List (List UInt8)):Sm→Bool
  | .mk kd at_ nm sl te nd => decide (0 ≤ at_) && nodeV nd &&
    (if kd = 1 then nd.cl == 1 && nm.isEmpty && sl == 0 && emptyB te
     else if kd = 2 then nameB nm && !(names.contains nm) && (nd.cl == 1 || nd.cl == 2 || nd.kd == 10) && decide (0 ≤ sl) && emptyB te
     else if kd = 3 then g && nodeV te && te.cl == 1 && nd.cl == 1 && nm.isEmpty && sl == 0
     else false)
end
def bodyV(g:Bool)(l:List Sm):Bool:=decide (l.length≤1000)&&stmtsV g [] l
theorem nodeV_eq(n:Nd):nodeV n=(onlyB n n.kd&&(if n.kd=10 then lamC n&&bodyV true n.bo else leafB n||(compB n&&n.ki.all nodeV))):=by
 have e:∀l:List Nd,nodesV l=l.all nodeV:=by
  intro l
  induction l with
  |nil=>simp only[nodesV,List.all_nil]
  |cons x r ih=>simp only[nodesV,List.all_cons,ih]
 cases n
 simp only[nodeV,e]
 rfl
theorem stmtV_eq(g : Bool)(names : List (List UInt8))(s : Sm) : stmtV g names s = (decide (0 ≤ s.at_) && nodeV s.nd &&
    (if s.kd = 1 then s.nd.cl == 1 && s.nm.isEmpty && s.sl == 0 && emptyB s.te
     else if s.kd = 2 then nameB s.nm && !(names.contains s.nm) && (s.nd.cl == 1 || s.nd.cl == 2 || s.nd.kd == 10) && decide (0 ≤ s.sl) && emptyB s.te
     else if s.kd = 3 then g && nodeV s.te && s.te.cl == 1 && s.nd.cl == 1 && s.nm.isEmpty && s.sl == 0
     else false)) := by
  cases s
  simp only [stmtV]
  rfl
def outB(l:List Sm):Bool:=[6,7,11,12,13].any fun k=>occB l k
def checkN(n:Nd):Int:=if 60<dpN n then 8 else if 16384<szN n then 21 else if nodeV n=true then 0 else 11
def rightN(n:Nd):Int:=if checkN n≠0 then checkN n else if outB [.mk 1 0 [] 0 nd0 n]=true then 11 else 0
def rightP(l:List Sm):Int :=
 if 1000<l.length then 2 else if 60<dpB l then 8 else if 16384<szB l then 21
 else if (bodyV false l&&!outB l)=true then 0 else 11
theorem occL_any(k:Int):∀l:List Nd,occL k l=l.any (occN k)
 | []=>by simp only[occL,List.any_nil]
 |x::r=>by simp only[occL,List.any_cons,occL_any k r]
theorem occN_eq(k:Int)(n:Nd):occN k n=(n.kd==k||(n.kd != 10&&n.ki.any (occN k))):=by
 cases n
 simp only[occN,occL_any]
 rfl
theorem Nd.size_kid{n x:Nd}(h:x∈n.ki):SizeOf.sizeOf x<SizeOf.sizeOf n:=by
 cases n with
 |mk kd at_ cl tx pr op va ki bo de sl ss =>
  have:=List.sizeOf_lt_of_mem (show x∈ki from h)
  simp only[Nd.mk.sizeOf_spec]
  omega
theorem Nd.size_stmt{n:Nd}{s:Sm}(h:s∈n.bo):SizeOf.sizeOf s<SizeOf.sizeOf n:=by
 cases n with
 |mk kd at_ cl tx pr op va ki bo de sl ss =>
  have:=List.sizeOf_lt_of_mem (show s∈bo from h)
  simp only[Nd.mk.sizeOf_spec]
  omega
theorem Sm.size_te(s:Sm):SizeOf.sizeOf s.te<SizeOf.sizeOf s:=by
 cases s
 simp only[Sm.te,Sm.mk.sizeOf_spec]
 omega
theorem Sm.size_nd(s:Sm):SizeOf.sizeOf s.nd<SizeOf.sizeOf s:=by
 cases s
 simp only[Sm.nd,Sm.mk.sizeOf_spec]
 omega
theorem valid_kids{n:Nd}(h:nodeV n=true):(∀x∈n.ki,nodeV x=true)∧(n.kd=10→n.ki=[]):=by
 rw[nodeV_eq,Bool.and_eq_true] at h
 have h:=h.2
 by_cases hk:n.kd=10
 ·rw[if_pos hk,Bool.and_eq_true] at h
  have h1:=h.1
  unfold lamC at h1
  simp only[Bool.and_eq_true,List.isEmpty_iff] at h1
  have e:n.ki=[]:=h1.1.1.1
  exact⟨fun x hx=>by rw[e] at hx;simp at hx,fun _=>e⟩
 ·rw[if_neg hk,Bool.or_eq_true,Bool.and_eq_true] at h
  refine⟨fun x hx=>?_,fun e=>(hk e).elim⟩
  rcases h with h | h
  ·unfold leafB at h
   simp only[Bool.and_eq_true,List.isEmpty_iff] at h
   rw[h.1] at hx
   simp at hx
  ·exact List.all_eq_true.1 h.2 x hx
theorem stmts_all{g:Bool}:∀ {l:List Sm} {names:List (List UInt8)},stmtsV g names l=true→∀s∈l,nodeV s.nd=true∧((s.kd=3∧nodeV s.te=true∧g=true)∨(s.kd≠3∧emptyB s.te=true))
 | [],_,_,s,hs=>by simp at hs
 |x::r,names,h,s,hs=>by
  simp only[stmtsV,Bool.and_eq_true] at h
  rcases List.mem_cons.1 hs with rfl | hs
  ·have h:=h.1
   rw[stmtV_eq] at h
   simp only[Bool.and_eq_true] at h
   refine⟨h.1.2,?_⟩
   have h:=h.2
   by_cases h1:s.kd=1
   ·rw[if_pos h1] at h
    simp only[Bool.and_eq_true] at h
    exact .inr ⟨by omega,h.2⟩
   ·rw[if_neg h1] at h
    by_cases h2:s.kd=2
    ·rw[if_pos h2] at h
     simp only[Bool.and_eq_true] at h
     exact .inr ⟨by omega,h.2⟩
    ·rw[if_neg h2] at h
     by_cases h3:s.kd=3
     ·rw[if_pos h3] at h
      simp only[Bool.and_eq_true] at h
      exact .inl ⟨h3,h.1.1.1.1.2,h.1.1.1.1.1⟩
     ·rw[if_neg h3] at h;cases h
  ·exact stmts_all h.2 s hs
theorem appF_g{α:Type}[Inhabited α]{g:α→List D}{l r:List α}(i:Nat):appF l.length (fun i=>g (l.getD i default)) (fun i=>g (r.getD i default)) i=g ((l++r).getD i default):=by
 unfold appF
 split
 ·rename_i h
  simp[List.getD_eq_getElem?_getD,List.getElem?_append_left h,h]
 ·rename_i h
  simp[List.getD_eq_getElem?_getD,List.getElem?_append_right (Nat.le_of_not_lt h)]
theorem parts_two(s:Sm):(partsS s).length≤2:=by
 unfold partsS
 split<;>simp
theorem flat_len:∀l:List Sm,(l.flatMap partsS).length≤2*l.length
 | []=>by simp
 |s::l=>by
  have:=flat_len l
  have:=parts_two s
  simp only[List.flatMap_cons,List.length_append,List.length_cons]
  omega
theorem inner_len(n:Nd):(innerN n).length≤n.ki.length+2*n.bo.length:=by
 have:=flat_len n.bo
 simp only[innerN,List.length_append]
 omega
theorem take_flat{l:List Sm}{i:Nat}(h:i<l.length):(l.take (i+1)).flatMap partsS=(l.take i).flatMap partsS++partsS (l.getD i default):=by
 rw[take_step h,List.flatMap_append]
 simp
noncomputable def Epa:Senv:=EC con0 14 3 [5] (fun _=>([],[]))
noncomputable section
def ZS(a:Sm):Nd:=Sm.te a
def QkG(a:Sm):Arr:=Nd.va (ZS a)
def QIK(a:Sm):List Int:=Arr.sh (QkG a)
def QIL(a:Sm):List Int:=Arr.nu (QkG a)
def Qtn(a:Sm):List Arr:=Arr.it (QkG a)
def QkH:Arr:=DA
def Qto(a:Sm):List Nd:=Nd.ki (ZS a)
def Qiu:Nd:=Nd.mk Z0 Z0 Z0 [] Z0 Z0 QkH [] [] Z0 Z0 Z0
def Qtp(a:Sm):List Sm:=Nd.bo (ZS a)
def QoM:Sm:=Sm.mk Z0 Z0 [] Z0 Qiu Qiu
def ZT(a:Sm):Nd:=Sm.nd a
def QkI(a:Sm):Arr:=Nd.va (ZT a)
def QIM(a:Sm):List Int:=Arr.sh (QkI a)
def QIN(a:Sm):List Int:=Arr.nu (QkI a)
def Qtq(a:Sm):List Arr:=Arr.it (QkI a)
def Qtr(a:Sm):List Nd:=Nd.ki (ZT a)
def Qts(a:Sm):List Sm:=Nd.bo (ZT a)
def Qtt(a:Sm):List (List D):=[[ZI (Nd.kd (ZT a)),ZI (Nd.at_ (ZT a)),ZI (Nd.cl (ZT a)),D.str (Nd.tx (ZT a)),ZI (Nd.pr (ZT a)),ZI (Nd.op (ZT a)),ZI (Arr.k (QkI a)),SI (QIM a),SI (QIN a),D.sl N4 (LN (Qtq a)) (fun (i:Nat)=>Arr.row (List.getD (Qtq a) i QkH)) Mode.any,D.sl (15:Nat) (LN (Qtr a)) (fun (i:Nat)=>Nd.row (List.getD (Qtr a) i Qiu)) Mode.any,D.sl (34:Nat) (LN (Qts a)) (fun (i:Nat)=>Sm.row (List.getD (Qts a) i QoM)) Mode.any,ZI (Nd.de (ZT a)),ZI (Nd.sl (ZT a)),ZI (Nd.ss (ZT a))]]
def ZU(a:Sm)(b:Nat):Nd:=List.getD (partsS a) b Qiu
def QkJ(a:Sm)(b:Nat):Arr:=Nd.va (ZU a b)
def QIO(a:Sm)(b:Nat):List Int:=Arr.sh (QkJ a b)
def QIP(a:Sm)(b:Nat):List Int:=Arr.nu (QkJ a b)
def Qtu(a:Sm)(b:Nat):List Arr:=Arr.it (QkJ a b)
def Qtv(a:Sm)(b:Nat):List Nd:=Nd.ki (ZU a b)
def Qtw(a:Sm)(b:Nat):List Sm:=Nd.bo (ZU a b)
def Qtx(a:Sm)(b:Nat):List D:=[ZI (Nd.kd (ZU a b)),ZI (Nd.at_ (ZU a b)),ZI (Nd.cl (ZU a b)),D.str (Nd.tx (ZU a b)),ZI (Nd.pr (ZU a b)),ZI (Nd.op (ZU a b)),ZI (Arr.k (QkJ a b)),SI (QIO a b),SI (QIP a b),D.sl N4 (LN (Qtu a b)) (fun (i:Nat)=>Arr.row (List.getD (Qtu a b) i QkH)) Mode.any,D.sl (15:Nat) (LN (Qtv a b)) (fun (i:Nat)=>Nd.row (List.getD (Qtv a b) i Qiu)) Mode.any,D.sl (34:Nat) (LN (Qtw a b)) (fun (i:Nat)=>Sm.row (List.getD (Qtw a b) i QoM)) Mode.any,ZI (Nd.de (ZU a b)),ZI (Nd.sl (ZU a b)),ZI (Nd.ss (ZU a b))]
end
theorem pa_ok(s:Sm):CD 33 [.agg s.row1] (gsl 15 Nd.row1 (partsS s)):=by
 refine con_of (A:=sC _ _) (x:=()) (E:=Epa) (eOk con0_ok rfl) Tryz.func33 rfl (by kernel_rfl) rfl (by simp[sC,Epa,EC,E0]) ?_
 refine vc_eq (T :=
  ∀(x:Nat),True→SM x∧ifB (Sm.kd s==(3:Int)) (SM x∧SM x∧True∧∃(y:Unit),True∧(N2=LN (partsS s)∧(∀(i:Nat),i<N2→List.getD ([ZI (Nd.kd (ZS s)),ZI (Nd.at_ (ZS s)),ZI (Nd.cl (ZS s)),D.str (Nd.tx (ZS s)),ZI (Nd.pr (ZS s)),ZI (Nd.op (ZS s)),ZI (Arr.k (QkG s)),SI (QIK s),SI (QIL s),D.sl N4 (LN (Qtn s)) (fun (i:Nat)=>Arr.row (List.getD (Qtn s) i QkH)) Mode.any,D.sl (15:Nat) (LN (Qto s)) (fun (i:Nat)=>Nd.row (List.getD (Qto s) i Qiu)) Mode.any,D.sl (34:Nat) (LN (Qtp s)) (fun (i:Nat)=>Sm.row (List.getD (Qtp s) i QoM)) Mode.any,ZI (Nd.de (ZS s)),ZI (Nd.sl (ZS s)),ZI (Nd.ss (ZS s))]::Qtt s) i []=Qtx s i)∧True)∧True∧True) (SM x∧True∧∃(y:Unit),True∧(N1=LN (partsS s)∧(∀(i:Nat),i<N1→List.getD (Qtt s) i []=Qtx s i)∧True)∧True∧True)) (by kernel_rfl) ?_
 delta DA GI LN N1 N2 N4 SI SM Z0 ZI ZS QkG ZT QkI QIM QIN Qtq Qtr Qts Qtt ZU QkJ QIK QIO QIP Qtu Qtv Qtw Qtx QIL Qtn QkH Qto Qiu Qtp QoM
 simp only[ifB_iff,beq_iff_eq,beq_eq_false_iff_ne,true_and,and_true,exists_const]
 refine fun x _=>⟨fun h=>?_,fun h=>?_⟩
 ·have e:partsS s=[s.te,s.nd]:=if_pos h
  rw[e]
  refine⟨rfl,fun i hi=>?_⟩
  match i,hi with
  |0,_=>rfl
  |1,_=>rfl
 ·have e:partsS s=[s.nd]:=if_neg h
  rw[e]
  refine⟨rfl,fun i hi=>?_⟩
  match i,hi with
  |0,_=>rfl
def conIn(_n:Nd):Con:=fun k ds S=>match k with
 |33=>some (pE (β:=Sm) ds S (fun s=>gsl 15 Nd.row1 (partsS s)) (fun s=>isS s ds []))
 |_=>none
theorem conIn_ok(n:Nd):ConOk Tryz.prog (conIn n):=by
 intro k ds S A h
 unfold conIn at h
 split at h
 ·injection h with h;subst h
  exact pS_ok fun s e=>CD.at_ (CD.wk (pa_ok s) e) _
 ·cases h
noncomputable def Ein0(n:Nd):Senv:={ EC (conIn n) 26 4 [5,9,10,11,12] (fun id=>match id with | 5=>([0,1,2,3,4,6,5,7,8,9],[5,7,8]) | _=>([],[])) with
 ann:=fun b _ S=>match b with
  |0=>some { slots:=[11,3],keep:=[0,1,9,10],α:=Nat×List Nd,st:=fun y=>([.int .i64 y.1,gsl 15 Nd.row1 y.2],S),inv:=fun y=>y.1≤n.bo.length∧y.2=n.ki++(n.bo.take y.1).flatMap partsS,mu:=fun y=>n.bo.length-y.1 }
  |_=>none }
noncomputable section
def QkK(a:Nd):List Sm:=Nd.bo a
def QgT(a:Nd):Nat:=LN (QkK a)
def QoN(a:Nd):List Nd:=Nd.ki a
def QoO(a:Nat)(b:Nd)(c:List Nd):Prop:=a≤QgT b∧c=QoN b++List.flatMap partsS (List.take a (QkK b))
def Qjn(a:Nd):Nat:=LN (QoN a)
def Qiv:Arr:=DA
def H9:Nd:=Nd.mk Z0 Z0 Z0 [] Z0 Z0 Qiv [] [] Z0 Z0 Z0
def QoP(a:Nd)(b:Nat):List D:=Nd.row1 (List.getD (QoN a) b H9)
def QkL(a:List Nd)(b:Nat):List D:=Nd.row1 (List.getD a b H9)
def Qty(a:Nd):Int:=Nd.kd a
def Qtz(a:Nd):Int:=Nd.at_ a
def QtA(a:Nd):Int:=Nd.cl a
def QtB(a:Nd):List UInt8:=Nd.tx a
def QtC(a:Nd):Int:=Nd.pr a
def QtD(a:Nd):Int:=Nd.op a
def QkM(a:Nd):Arr:=Nd.va a
def QtE(a:Nd):Int:=Arr.k (QkM a)
def QtF(a:Nd):List Int:=Arr.sh (QkM a)
def QoQ(a:Nd):Nat:=LN (QtF a)
def QtG(a:Nd)(b:Nat):List D:=[ZI (GI (QtF a) b)]
def QtH(a:Nd):List Int:=Arr.nu (QkM a)
def QoR(a:Nd):Nat:=LN (QtH a)
def QtI(a:Nd)(b:Nat):List D:=[ZI (GI (QtH a) b)]
def QtJ(a:Nd):List Arr:=Arr.it (QkM a)
def QoS(a:Nd):Nat:=LN (QtJ a)
def QtK(a:Nd)(b:Nat):List D:=Arr.row (List.getD (QtJ a) b Qiv)
def Qiw:Sm:=Sm.mk Z0 Z0 [] Z0 H9 H9
def Qix(a:Nd)(b:Nat):Sm:=List.getD (QkK a) b Qiw
def ZV(a:Nd)(b:Nat):Nd:=Sm.te (Qix a b)
def QkN(a:Nd)(b:Nat):Arr:=Nd.va (ZV a b)
def QIQ(a:Nd)(b:Nat):List Int:=Arr.sh (QkN a b)
def QIR(a:Nd)(b:Nat):List Int:=Arr.nu (QkN a b)
def QtL(a:Nd)(b:Nat):List Arr:=Arr.it (QkN a b)
def QtM(a:Nd)(b:Nat):List Nd:=Nd.ki (ZV a b)
def QtN(a:Nd)(b:Nat):List Sm:=Nd.bo (ZV a b)
def ZW(a:Nd)(b:Nat):Nd:=Sm.nd (Qix a b)
def QkO(a:Nd)(b:Nat):Arr:=Nd.va (ZW a b)
def QIS(a:Nd)(b:Nat):List Int:=Arr.sh (QkO a b)
def QIT(a:Nd)(b:Nat):List Int:=Arr.nu (QkO a b)
def QtO(a:Nd)(b:Nat):List Arr:=Arr.it (QkO a b)
def QtP(a:Nd)(b:Nat):List Nd:=Nd.ki (ZW a b)
def QtQ(a:Nd)(b:Nat):List Sm:=Nd.bo (ZW a b)
def QtR(a:Nd)(b:Nat):List D:=[ZI (Sm.kd (Qix a b)),ZI (Sm.at_ (Qix a b)),D.str (Sm.nm (Qix a b)),ZI (Sm.sl (Qix a b)),ZI (Nd.kd (ZV a b)),ZI (Nd.at_ (ZV a b)),ZI (Nd.cl (ZV a b)),D.str (Nd.tx (ZV a b)),ZI (Nd.pr (ZV a b)),ZI (Nd.op (ZV a b)),ZI (Arr.k (QkN a b)),SI (QIQ a b),SI (QIR a b),D.sl N4 (LN (QtL a b)) (fun (i:Nat)=>Arr.row (List.getD (QtL a b) i Qiv)) Mode.any,D.sl (15:Nat) (LN (QtM a b)) (fun (i:Nat)=>Nd.row (List.getD (QtM a b) i H9)) Mode.any,D.sl (34:Nat) (LN (QtN a b)) (fun (i:Nat)=>Sm.row (List.getD (QtN a b) i Qiw)) Mode.any,ZI (Nd.de (ZV a b)),ZI (Nd.sl (ZV a b)),ZI (Nd.ss (ZV a b)),ZI (Nd.kd (ZW a b)),ZI (Nd.at_ (ZW a b)),ZI (Nd.cl (ZW a b)),D.str (Nd.tx (ZW a b)),ZI (Nd.pr (ZW a b)),ZI (Nd.op (ZW a b)),ZI (Arr.k (QkO a b)),SI (QIS a b),SI (QIT a b),D.sl N4 (LN (QtO a b)) (fun (i:Nat)=>Arr.row (List.getD (QtO a b) i Qiv)) Mode.any,D.sl (15:Nat) (LN (QtP a b)) (fun (i:Nat)=>Nd.row (List.getD (QtP a b) i H9)) Mode.any,D.sl (34:Nat) (LN (QtQ a b)) (fun (i:Nat)=>Sm.row (List.getD (QtQ a b) i Qiw)) Mode.any,ZI (Nd.de (ZW a b)),ZI (Nd.sl (ZW a b)),ZI (Nd.ss (ZW a b))]
def QtS(a:Nd):Int:=Nd.de a
def QtT(a:Nd):Int:=Nd.sl a
def QtU(a:Nd):Int:=Nd.ss a
def QtV(a:Nat)(b:Nd):Prop:=(SM a∧(SM (Qty b)∧SM (Qtz b)∧SM (QtA b)∧SM (QtB b)∧SM (QtC b)∧SM (QtD b)∧SM (QtE b)∧(SM (QoQ b)∧(∀(i:Nat),i<QoQ b→SM (QtG b i))∧True)∧(SM (QoR b)∧(∀(i:Nat),i<QoR b→SM (QtI b i))∧True)∧(SM (QoS b)∧(∀(i:Nat),i<QoS b→SM (QtK b i))∧True)∧(SM (Qjn b)∧(∀(i:Nat),i<Qjn b→SM (QoP b i))∧True)∧(SM (QgT b)∧(∀(i:Nat),i<QgT b→SM (QtR b i))∧True)∧SM (QtS b)∧SM (QtT b)∧SM (QtU b)∧True)∧True)∧True
def QoT(a:Nd):Int:=(NI (QgT a))
def QkP(a:List Nd):Prop:=SM (LI a)
def Qiy(a:Nd)(b:Nat):Sm:=List.getD (QkK a) (Int.toNat (↑b:Int)) Qiw
def ZX(a:Nd)(b:Nat):Nd:=Sm.te (Qiy a b)
def QkQ(a:Nd)(b:Nat):Arr:=Nd.va (ZX a b)
def QIU(a:Nd)(b:Nat):List Int:=Arr.sh (QkQ a b)
def QIV(a:Nd)(b:Nat):List Int:=Arr.nu (QkQ a b)
def QtW(a:Nd)(b:Nat):List Arr:=Arr.it (QkQ a b)
def QtX(a:Nd)(b:Nat):List Nd:=Nd.ki (ZX a b)
def QtY(a:Nd)(b:Nat):List Sm:=Nd.bo (ZX a b)
def ZY(a:Nd)(b:Nat):Nd:=Sm.nd (Qiy a b)
def QkR(a:Nd)(b:Nat):Arr:=Nd.va (ZY a b)
def QIW(a:Nd)(b:Nat):List Int:=Arr.sh (QkR a b)
def QIX(a:Nd)(b:Nat):List Int:=Arr.nu (QkR a b)
def QtZ(a:Nd)(b:Nat):List Arr:=Arr.it (QkR a b)
def Qt0(a:Nd)(b:Nat):List Nd:=Nd.ki (ZY a b)
def Qt1(a:Nd)(b:Nat):List Sm:=Nd.bo (ZY a b)
def Qt2(a:Nd)(b:Nat):D:=D.agg [ZI (Sm.kd (Qiy a b)),ZI (Sm.at_ (Qiy a b)),D.str (Sm.nm (Qiy a b)),ZI (Sm.sl (Qiy a b)),ZI (Nd.kd (ZX a b)),ZI (Nd.at_ (ZX a b)),ZI (Nd.cl (ZX a b)),D.str (Nd.tx (ZX a b)),ZI (Nd.pr (ZX a b)),ZI (Nd.op (ZX a b)),ZI (Arr.k (QkQ a b)),SI (QIU a b),SI (QIV a b),D.sl N4 (LN (QtW a b)) (fun (i:Nat)=>Arr.row (List.getD (QtW a b) i Qiv)) Mode.any,D.sl (15:Nat) (LN (QtX a b)) (fun (i:Nat)=>Nd.row (List.getD (QtX a b) i H9)) Mode.any,D.sl (34:Nat) (LN (QtY a b)) (fun (i:Nat)=>Sm.row (List.getD (QtY a b) i Qiw)) Mode.any,ZI (Nd.de (ZX a b)),ZI (Nd.sl (ZX a b)),ZI (Nd.ss (ZX a b)),ZI (Nd.kd (ZY a b)),ZI (Nd.at_ (ZY a b)),ZI (Nd.cl (ZY a b)),D.str (Nd.tx (ZY a b)),ZI (Nd.pr (ZY a b)),ZI (Nd.op (ZY a b)),ZI (Arr.k (QkR a b)),SI (QIW a b),SI (QIX a b),D.sl N4 (LN (QtZ a b)) (fun (i:Nat)=>Arr.row (List.getD (QtZ a b) i Qiv)) Mode.any,D.sl (15:Nat) (LN (Qt0 a b)) (fun (i:Nat)=>Nd.row (List.getD (Qt0 a b) i H9)) Mode.any,D.sl (34:Nat) (LN (Qt1 a b)) (fun (i:Nat)=>Sm.row (List.getD (Qt1 a b) i Qiw)) Mode.any,ZI (Nd.de (ZY a b)),ZI (Nd.sl (ZY a b)),ZI (Nd.ss (ZY a b))]
def Qt3(a:Sm)(b:Nd)(c:Nat):Prop:=isS a [Qt2 b c] []
def QkS(a:List Nd)(b:Sm):Nat:=LN a+LN (partsS b)
def Qt4(a:Nd):D:=D.sl (34:Nat) (QgT a) (fun (i:Nat)=>QtR a i) Mode.any
def QIY(a:Nd):D:=D.agg [ZI (Qty a),ZI (Qtz a),ZI (QtA a),D.str (QtB a),ZI (QtC a),ZI (QtD a),ZI (QtE a),D.sl N1 (QoQ a) (fun (i:Nat)=>QtG a i) Mode.any,D.sl N1 (QoR a) (fun (i:Nat)=>QtI a i) Mode.any,D.sl N4 (QoS a) (fun (i:Nat)=>QtK a i) Mode.any,D.sl (15:Nat) (Qjn a) (fun (i:Nat)=>QoP a i) Mode.any,Qt4 a,ZI (QtS a),ZI (QtT a),ZI (QtU a)]
def Qt5(a:Nat)(b:List Nd)(c:Sm)(d:Nd)(e f:Nat):Prop:=SM a∧side (QkS b c*(208:Nat)≤(140737488355328:Nat)∧QkS b c≤(9223372036854775807:Nat)) (∀(_t:Nat),(SM (QIY d)∧SM (D.ref N0 e N0)∧SM (Qt4 d)∧SM (ZI (QoT d))∧True)∧∃(y:Nat×List Nd),QoO y.1 d y.2∧QgT d-y.1<QgT d-f∧(IntKind.wrap IntKind.i64 ((↑f:Int)+Z1)=(NI y.1)∧(QkS b c=LN y.2∧(∀(i:Nat),i<QkS b c→appF (LN b) (fun (i:Nat)=>QkL b i) (fun (i:Nat)=>Nd.row1 (List.getD (partsS c) i H9)) i=QkL y.2 i)∧True)∧True)∧QtV e d)
end
theorem in0_ok(n:Nd)(h1:n.ki.length≤maxB)(h2:n.bo.length≤maxB):CD 31 [.agg n.row2] (gsl 15 Nd.row1 (innerN n)):=by
 refine con_of (A:=sC _ _) (x:=()) (E:=Ein0 n) (eOk (conIn_ok n) rfl) Tryz.func31 rfl (by kernel_rfl) rfl (by simp[sC,Ein0,EC,E0]) ?_
 refine vc_eq (T :=
  ∀(x:Nat),True→SM x∧SM x∧(∃(x_1:Nat×List Nd),QoO x_1.1 n x_1.2∧(Z0=(NI x_1.1)∧(Qjn n=LN x_1.2∧(∀(i:Nat),i<Qjn n→QoP n i=QkL x_1.2 i)∧True)∧True)∧QtV x n)∧∀(x_1:Nat×List Nd),QoO x_1.1 n x_1.2→ifB (decide ((NI x_1.1)<QoT n)) (side (Z0≤(NI x_1.1)∧(NI x_1.1)<QoT n) (∀(x_2:Nat),x≠x_2∧True→SM x_2∧SM x_2∧(QkP x_1.2∧QkP x_1.2∧∀(t:Nat),(SM x_2∧SM (Qt2 n x_1.1))∧∃(x_3:Sm),Qt3 x_3 n x_1.1∧∀(y:Unit),True→Qt5 t x_1.2 x_3 n x x_1.1)∧∃(x_3:Sm),Qt3 x_3 n x_1.1∧∀(y:Unit),True→QkP x_1.2∧QkP x_1.2∧∀(t:Nat),Qt5 t x_1.2 x_3 n x x_1.1)) (True∧∃(y:Unit),True∧(LN x_1.2=LN (innerN n)∧(∀(i:Nat),i<LN x_1.2→QkL x_1.2 i=Nd.row1 (List.getD (innerN n) i H9))∧True)∧True∧True)) (by kernel_rfl) ?_
 delta DA GI LI LN N0 N1 N4 NI SI SM Z0 Z1 ZI QkK QgT QoN QoO Qjn Qiv H9 QoP QkL Qty Qtz QtA QtB QtC QtD QkM QtE QtF QoQ QtG QtH QoR QtI QtJ QoS QtK Qiw Qix ZV QkN QIQ QIR QtL QtM QtN ZW QkO QIS QIT QtO QtP QtQ QtR QtS QtT QtU QtV QoT QkP Qiy ZX QkQ QIU QIV QtW QtX QtY ZY QkR QIW QIX QtZ Qt0 Qt1 Qt2 Qt3 QkS Qt4 QIY Qt5
 try simp only[← dm]
 try simp only[← dn]
 simp only[ne_eq,implies_true,Int.toNat_natCast,ifB_iff,side_iff,decide_eq_true_eq,decide_eq_false_iff_not,true_and,and_true,exists_const,forall_const,Prod.exists]
 intro x
 unfold maxB at h1 h2
 refine⟨⟨0,n.ki,⟨Nat.zero_le _,by simp⟩,rfl,rfl,fun _ _=>rfl⟩,?_⟩
 rintro ⟨i,l⟩ ⟨hi,hl⟩
 simp only at hi hl ⊢
 refine⟨fun hlt=>⟨⟨by omega,hlt⟩,fun _ _=>?_⟩,fun hge=>?_⟩
 ·have hlt':i<n.bo.length:=by omega
  have hf:=flat_len (n.bo.take i)
  have hlen:l.length=n.ki.length+((n.bo.take i).flatMap partsS).length:=by rw[hl,List.length_append]
  have ht:(n.bo.take i).length=i:=by rw[List.length_take];omega
  have h2p:=parts_two (n.bo.getD i default)
  have w:IntKind.i64.wrap ((i:Int)+1)=((i+1:Nat):Int):=by rw[wrap_i64' (by omega) (by omega)];rfl
  refine⟨⟨n.bo.getD i default,sm_self _ _,⟨by omega,by omega⟩,i+1,l++partsS (n.bo.getD i default),⟨hlt',by rw[take_flat hlt',hl,List.append_assoc]⟩,by omega,w,by rw[List.length_append],fun j _=>appF_g j⟩,n.bo.getD i default,sm_self _ _,⟨by omega,by omega⟩,i+1,l++partsS (n.bo.getD i default),⟨hlt',by rw[take_flat hlt',hl,List.append_assoc]⟩,by omega,w,by rw[List.length_append],fun j _=>appF_g j⟩
 ·have e:i=n.bo.length:=by omega
  rw[e,List.take_length] at hl
  have e2:l=innerN n:=hl
  rw[e2]
  first
   |exact⟨rfl,fun _ _=>rfl⟩
   |trivial
end Go.Proofs.YtjnifeedbgefpaaGreatDoor
