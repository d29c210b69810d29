/- Functions of the given program and what each of them computes: lemmas towards the statement, their conditions stated with each of them. -/
import Derived.Test.YtaagdbcaeokjkaaGreatDoorAb2
import Derived.KernelRfl
import Derived.Shelf.Strings.Builder1
import Derived.Shelf.Strings.Builder2
import Derived.Shelf.Strings.OnBuilder
import Derived.Shelf.Small.Utf8
import Derived.Shelf.Small.Strs
import Derived.Shelf.Strings.BuilderF
import Derived.Shelf.Strings.BuilderK
import Derived.Shelf.Strings.Builder2Cap
import Derived.Shelf.Strconv.Itoa0
import Derived.Shelf.Strconv.Itoa1
import Derived.Shelf.LaysM
import Derived.Shelf.Strconv.Itoa2
import Derived.Shelf.Strconv.Itoa3
import Derived.Shelf.Strconv.Itoa4
import Derived.Shelf.Strconv.ParseIntEmpty
import Derived.Shelf.Strconv.Clone
import Derived.Shelf.Strconv.SyntaxError
import Derived.Shelf.Strconv.Lower
import Derived.Shelf.Strconv.ParseUint10
import Derived.Shelf.Strconv.ParseUint10Empty
import Derived.Shelf.Strconv.RangeError
import Derived.Shelf.Strconv.ParseUintEmpty
import Derived.Shelf.Strconv.ParseUint10b64
import Derived.Shelf.Strconv.ParseUint10b32
import Derived.Shelf.Strconv.ParseUint10b16
import Derived.Shelf.Strconv.ParseUint10b8
import Derived.Shelf.Strings.Search1
import Derived.Shelf.Strings.Prefix
import Derived.Shelf.Unicode.Latin
import Derived.Shelf.Unicode.Decode
import Derived.Shelf.Bits.Mul64
import Derived.Shelf.Strings.Repeat
import Derived.Shelf.Unicode.DecodeAny
import Derived.Shelf.Unicode.CaseLookup
import Derived.Shelf.Unicode.CaseConvert
import Derived.Shelf.Unicode.CaseTo
import Derived.Shelf.Unicode.CaseLaid
import Derived.Shelf.Slices.Turned
import Derived.Lib.AppendIntMem
import Derived.Lib.ItoaLen
import Derived.Lib.MapLaws
import Derived.Lib.Join
import Derived.Lib.Builder
import Derived.Lib.UnsafeStr
import Derived.Lib.Bytealg
import Derived.Test.YtaagdbcaeokjkaaGreatDoorRows
import Derived.Test.YtaagdbcaeokjkaaGreatDoorCards
import Derived.Test.YtaagdbcaeokjkaaGreatDoorTie
import Derived.Deep.DeepHandedRow
import Derived.Deep.DeepLaidRun
import Derived.Deep.DeepWitnessRowRef
import Derived.Lib.LaidIn
import Derived.Lib.LaidU8T
import Derived.Lib.LaidCaseMet
import Derived.PinnedBridge
import Derived.Stop.LaidErr
namespace Go.Proofs.YtaagdbcaeokjkaaGreatDoor
open Go Go.Ab
noncomputable def tab:List (Nat×TI):=[
 (0,⟨TypeDesc.tuple #[],1,0,[.unk]⟩),
 (1,⟨TypeDesc.func #[] #[] false,1,8,[.nilf]⟩),
 (2,⟨TypeDesc.int .i64,1,8,[.int .i64 0]⟩),
 (3,⟨TypeDesc.int .i64,1,8,[.int .i64 0]⟩),
 (4,⟨TypeDesc.bool,1,1,[.bool false]⟩),
 (5,⟨TypeDesc.int .u8,1,1,[.int .u8 0]⟩),
 (9,⟨TypeDesc.string,1,16,[.str []]⟩),
 (20,⟨TypeDesc.interface #[],1,16,[.nili]⟩),
 (21,⟨TypeDesc.int .i32,1,4,[.int .i32 0]⟩),
 (22,⟨TypeDesc.slice 53,1,24,[.sl 1 0 (fun _=>[]) .nil]⟩),
 (23,⟨Tryz.t23.desc,1,24,[.sl 1 0 (fun _=>[]) .nil]⟩),
 (24,⟨Tryz.t23.desc,1,24,[.sl 1 0 (fun _=>[]) .nil]⟩),
 (25,⟨TypeDesc.func #[24] #[4] false,1,8,[.nilf]⟩),
 (26,⟨TypeDesc.func #[] #[4] false,1,8,[.nilf]⟩),
 (27,⟨TypeDesc.func #[24] #[9] false,1,8,[.nilf]⟩),
 (28,⟨TypeDesc.slice 37,1,24,[.sl 1 0 (fun _=>[]) .nil]⟩),
 (29,⟨TypeDesc.int .i64,1,8,[.int .i64 0]⟩),
 (30,⟨TypeDesc.slice 3,1,24,[.sl 1 0 (fun _=>[]) .nil]⟩),
 (31,⟨Tryz.t31.desc,5,80,[.int .i64 0,.int .i64 0,.sl 1 0 (fun _=>[]) .nil,.sl 1 0 (fun _=>[]) .nil,.str []]⟩),
 (32,⟨Tryz.t31.desc,5,80,[.int .i64 0,.int .i64 0,.sl 1 0 (fun _=>[]) .nil,.sl 1 0 (fun _=>[]) .nil,.str []]⟩),
 (33,⟨TypeDesc.tuple #[28,32],1,0,[.unk]⟩),
 (34,⟨TypeDesc.func #[9] #[28,32] false,1,8,[.nilf]⟩),
 (35,⟨TypeDesc.int .i64,1,8,[.int .i64 0]⟩),
 (36,⟨Tryz.t36.desc,5,48,[.int .i64 0,.int .i64 0,.int .i64 0,.int .i64 0,.str []]⟩),
 (37,⟨Tryz.t36.desc,5,48,[.int .i64 0,.int .i64 0,.int .i64 0,.int .i64 0,.str []]⟩),
 (38,⟨TypeDesc.func #[22,3] #[3] false,1,8,[.nilf]⟩),
 (39,⟨TypeDesc.int .i64,1,8,[.int .i64 0]⟩),
 (40,⟨TypeDesc.int .i64,1,8,[.int .i64 0]⟩),
 (41,⟨TypeDesc.int .i64,1,8,[.int .i64 0]⟩),
 (42,⟨TypeDesc.int .i64,1,8,[.int .i64 0]⟩),
 (43,⟨TypeDesc.int .i64,1,8,[.int .i64 0]⟩),
 (44,⟨TypeDesc.slice 46,1,24,[.sl 1 0 (fun _=>[]) .nil]⟩),
 (45,⟨Tryz.t45.desc,4,80,[.int .i64 0,.sl 1 0 (fun _=>[]) .nil,.sl 1 0 (fun _=>[]) .nil,.sl 1 0 (fun _=>[]) .nil]⟩),
 (46,⟨Tryz.t45.desc,4,80,[.int .i64 0,.sl 1 0 (fun _=>[]) .nil,.sl 1 0 (fun _=>[]) .nil,.sl 1 0 (fun _=>[]) .nil]⟩),
 (47,⟨TypeDesc.slice 49,1,24,[.sl 1 0 (fun _=>[]) .nil]⟩),
 (48,⟨Tryz.t48.desc,15,208,[.int .i64 0,.int .i64 0,.int .i64 0,.str [],.int .i64 0,.int .i64 0,.int .i64 0,.sl 1 0 (fun _=>[]) .nil,.sl 1 0 (fun _=>[]) .nil,.sl 1 0 (fun _=>[]) .nil,.sl 1 0 (fun _=>[]) .nil,.sl 1 0 (fun _=>[]) .nil,.int .i64 0,.int .i64 0,.int .i64 0]⟩),
 (49,⟨Tryz.t48.desc,15,208,[.int .i64 0,.int .i64 0,.int .i64 0,.str [],.int .i64 0,.int .i64 0,.int .i64 0,.sl 1 0 (fun _=>[]) .nil,.sl 1 0 (fun _=>[]) .nil,.sl 1 0 (fun _=>[]) .nil,.sl 1 0 (fun _=>[]) .nil,.sl 1 0 (fun _=>[]) .nil,.int .i64 0,.int .i64 0,.int .i64 0]⟩),
 (50,⟨TypeDesc.func #[42] #[49] false,1,8,[.nilf]⟩),
 (51,⟨TypeDesc.int .i64,1,8,[.int .i64 0]⟩),
 (52,⟨Tryz.t52.desc,34,456,[.int .i64 0,.int .i64 0,.str [],.int .i64 0,.int .i64 0,.int .i64 0,.int .i64 0,.str [],.int .i64 0,.int .i64 0,.int .i64 0,.sl 1 0 (fun _=>[]) .nil,.sl 1 0 (fun _=>[]) .nil,.sl 1 0 (fun _=>[]) .nil,.sl 1 0 (fun _=>[]) .nil,.sl 1 0 (fun _=>[]) .nil,.int .i64 0,.int .i64 0,.int .i64 0,.int .i64 0,.int .i64 0,.int .i64 0,.str [],.int .i64 0,.int .i64 0,.int .i64 0,.sl 1 0 (fun _=>[]) .nil,.sl 1 0 (fun _=>[]) .nil,.sl 1 0 (fun _=>[]) .nil,.sl 1 0 (fun _=>[]) .nil,.sl 1 0 (fun _=>[]) .nil,.int .i64 0,.int .i64 0,.int .i64 0]⟩),
 (53,⟨Tryz.t52.desc,34,456,[.int .i64 0,.int .i64 0,.str [],.int .i64 0,.int .i64 0,.int .i64 0,.int .i64 0,.str [],.int .i64 0,.int .i64 0,.int .i64 0,.sl 1 0 (fun _=>[]) .nil,.sl 1 0 (fun _=>[]) .nil,.sl 1 0 (fun _=>[]) .nil,.sl 1 0 (fun _=>[]) .nil,.sl 1 0 (fun _=>[]) .nil,.int .i64 0,.int .i64 0,.int .i64 0,.int .i64 0,.int .i64 0,.int .i64 0,.str [],.int .i64 0,.int .i64 0,.int .i64 0,.sl 1 0 (fun _=>[]) .nil,.sl 1 0 (fun _=>[]) .nil,.sl 1 0 (fun _=>[]) .nil,.sl 1 0 (fun _=>[]) .nil,.sl 1 0 (fun _=>[]) .nil,.int .i64 0,.int .i64 0,.int .i64 0]⟩),
 (54,⟨TypeDesc.func #[24] #[29] false,1,8,[.nilf]⟩),
 (55,⟨TypeDesc.pointer 58,1,8,[.nilp]⟩),
 (56,⟨TypeDesc.slice 5,1,24,[.sl 1 0 (fun _=>[]) .nil]⟩),
 (57,⟨Tryz.t57.desc,2,32,[.nilp,.sl 1 0 (fun _=>[]) .nil]⟩),
 (58,⟨Tryz.t57.desc,2,32,[.nilp,.sl 1 0 (fun _=>[]) .nil]⟩),
 (59,⟨Tryz.t59.desc,4,56,[.nilp,.sl 1 0 (fun _=>[]) .nil,.str [],.int .i64 0]⟩),
 (60,⟨Tryz.t59.desc,4,56,[.nilp,.sl 1 0 (fun _=>[]) .nil,.str [],.int .i64 0]⟩),
 (61,⟨TypeDesc.slice 9,1,24,[.sl 1 0 (fun _=>[]) .nil]⟩),
 (62,⟨TypeDesc.func #[24] #[61] false,1,8,[.nilf]⟩),
 (63,⟨TypeDesc.func #[9,64,66] #[] false,1,8,[.nilf]⟩),
 (64,⟨TypeDesc.func #[9,9] #[4] false,1,8,[.nilf]⟩),
 (65,⟨TypeDesc.func #[9,3] #[9] false,1,8,[.nilf]⟩),
 (66,⟨TypeDesc.func #[3] #[9] false,1,8,[.nilf]⟩),
 (67, ⟨TypeDesc.interface #[("Error", 70)], 1, 16, [.nili]⟩),
 (68, ⟨TypeDesc.interface #[("Error", 70)], 1, 16, [.nili]⟩),
 (69,⟨TypeDesc.func #[5] #[68] false,1,8,[.nilf]⟩),
 (70,⟨TypeDesc.func #[] #[9] false,1,8,[.nilf]⟩),
 (71,⟨TypeDesc.func #[22,3] #[61] false,1,8,[.nilf]⟩),
 (72,⟨TypeDesc.func #[9] #[4] false,1,8,[.nilf]⟩),
 (73,⟨TypeDesc.func #[5] #[4] false,1,8,[.nilf]⟩),
 (74,⟨Tryz.t74.desc,3,48,[.str [],.int .i64 0,.sl 1 0 (fun _=>[]) .nil]⟩),
 (75,⟨Tryz.t74.desc,3,48,[.str [],.int .i64 0,.sl 1 0 (fun _=>[]) .nil]⟩),
 (76,⟨TypeDesc.tuple #[37,3,29],1,0,[.unk]⟩),
 (77,⟨TypeDesc.func #[] #[37,3,29] false,1,8,[.nilf]⟩),
 (78,⟨TypeDesc.func #[49,3] #[3] false,1,8,[.nilf]⟩),
 (79,⟨TypeDesc.func #[53] #[47] false,1,8,[.nilf]⟩),
 (80,⟨TypeDesc.func #[49,3] #[4] false,1,8,[.nilf]⟩),
 (81,⟨TypeDesc.func #[49] #[3] false,1,8,[.nilf]⟩),
 (82,⟨TypeDesc.func #[22,4] #[4] false,1,8,[.nilf]⟩),
 (83,⟨TypeDesc.func #[22] #[4] false,1,8,[.nilf]⟩),
 (84,⟨TypeDesc.func #[49] #[61] false,1,8,[.nilf]⟩),
 (85,⟨TypeDesc.pointer 60,1,8,[.nilp]⟩),
 (86,⟨TypeDesc.tuple #[3,68],1,0,[.unk]⟩),
 (87,⟨TypeDesc.func #[9] #[3,68] false,1,8,[.nilf]⟩),
 (88,⟨TypeDesc.int .u64,1,8,[.int .u64 0]⟩),
 (89,⟨TypeDesc.tuple #[88,88],1,0,[.unk]⟩),
 (90,⟨TypeDesc.func #[88,88] #[88,88] false,1,8,[.nilf]⟩),
 (91,⟨TypeDesc.func #[3] #[] false,1,8,[.nilf]⟩),
 (92,⟨TypeDesc.func #[] #[3] false,1,8,[.nilf]⟩),
 (93,⟨TypeDesc.pointer 5,1,8,[.nilp]⟩),
 (94,⟨TypeDesc.func #[61,49,106,3] #[61] false,1,8,[.nilf]⟩),
 (95,⟨TypeDesc.pointer 75,1,8,[.nilp]⟩),
 (96,⟨TypeDesc.func #[3,73] #[3] false,1,8,[.nilf]⟩),
 (97,⟨TypeDesc.tuple #[37,29],1,0,[.unk]⟩),
 (98,⟨TypeDesc.func #[] #[37,29] false,1,8,[.nilf]⟩),
 (99,⟨TypeDesc.func #[5] #[37,3,29] false,1,8,[.nilf]⟩),
 (100,⟨TypeDesc.func #[47,102] #[4] false,1,8,[.nilf]⟩),
 (101,⟨TypeDesc.func #[49] #[47] false,1,8,[.nilf]⟩),
 (102,⟨TypeDesc.func #[49] #[4] false,1,8,[.nilf]⟩),
 (103,⟨TypeDesc.func #[49] #[] false,1,8,[.nilf]⟩),
 (104,⟨TypeDesc.map 9 3,1,8,[.nmap]⟩),
 (105,⟨TypeDesc.func #[106,108] #[4] false,1,8,[.nilf]⟩),
 (106,⟨TypeDesc.slice 39,1,24,[.sl 1 0 (fun _=>[]) .nil]⟩),
 (107,⟨TypeDesc.func #[22,39] #[4] false,1,8,[.nilf]⟩),
 (108,⟨TypeDesc.func #[39] #[4] false,1,8,[.nilf]⟩),
 (109,⟨TypeDesc.func #[49] #[9] false,1,8,[.nilf]⟩),
 (110,⟨TypeDesc.func #[9,3] #[3] false,1,8,[.nilf]⟩),
 (111,⟨TypeDesc.int .u32,1,4,[.int .u32 0]⟩),
 (112,⟨TypeDesc.tuple #[111,111],1,0,[.unk]⟩),
 (113,⟨TypeDesc.func #[111,111] #[111,111] false,1,8,[.nilf]⟩),
 (114,⟨TypeDesc.int .u64,1,8,[.int .u64 0]⟩),
 (115,⟨TypeDesc.tuple #[114,114],1,0,[.unk]⟩),
 (116,⟨TypeDesc.func #[114,114] #[114,114] false,1,8,[.nilf]⟩),
 (117,⟨TypeDesc.unsafePointer,1,8,[.nilp]⟩),
 (118,⟨TypeDesc.func #[117] #[117] false,1,8,[.nilf]⟩),
 (119,⟨TypeDesc.func #[49,3] #[61] false,1,8,[.nilf]⟩),
 (120,⟨TypeDesc.tuple #[3,29],1,0,[.unk]⟩),
 (121,⟨TypeDesc.func #[9] #[3,29] false,1,8,[.nilf]⟩),
 (122,⟨TypeDesc.func #[9] #[9] false,1,8,[.nilf]⟩),
 (123,⟨TypeDesc.func #[3] #[21,3,4] false,1,8,[.nilf]⟩),
 (124,⟨TypeDesc.func #[3] #[4] false,1,8,[.nilf]⟩),
 (125,⟨TypeDesc.tuple #[21,3,4],1,0,[.unk]⟩),
 (126,⟨TypeDesc.func #[21] #[3,68] false,1,8,[.nilf]⟩),
 (127,⟨TypeDesc.func #[] #[61] false,1,8,[.nilf]⟩),
 (128,⟨TypeDesc.func #[47,102] #[3] false,1,8,[.nilf]⟩),
 (129,⟨TypeDesc.func #[49,39] #[4] false,1,8,[.nilf]⟩),
 (130,⟨TypeDesc.func #[42] #[9] false,1,8,[.nilf]⟩),
 (131,⟨TypeDesc.func #[41] #[9] false,1,8,[.nilf]⟩),
 (132,⟨TypeDesc.func #[106,108] #[3] false,1,8,[.nilf]⟩),
 (133,⟨TypeDesc.func #[22,134] #[4] false,1,8,[.nilf]⟩),
 (134,⟨TypeDesc.func #[53] #[4] false,1,8,[.nilf]⟩),
 (135,⟨TypeDesc.func #[49] #[29] false,1,8,[.nilf]⟩),
 (136,⟨TypeDesc.func #[9,5] #[3] false,1,8,[.nilf]⟩),
 (137,⟨TypeDesc.func #[3] #[56] false,1,8,[.nilf]⟩),
 (138,⟨TypeDesc.func #[49,49] #[4] false,1,8,[.nilf]⟩),
 (139,⟨TypeDesc.func #[61,9] #[4] false,1,8,[.nilf]⟩),
 (140,⟨TypeDesc.func #[141,9] #[9] false,1,8,[.nilf]⟩),
 (141,⟨TypeDesc.func #[21] #[21] false,1,8,[.nilf]⟩),
 (142,⟨TypeDesc.tuple #[21,3],1,0,[.unk]⟩),
 (143,⟨TypeDesc.func #[9] #[21,3] false,1,8,[.nilf]⟩),
 (144,⟨TypeDesc.func #[56,21] #[56] false,1,8,[.nilf]⟩),
 (145,⟨TypeDesc.func #[46] #[4] false,1,8,[.nilf]⟩),
 (146,⟨TypeDesc.func #[46] #[29] false,1,8,[.nilf]⟩),
 (147,⟨TypeDesc.func #[49,148] #[4] true,1,8,[.nilf]⟩),
 (148,⟨TypeDesc.slice 40,1,24,[.sl 1 0 (fun _=>[]) .nil]⟩),
 (149,⟨TypeDesc.func #[148,3] #[148] false,1,8,[.nilf]⟩),
 (150,⟨TypeDesc.array 56 9,56,896,[.str [],.str [],.str [],.str [],.str [],.str [],.str [],.str [],.str [],.str [],.str [],.str [],.str [],.str [],.str [],.str [],.str [],.str [],.str [],.str [],.str [],.str [],.str [],.str [],.str [],.str [],.str [],.str [],.str [],.str [],.str [],.str [],.str [],.str [],.str [],.str [],.str [],.str [],.str [],.str [],.str [],.str [],.str [],.str [],.str [],.str [],.str [],.str [],.str [],.str [],.str [],.str [],.str [],.str [],.str [],.str []]⟩),
 (151,⟨TypeDesc.array 12 9,12,192,[.str [],.str [],.str [],.str [],.str [],.str [],.str [],.str [],.str [],.str [],.str [],.str []]⟩),
 (152,⟨TypeDesc.func #[22,134] #[3] false,1,8,[.nilf]⟩),
 (153,⟨TypeDesc.func #[46] #[9] false,1,8,[.nilf]⟩),
 (154,⟨TypeDesc.func #[47,106] #[9] true,1,8,[.nilf]⟩),
 (155,⟨TypeDesc.func #[49,106] #[9] true,1,8,[.nilf]⟩),
 (156,⟨TypeDesc.func #[53] #[9] false,1,8,[.nilf]⟩),
 (157,⟨TypeDesc.func #[61,9] #[9] false,1,8,[.nilf]⟩),
 (158,⟨TypeDesc.func #[49,4,4,4,4,4,4] #[4] false,1,8,[.nilf]⟩),
 (159,⟨TypeDesc.func #[41] #[40] false,1,8,[.nilf]⟩),
 (160,⟨TypeDesc.func #[46,46] #[4] false,1,8,[.nilf]⟩),
 (161,⟨TypeDesc.func #[22,22] #[4] false,1,8,[.nilf]⟩),
 (162,⟨TypeDesc.func #[61,9] #[3] false,1,8,[.nilf]⟩),
 (163,⟨TypeDesc.func #[21] #[3] false,1,8,[.nilf]⟩),
 (164,⟨TypeDesc.func #[3,21] #[21] false,1,8,[.nilf]⟩),
 (165,⟨TypeDesc.tuple #[2,68],1,0,[.unk]⟩),
 (166,⟨TypeDesc.func #[9,3,3] #[2,68] false,1,8,[.nilf]⟩),
 (167,⟨TypeDesc.func #[21] #[4] false,1,8,[.nilf]⟩),
 (168,⟨TypeDesc.func #[46] #[29,3,3] false,1,8,[.nilf]⟩),
 (169,⟨TypeDesc.tuple #[29,3,3],1,0,[.unk]⟩),
 (170,⟨TypeDesc.func #[47,148,171] #[4] false,1,8,[.nilf]⟩),
 (171,⟨TypeDesc.func #[49,40] #[4] false,1,8,[.nilf]⟩),
 (172,⟨TypeDesc.func #[106,39] #[4] false,1,8,[.nilf]⟩),
 (173,⟨TypeDesc.tuple #[29,3],1,0,[.unk]⟩),
 (174,⟨TypeDesc.func #[46] #[29,3] false,1,8,[.nilf]⟩),
 (175,⟨TypeDesc.func #[30,30] #[4] false,1,8,[.nilf]⟩),
 (176,⟨TypeDesc.func #[47,106] #[9] false,1,8,[.nilf]⟩),
 (177,⟨TypeDesc.func #[49,4] #[9] false,1,8,[.nilf]⟩),
 (178,⟨TypeDesc.func #[49,106] #[4] false,1,8,[.nilf]⟩),
 (179,⟨TypeDesc.func #[22,9] #[9] false,1,8,[.nilf]⟩),
 (180,⟨TypeDesc.tuple #[21,4],1,0,[.unk]⟩),
 (181,⟨TypeDesc.func #[3,21,182] #[21,4] false,1,8,[.nilf]⟩),
 (182,⟨TypeDesc.slice 213,1,24,[.sl 1 0 (fun _=>[]) .nil]⟩),
 (183,⟨TypeDesc.array 256 5,256,256,List.replicate 256 (.int .u8 0)⟩),
 (184,⟨Tryz.t184.desc,2,2,[.int .u8 0,.int .u8 0]⟩),
 (185,⟨Tryz.t184.desc,2,2,[.int .u8 0,.int .u8 0]⟩),
 (186,⟨TypeDesc.array 16 185,32,32,[.int .u8 0,.int .u8 0,.int .u8 0,.int .u8 0,.int .u8 0,.int .u8 0,.int .u8 0,.int .u8 0,.int .u8 0,.int .u8 0,.int .u8 0,.int .u8 0,.int .u8 0,.int .u8 0,.int .u8 0,.int .u8 0,.int .u8 0,.int .u8 0,.int .u8 0,.int .u8 0,.int .u8 0,.int .u8 0,.int .u8 0,.int .u8 0,.int .u8 0,.int .u8 0,.int .u8 0,.int .u8 0,.int .u8 0,.int .u8 0,.int .u8 0,.int .u8 0]⟩),
 (187,⟨TypeDesc.func #[9,9,3,3,68] #[68] false,1,8,[.nilf]⟩),
 (188,⟨TypeDesc.func #[30,124] #[4] false,1,8,[.nilf]⟩),
 (189,⟨TypeDesc.func #[30] #[4] false,1,8,[.nilf]⟩),
 (190,⟨TypeDesc.func #[30] #[3] false,1,8,[.nilf]⟩),
 (191,⟨TypeDesc.func #[21,30] #[9] true,1,8,[.nilf]⟩),
 (192,⟨TypeDesc.func #[61] #[9] true,1,8,[.nilf]⟩),
 (193,⟨TypeDesc.func #[46] #[46] false,1,8,[.nilf]⟩),
 (194,⟨TypeDesc.func #[46,3] #[46] false,1,8,[.nilf]⟩),
 (195,⟨TypeDesc.func #[30] #[9] false,1,8,[.nilf]⟩),
 (196,⟨TypeDesc.func #[106,39] #[3] false,1,8,[.nilf]⟩),
 (197,⟨TypeDesc.func #[30] #[29] false,1,8,[.nilf]⟩),
 (198,⟨TypeDesc.func #[46] #[3] false,1,8,[.nilf]⟩),
 (199,⟨TypeDesc.pointer 213,1,8,[.nilp]⟩),
 (200,⟨TypeDesc.func #[21,182] #[199] false,1,8,[.nilf]⟩),
 (201,⟨TypeDesc.func #[3,21,199] #[21] false,1,8,[.nilf]⟩),
 (202,⟨TypeDesc.int .i64,1,8,[.int .i64 0]⟩),
 (203,⟨TypeDesc.tuple #[114,68],1,0,[.unk]⟩),
 (204,⟨TypeDesc.func #[9,3,3] #[114,68] false,1,8,[.nilf]⟩),
 (205,⟨TypeDesc.pointer 216,1,8,[.nilp]⟩),
 (206,⟨TypeDesc.func #[9,9] #[205] false,1,8,[.nilf]⟩),
 (207,⟨TypeDesc.func #[9,9,3] #[205] false,1,8,[.nilf]⟩),
 (208,⟨TypeDesc.func #[30,124] #[3] false,1,8,[.nilf]⟩),
 (209,⟨TypeDesc.func #[21,21] #[9] false,1,8,[.nilf]⟩),
 (210,⟨TypeDesc.array 3 21,3,12,[.int .i32 0,.int .i32 0,.int .i32 0]⟩),
 (211,⟨TypeDesc.array 3 21,3,12,[.int .i32 0,.int .i32 0,.int .i32 0]⟩),
 (212,⟨Tryz.t212.desc,5,20,[.int .u32 0,.int .u32 0,.int .i32 0,.int .i32 0,.int .i32 0]⟩),
 (213,⟨Tryz.t212.desc,5,20,[.int .u32 0,.int .u32 0,.int .i32 0,.int .i32 0,.int .i32 0]⟩),
 (214,⟨TypeDesc.func #[5] #[5] false,1,8,[.nilf]⟩),
 (215,⟨Tryz.t215.desc,3,48,[.str [],.str [],.nili]⟩),
 (216,⟨Tryz.t215.desc,3,48,[.str [],.str [],.nili]⟩),
 (217,⟨TypeDesc.func #[9] #[68] false,1,8,[.nilf]⟩),
 (218,⟨TypeDesc.func #[30,3] #[4] false,1,8,[.nilf]⟩),
 (219,⟨TypeDesc.func #[2,3] #[9] false,1,8,[.nilf]⟩),
 (221,⟨Tryz.t221.desc,1,16,[.str []]⟩),
 (223,⟨TypeDesc.func #[30,3] #[3] false,1,8,[.nilf]⟩),
 (224,⟨TypeDesc.func #[3,3] #[9] false,1,8,[.nilf]⟩),
 (225,⟨TypeDesc.array 24 5,24,24,[.int .u8 0,.int .u8 0,.int .u8 0,.int .u8 0,.int .u8 0,.int .u8 0,.int .u8 0,.int .u8 0,.int .u8 0,.int .u8 0,.int .u8 0,.int .u8 0,.int .u8 0,.int .u8 0,.int .u8 0,.int .u8 0,.int .u8 0,.int .u8 0,.int .u8 0,.int .u8 0,.int .u8 0,.int .u8 0,.int .u8 0,.int .u8 0]⟩),
 (226,⟨TypeDesc.func #[114] #[3] false,1,8,[.nilf]⟩),
 (227,⟨TypeDesc.func #[56,114] #[] false,1,8,[.nilf]⟩),
 (228,⟨TypeDesc.tuple #[56,9],1,0,[.unk]⟩),
 (229,⟨TypeDesc.func #[56,114,3,4,4] #[56,9] false,1,8,[.nilf]⟩),
 (230,⟨TypeDesc.func #[3] #[3] false,1,8,[.nilf]⟩),
 (231,⟨TypeDesc.func #[4] #[3] false,1,8,[.nilf]⟩),
 (232,⟨TypeDesc.array 20 114,20,160,[.int .u64 0,.int .u64 0,.int .u64 0,.int .u64 0,.int .u64 0,.int .u64 0,.int .u64 0,.int .u64 0,.int .u64 0,.int .u64 0,.int .u64 0,.int .u64 0,.int .u64 0,.int .u64 0,.int .u64 0,.int .u64 0,.int .u64 0,.int .u64 0,.int .u64 0,.int .u64 0]⟩),
 (233,⟨TypeDesc.array 65 5,65,65,List.replicate 65 (.int .u8 0)⟩),
 (234,⟨TypeDesc.func #[88] #[3] false,1,8,[.nilf]⟩),
 (235,⟨TypeDesc.func #[111] #[3] false,1,8,[.nilf]⟩),
 (236,⟨TypeDesc.array 32 5,32,32,[.int .u8 0,.int .u8 0,.int .u8 0,.int .u8 0,.int .u8 0,.int .u8 0,.int .u8 0,.int .u8 0,.int .u8 0,.int .u8 0,.int .u8 0,.int .u8 0,.int .u8 0,.int .u8 0,.int .u8 0,.int .u8 0,.int .u8 0,.int .u8 0,.int .u8 0,.int .u8 0,.int .u8 0,.int .u8 0,.int .u8 0,.int .u8 0,.int .u8 0,.int .u8 0,.int .u8 0,.int .u8 0,.int .u8 0,.int .u8 0,.int .u8 0,.int .u8 0]⟩),
 (237,⟨TypeDesc.array 64 5,64,64,[.int .u8 0,.int .u8 0,.int .u8 0,.int .u8 0,.int .u8 0,.int .u8 0,.int .u8 0,.int .u8 0,.int .u8 0,.int .u8 0,.int .u8 0,.int .u8 0,.int .u8 0,.int .u8 0,.int .u8 0,.int .u8 0,.int .u8 0,.int .u8 0,.int .u8 0,.int .u8 0,.int .u8 0,.int .u8 0,.int .u8 0,.int .u8 0,.int .u8 0,.int .u8 0,.int .u8 0,.int .u8 0,.int .u8 0,.int .u8 0,.int .u8 0,.int .u8 0,.int .u8 0,.int .u8 0,.int .u8 0,.int .u8 0,.int .u8 0,.int .u8 0,.int .u8 0,.int .u8 0,.int .u8 0,.int .u8 0,.int .u8 0,.int .u8 0,.int .u8 0,.int .u8 0,.int .u8 0,.int .u8 0,.int .u8 0,.int .u8 0,.int .u8 0,.int .u8 0,.int .u8 0,.int .u8 0,.int .u8 0,.int .u8 0,.int .u8 0,.int .u8 0,.int .u8 0,.int .u8 0,.int .u8 0,.int .u8 0,.int .u8 0,.int .u8 0]⟩),
 (245,⟨TypeDesc.func #[117,117] #[4] false,1,8,[.nilf]⟩)]
theorem tc{P:Program}{l:List (Nat×TI)}{t:Nat}{d:TypeDesc}{a b:Nat}{z:List D}(h1:P.underlying t=some d)(h:TabOk P (In l))(h2:(P.info? t).map (fun i=>(i.size,i.bytes,i.zero.map fun z=>(z.cells.size,z.cells.toList.map Tu)))=some (a,b,some (a,z)):=by kernel_rfl):TabOk P (In ((t,⟨d,a,b,z⟩)::l)):=TabOk.cons (ti:=⟨d,a,b,z⟩) h1 h2 h
theorem Bd2:TabOk Tryz.prog (In tab) :=
 tc Tryz.underlying0 <|
 tc Tryz.underlying1 <|
 tc Tryz.underlying2 <|
 tc Tryz.underlying3 <|
 tc Tryz.underlying4 <|
 tc Tryz.underlying5 <|
 tc Tryz.underlying9 <|
 tc Tryz.underlying20 <|
 tc Tryz.underlying21 <|
 tc Tryz.underlying22 <|
 tc Tryz.underlying23 <|
 tc Tryz.underlying24 <|
 tc Tryz.underlying25 <|
 tc Tryz.underlying26 <|
 tc Tryz.underlying27 <|
 tc Tryz.underlying28 <|
 tc Tryz.underlying29 <|
 tc Tryz.underlying30 <|
 tc Tryz.underlying31 <|
 tc Tryz.underlying32 <|
 tc Tryz.underlying33 <|
 tc Tryz.underlying34 <|
 tc Tryz.underlying35 <|
 tc Tryz.underlying36 <|
 tc Tryz.underlying37 <|
 tc Tryz.underlying38 <|
 tc Tryz.underlying39 <|
 tc Tryz.underlying40 <|
 tc Tryz.underlying41 <|
 tc Tryz.underlying42 <|
 tc Tryz.underlying43 <|
 tc Tryz.underlying44 <|
 tc Tryz.underlying45 <|
 tc Tryz.underlying46 <|
 tc Tryz.underlying47 <|
 tc Tryz.underlying48 <|
 tc Tryz.underlying49 <|
 tc Tryz.underlying50 <|
 tc Tryz.underlying51 <|
 tc Tryz.underlying52 <|
 tc Tryz.underlying53 <|
 tc Tryz.underlying54 <|
 tc Tryz.underlying55 <|
 tc Tryz.underlying56 <|
 tc Tryz.underlying57 <|
 tc Tryz.underlying58 <|
 tc Tryz.underlying59 <|
 tc Tryz.underlying60 <|
 tc Tryz.underlying61 <|
 tc Tryz.underlying62 <|
 tc Tryz.underlying63 <|
 tc Tryz.underlying64 <|
 tc Tryz.underlying65 <|
 tc Tryz.underlying66 <|
 tc Tryz.underlying67 <|
 tc Tryz.underlying68 <|
 tc Tryz.underlying69 <|
 tc Tryz.underlying70 <|
 tc Tryz.underlying71 <|
 tc Tryz.underlying72 <|
 tc Tryz.underlying73 <|
 tc Tryz.underlying74 <|
 tc Tryz.underlying75 <|
 tc Tryz.underlying76 <|
 tc Tryz.underlying77 <|
 tc Tryz.underlying78 <|
 tc Tryz.underlying79 <|
 tc Tryz.underlying80 <|
 tc Tryz.underlying81 <|
 tc Tryz.underlying82 <|
 tc Tryz.underlying83 <|
 tc Tryz.underlying84 <|
 tc Tryz.underlying85 <|
 tc Tryz.underlying86 <|
 tc Tryz.underlying87 <|
 tc Tryz.underlying88 <|
 tc Tryz.underlying89 <|
 tc Tryz.underlying90 <|
 tc Tryz.underlying91 <|
 tc Tryz.underlying92 <|
 tc Tryz.underlying93 <|
 tc Tryz.underlying94 <|
 tc Tryz.underlying95 <|
 tc Tryz.underlying96 <|
 tc Tryz.underlying97 <|
 tc Tryz.underlying98 <|
 tc Tryz.underlying99 <|
 tc Tryz.underlying100 <|
 tc Tryz.underlying101 <|
 tc Tryz.underlying102 <|
 tc Tryz.underlying103 <|
 tc Tryz.underlying104 <|
 tc Tryz.underlying105 <|
 tc Tryz.underlying106 <|
 tc Tryz.underlying107 <|
 tc Tryz.underlying108 <|
 tc Tryz.underlying109 <|
 tc Tryz.underlying110 <|
 tc Tryz.underlying111 <|
 tc Tryz.underlying112 <|
 tc Tryz.underlying113 <|
 tc Tryz.underlying114 <|
 tc Tryz.underlying115 <|
 tc Tryz.underlying116 <|
 tc Tryz.underlying117 <|
 tc Tryz.underlying118 <|
 tc Tryz.underlying119 <|
 tc Tryz.underlying120 <|
 tc Tryz.underlying121 <|
 tc Tryz.underlying122 <|
 tc Tryz.underlying123 <|
 tc Tryz.underlying124 <|
 tc Tryz.underlying125 <|
 tc Tryz.underlying126 <|
 tc Tryz.underlying127 <|
 tc Tryz.underlying128 <|
 tc Tryz.underlying129 <|
 tc Tryz.underlying130 <|
 tc Tryz.underlying131 <|
 tc Tryz.underlying132 <|
 tc Tryz.underlying133 <|
 tc Tryz.underlying134 <|
 tc Tryz.underlying135 <|
 tc Tryz.underlying136 <|
 tc Tryz.underlying137 <|
 tc Tryz.underlying138 <|
 tc Tryz.underlying139 <|
 tc Tryz.underlying140 <|
 tc Tryz.underlying141 <|
 tc Tryz.underlying142 <|
 tc Tryz.underlying143 <|
 tc Tryz.underlying144 <|
 tc Tryz.underlying145 <|
 tc Tryz.underlying146 <|
 tc Tryz.underlying147 <|
 tc Tryz.underlying148 <|
 tc Tryz.underlying149 <|
 tc Tryz.underlying150 <|
 tc Tryz.underlying151 <|
 tc Tryz.underlying152 <|
 tc Tryz.underlying153 <|
 tc Tryz.underlying154 <|
 tc Tryz.underlying155 <|
 tc Tryz.underlying156 <|
 tc Tryz.underlying157 <|
 tc Tryz.underlying158 <|
 tc Tryz.underlying159 <|
 tc Tryz.underlying160 <|
 tc Tryz.underlying161 <|
 tc Tryz.underlying162 <|
 tc Tryz.underlying163 <|
 tc Tryz.underlying164 <|
 tc Tryz.underlying165 <|
 tc Tryz.underlying166 <|
 tc Tryz.underlying167 <|
 tc Tryz.underlying168 <|
 tc Tryz.underlying169 <|
 tc Tryz.underlying170 <|
 tc Tryz.underlying171 <|
 tc Tryz.underlying172 <|
 tc Tryz.underlying173 <|
 tc Tryz.underlying174 <|
 tc Tryz.underlying175 <|
 tc Tryz.underlying176 <|
 tc Tryz.underlying177 <|
 tc Tryz.underlying178 <|
 tc Tryz.underlying179 <|
 tc Tryz.underlying180 <|
 tc Tryz.underlying181 <|
 tc Tryz.underlying182 <|
 tc Tryz.underlying183 <|
 tc Tryz.underlying184 <|
 tc Tryz.underlying185 <|
 tc Tryz.underlying186 <|
 tc Tryz.underlying187 <|
 tc Tryz.underlying188 <|
 tc Tryz.underlying189 <|
 tc Tryz.underlying190 <|
 tc Tryz.underlying191 <|
 tc Tryz.underlying192 <|
 tc Tryz.underlying193 <|
 tc Tryz.underlying194 <|
 tc Tryz.underlying195 <|
 tc Tryz.underlying196 <|
 tc Tryz.underlying197 <|
 tc Tryz.underlying198 <|
 tc Tryz.underlying199 <|
 tc Tryz.underlying200 <|
 tc Tryz.underlying201 <|
 tc Tryz.underlying202 <|
 tc Tryz.underlying203 <|
 tc Tryz.underlying204 <|
 tc Tryz.underlying205 <|
 tc Tryz.underlying206 <|
 tc Tryz.underlying207 <|
 tc Tryz.underlying208 <|
 tc Tryz.underlying209 <|
 tc Tryz.underlying210 <|
 tc Tryz.underlying211 <|
 tc Tryz.underlying212 <|
 tc Tryz.underlying213 <|
 tc Tryz.underlying214 <|
 tc Tryz.underlying215 <|
 tc Tryz.underlying216 <|
 tc Tryz.underlying217 <|
 tc Tryz.underlying218 <|
 tc Tryz.underlying219 <|
 tc Tryz.underlying221 <|
 tc Tryz.underlying223 <|
 tc Tryz.underlying224 <|
 tc Tryz.underlying225 <|
 tc Tryz.underlying226 <|
 tc Tryz.underlying227 <|
 tc Tryz.underlying228 <|
 tc Tryz.underlying229 <|
 tc Tryz.underlying230 <|
 tc Tryz.underlying231 <|
 tc Tryz.underlying232 <|
 tc Tryz.underlying233 <|
 tc Tryz.underlying234 <|
 tc Tryz.underlying235 <|
 tc Tryz.underlying236 <|
 tc Tryz.underlying237 <|
 tc Tryz.underlying245 <|
 TabOk.nil _
noncomputable def Bk1:List (Nat×Frm):=[
 (3,{ fn:=Tryz.f3,n:=15,V:=3,cross:=[5],ord:=fun id=>match id with | 3=>([0,2,1,3,4,5,6,7,8],[1,3,6]) | _=>([],[]) }),
 (4,{ fn:=Tryz.f4,n:=25,V:=4,cross:=[6],ord:=fun _=>([],[]) }),
 (5,{ fn:=Tryz.f5,n:=116,V:=8,cross:=[10,41,50,53,61,71,75,114],ord:=fun id=>match id with | 18=>([0,1,2,3,4,5,6,7,8,9,10,11,12,13,14,15,16,17,18,19,20,21,22,23,24,25,26,27,28,29,30,31,32,33,34,35,36],[]) | _=>([],[]) }),
 (6,{ fn:=Tryz.f6,n:=7,V:=3,cross:=[],ord:=fun _=>([],[]) }),
 (7,{ fn:=Tryz.f7,n:=41,V:=4,cross:=[],ord:=fun id=>match id with | 2=>([0,1,2,3,4,5,6,7,8,9],[1,2,3,6,8,9]) | _=>([],[]) }),
 (8,{ fn:=Tryz.f8,n:=29,V:=4,cross:=[5,14,16,17,18,19],ord:=fun _=>([],[]) }),
 (9,{ fn:=Tryz.f9,n:=53,V:=6,cross:=[14,21,42],ord:=fun _=>([],[]) }),
 (10,{ fn:=Tryz.f10,n:=23,V:=5,cross:=[6,9,11,12,13,14],ord:=fun _=>([],[]) }),
 (11,{ fn:=Tryz.f11,n:=57,V:=6,cross:=[8,15,22,47],ord:=fun id=>match id with | 10=>([0,1,2,3,4,5,6,7,8,9,10,11,12,13,14,15,16,17,18,19,20,21,22],[8,21]) | _=>([],[]) }),
 (12,{ fn:=Tryz.f12,n:=55,V:=1,cross:=[2,3,4,5,6,7,10,19,29,36],ord:=fun id=>match id with | 11=>([0,1,2,3,4],[4]) | _=>([],[]) }),
 (13,{ fn:=Tryz.f13,n:=53,V:=2,cross:=[4,5,6,17,38],ord:=fun id=>match id with | 5=>([0,1,2,3,4,5,6,7,8,9,10,11,12,13,14,15,16],[14]) | _=>([],[]) }),
 (14,{ fn:=Tryz.f14,n:=5,V:=1,cross:=[2],ord:=fun _=>([],[]) }),
 (15,{ fn:=Tryz.f15,n:=72,V:=5,cross:=[6,8,10,12,16,18,19,20,21,25,26,27,28,38,40,41,42,43,47,48,49,50,59,62],ord:=fun _=>([],[]) }),
 (16,{ fn:=Tryz.f16,n:=34,V:=6,cross:=[7,8,9,10,15,21],ord:=fun _=>([],[]) }),
 (17,{ fn:=Tryz.f17,n:=71,V:=4,cross:=[8,24,34,57],ord:=fun id=>match id with | 1=>([0,1,2,3,4,5,6,7,8,9],[8,9]) | _=>([],[]) }),
 (18,{ fn:=Tryz.f18,n:=5,V:=2,cross:=[4],ord:=fun _=>([],[]) }),
 (19,{ fn:=Tryz.f19,n:=6,V:=1,cross:=[2],ord:=fun _=>([],[]) }),
 (20,{ fn:=Tryz.f20,n:=125,V:=2,cross:=[4,5,6,7,8,9,10,11,12,14,18,34,40,42,43,49,58,67,76,85,96,104,113],ord:=fun _=>([],[]) }),
 (21,{ fn:=Tryz.f21,n:=17,V:=2,cross:=[4],ord:=fun _=>([],[]) }),
 (22,{ fn:=Tryz.f22,n:=14,V:=1,cross:=[2],ord:=fun id=>match id with | 1=>([0,1,2,3,5,6,7,8,9,4,10,11],[4,10]) | _=>([],[]) }),
 (23,{ fn:=Tryz.f23,n:=56,V:=4,cross:=[7,12,41,45,55],ord:=fun _=>([],[]) }),
 (24,{ fn:=Tryz.f24,n:=61,V:=2,cross:=[4,5,6,10,14,25,41],ord:=fun _=>([],[]) }),
 (25,{ fn:=Tryz.f25,n:=6,V:=1,cross:=[2],ord:=fun _=>([],[]) }),
 (26,{ fn:=Tryz.f26,n:=40,V:=2,cross:=[4,5,6],ord:=fun id=>match id with | 1=>([0,1,2,3,4,5,6,7,8],[]) | _=>([],[]) }),
 (27,{ fn:=Tryz.f27,n:=29,V:=1,cross:=[2],ord:=fun _=>([],[]) }),
 (28,{ fn:=Tryz.f28,n:=3,V:=1,cross:=[2],ord:=fun _=>([],[]) }),
 (29,{ fn:=Tryz.f29,n:=40,V:=2,cross:=[4,5,6],ord:=fun id=>match id with | 1=>([0,1,2,3,4,5,6,7,8],[]) | _=>([],[]) }),
 (30,{ fn:=Tryz.f30,n:=44,V:=1,cross:=[11,20,21,23,25],ord:=fun id=>match id with | 0=>([0,1,2,3,4,5,6,7,8,9],[]) | 1=>([0,1,2,3,4,5,6,7,8],[]) | _=>([],[]) }),
 (31,{ fn:=Tryz.f31,n:=69,V:=1,cross:=[2,3,4,5,6,7,22,30,42,50],ord:=fun id=>match id with | 1=>([0,1,2,3,4,5,6,7,8,9],[]) | 13=>([0,1,2,3,4,5,6,7,8],[6]) | _=>([],[]) }),
 (32,{ fn:=Tryz.f32,n:=63,V:=3,cross:=[4,5,6,35,51],ord:=fun _=>([],[]) }),
 (33,{ fn:=Tryz.f33,n:=14,V:=3,cross:=[5],ord:=fun _=>([],[]) }),
 (34,{ fn:=Tryz.f34,n:=13,V:=5,cross:=[],ord:=fun _=>([],[]) }),
 (35,{ fn:=Tryz.f35,n:=11,V:=5,cross:=[],ord:=fun _=>([],[]) }),
 (36,{ fn:=Tryz.f36,n:=128,V:=2,cross:=[4,5,6,8,9,14,15,16,17,32,37,38,57,98],ord:=fun _=>([],[]) }),
 (37,{ fn:=Tryz.f37,n:=6,V:=3,cross:=[],ord:=fun _=>([],[]) }),
 (38,{ fn:=Tryz.f38,n:=27,V:=7,cross:=[12],ord:=fun _=>([],[]) }),
 (39,{ fn:=Tryz.f39,n:=19,V:=2,cross:=[4,5],ord:=fun _=>([],[]) }),
 (40,{ fn:=Tryz.f40,n:=30,V:=2,cross:=[4,5,6,7,8,9],ord:=fun _=>([],[]) }),
 (41,{ fn:=Tryz.f41,n:=8,V:=2,cross:=[4],ord:=fun _=>([],[]) }),
 (42,{ fn:=Tryz.f42,n:=25,V:=2,cross:=[7,21],ord:=fun id=>match id with | 3=>([0,1,2,3,5,6,7,8,9,11,4,10,12],[4]) | _=>([],[]) }),
 (43,{ fn:=Tryz.f43,n:=8,V:=1,cross:=[2],ord:=fun _=>([],[]) }),
 (44,{ fn:=Tryz.f44,n:=20,V:=1,cross:=[6,19],ord:=fun _=>([],[]) }),
 (45,{ fn:=Tryz.f45,n:=65,V:=3,cross:=[4,5,6,7,9,14,31,51],ord:=fun _=>([],[]) }),
 (46,{ fn:=Tryz.f46,n:=56,V:=2,cross:=[4,5,6,15,39],ord:=fun _=>([],[]) }),
 (47,{ fn:=Tryz.f47,n:=130,V:=1,cross:=[2,3,4,5,8,12,27,29,30,51,52,56,74,101,102,129],ord:=fun id=>match id with | 18=>([0,1,2,3,4,5,6,7,8,9,10,11,12,13,14,15],[]) | _=>([],[]) }),
 (48,{ fn:=Tryz.f48,n:=39,V:=1,cross:=[2,3,7,15],ord:=fun _=>([],[]) }),
 (49,{ fn:=Tryz.f49,n:=13,V:=1,cross:=[2,3,4,7],ord:=fun _=>([],[]) }),
 (50,{ fn:=Tryz.f50,n:=39,V:=4,cross:=[5,8,9,13,22],ord:=fun id=>match id with | 4=>([0,1,2,3,4,5,6],[]) | _=>([],[]) }),
 (51,{ fn:=Tryz.f51,n:=29,V:=1,cross:=[2],ord:=fun _=>([],[]) }),
 (52,{ fn:=Tryz.f52,n:=27,V:=3,cross:=[6,23],ord:=fun _=>([],[]) }),
 (53,{ fn:=Tryz.f53,n:=5,V:=1,cross:=[2],ord:=fun _=>([],[]) }),
 (54,{ fn:=Tryz.f54,n:=9,V:=1,cross:=[2],ord:=fun _=>([],[]) }),
 (55,{ fn:=Tryz.f55,n:=80,V:=1,cross:=[2,3,4,5,6,7,18,53,70],ord:=fun id=>match id with | 7=>([0,1,2,3,4,5,6,7,8,9,10,11,12,13,14,15],[10]) | _=>([],[]) }),
 (56,{ fn:=Tryz.f56,n:=13,V:=1,cross:=[2],ord:=fun _=>([],[]) }),
 (57,{ fn:=Tryz.f57,n:=44,V:=1,cross:=[2,3,4,5,22,29,35],ord:=fun id=>match id with | 2=>([0,1,2,3,4,5,6,7,8,9,10],[]) | _=>([],[]) }),
 (58,{ fn:=Tryz.f58,n:=105,V:=2,cross:=[4,5,6,7,8,9,10,11,12,13,14,15,25,34,61,68,98],ord:=fun id=>match id with | 7=>([0,1,2,3,4,5,6,7],[5]) | 9=>([0,1,2,3,4,5,6,7,8,9,10],[7,9,10]) | 14=>([0,1,2,3,4,5,6,7],[5]) | _=>([],[]) }),
 (59,{ fn:=Tryz.f59,n:=42,V:=1,cross:=[2,3,4,6,9,10,11,12,32,36],ord:=fun id=>match id with | 5=>([0,1,2,3,4,5,6,7,8,9,10,11,12,13,14,15,16,17],[16]) | _=>([],[]) }),
 (60,{ fn:=Tryz.f60,n:=9,V:=2,cross:=[4],ord:=fun _=>([],[]) }),
 (61,{ fn:=Tryz.f61,n:=26,V:=4,cross:=[5,9,10,11,12],ord:=fun id=>match id with | 5=>([0,1,2,3,4,6,5,7,8,9],[5,7,8]) | _=>([],[]) }),
 (62,{ fn:=Tryz.f62,n:=8,V:=4,cross:=[],ord:=fun _=>([],[]) }),
 (63,{ fn:=Tryz.f63,n:=21,V:=4,cross:=[5,9,10,11,12,16],ord:=fun _=>([],[]) }),
 (64,{ fn:=Tryz.f64,n:=25,V:=3,cross:=[7,10],ord:=fun _=>([],[]) }),
 (65,{ fn:=Tryz.f65,n:=41,V:=3,cross:=[],ord:=fun _=>([],[]) }),
 (66,{ fn:=Tryz.f66,n:=75,V:=1,cross:=[2,3,4,5,30,32,33,34,57,60,66,68,74],ord:=fun _=>([],[]) }),
 (67,{ fn:=Tryz.f67,n:=9,V:=2,cross:=[4],ord:=fun _=>([],[]) }),
 (68,{ fn:=Tryz.f68,n:=7,V:=2,cross:=[3],ord:=fun _=>([],[]) }),
 (69,{ fn:=Tryz.f69,n:=10,V:=2,cross:=[3,4,5],ord:=fun _=>([],[]) }),
 (70,{ fn:=Tryz.f70,n:=8,V:=3,cross:=[5],ord:=fun _=>([],[]) }),
 (71,{ fn:=Tryz.f71,n:=53,V:=2,cross:=[4,5,6,15,21,39,45],ord:=fun _=>([],[]) }),
 (72,{ fn:=Tryz.f72,n:=17,V:=2,cross:=[4,5,6],ord:=fun _=>([],[]) }),
 (73,{ fn:=Tryz.f73,n:=51,V:=2,cross:=[4,5,6,7,8,9,10,11,12,13],ord:=fun _=>([],[]) }),
 (74,{ fn:=Tryz.f74,n:=18,V:=2,cross:=[4],ord:=fun _=>([],[]) }),
 (75,{ fn:=Tryz.f75,n:=30,V:=2,cross:=[4],ord:=fun id=>match id with | 0=>([0,1,2,3,6,9,10,11,12,13,4,5,7,8,14,15],[4,8]) | _=>([],[]) }),
 (77,{ fn:=Tryz.f77,n:=41,V:=3,cross:=[4,5,6,16],ord:=fun _=>([],[]) }),
 (78,{ fn:=Tryz.f78,n:=46,V:=4,cross:=[21,24,28,31,36,45],ord:=fun _=>([],[]) }),
 (79,{ fn:=Tryz.f79,n:=26,V:=3,cross:=[],ord:=fun _=>([],[]) }),
 (80,{ fn:=Tryz.f80,n:=47,V:=1,cross:=[2,3,14,18,46],ord:=fun _=>([],[]) }),
 (81,{ fn:=Tryz.f81,n:=28,V:=2,cross:=[4,5,9,27],ord:=fun _=>([],[]) }),
 (82,{ fn:=Tryz.f82,n:=151,V:=3,cross:=[4,5,6,7,8,9,10,11,16,22,28,40,56,79,95,119,125,137],ord:=fun id=>match id with | 13=>([0,1,2,3,4,5,6,8,9,10,11,12,7,13,14],[7,13]) | 15=>([0,1,2,3,4,5,6,8,9,10,11,12,13,15,16,17,18,19,7,14,20,21],[7,14,20]) | 17=>([0,1,2,3,4,5,6,8,9,10,11,12,7,13,14],[7,13]) | 20=>([0,1,2,3,4,5,6,8,9,10,11,12,14,15,16,17,18,19,7,13,20,21],[7,13,20]) | 27=>([0,3,4,5,6,1,2,7,8,9,10,11],[1,2,7,8,9,10]) | _=>([],[]) }),
 (83,{ fn:=Tryz.f83,n:=49,V:=1,cross:=[2,3,4,5,6,7,8,9,11,12,13,16,23,39,45],ord:=fun _=>([],[]) }),
 (84,{ fn:=Tryz.f84,n:=9,V:=1,cross:=[2],ord:=fun _=>([],[]) }),
 (85,{ fn:=Tryz.f85,n:=9,V:=1,cross:=[2],ord:=fun _=>([],[]) }),
 (86,{ fn:=Tryz.f86,n:=11,V:=1,cross:=[2],ord:=fun _=>([],[]) }),
 (87,{ fn:=Tryz.f87,n:=78,V:=1,cross:=[2,3,4,5,6,7,8,9,10,14,21,31,33,41,52,57,70],ord:=fun _=>([],[]) }),
 (88,{ fn:=Tryz.f88,n:=80,V:=2,cross:=[4,5,6,7,8,9,16,48,57,58,60,62,64,68],ord:=fun _=>([],[]) }),
 (89,{ fn:=Tryz.f89,n:=21,V:=2,cross:=[4],ord:=fun _=>([],[]) }),
 (90,{ fn:=Tryz.f90,n:=30,V:=2,cross:=[4,5,6],ord:=fun _=>([],[]) }),
 (91,{ fn:=Tryz.f91,n:=2,V:=1,cross:=[],ord:=fun _=>([],[]) }),
 (92,{ fn:=Tryz.f92,n:=19,V:=2,cross:=[4,5,7,8,9,16],ord:=fun _=>([],[]) }),
 (93,{ fn:=Tryz.f93,n:=75,V:=3,cross:=[4],ord:=fun _=>([],[]) }),
 (94,{ fn:=Tryz.f94,n:=55,V:=5,cross:=[26,34,35,40,41,47,48,51],ord:=fun id=>match id with | 3=>([0,1,3,4,2,5,6,7],[2,5]) | _=>([],[]) }),
 (95,{ fn:=Tryz.f95,n:=104,V:=7,cross:=[10,12,13,49,64,71,82,89,93],ord:=fun _=>([],[]) }),
 (96,{ fn:=Tryz.f96,n:=146,V:=7,cross:=[8,9,37,50,64,76,87,110,117],ord:=fun id=>match id with | 4=>([0,1,2,3,4,5,6,7,8,9,10,11,12,13,14,15,16,17,18,20,21,22,19,23,24,25,26],[19,23,24]) | _=>([],[]) }),
 (97,{ fn:=Tryz.f97,n:=6,V:=3,cross:=[],ord:=fun _=>([],[]) }),
 (98,{ fn:=Tryz.f98,n:=14,V:=1,cross:=[2,3,10],ord:=fun _=>([],[]) }),
 (99,{ fn:=Tryz.f99,n:=14,V:=1,cross:=[2,3,10],ord:=fun _=>([],[]) }),
 (100,{ fn:=Tryz.f100,n:=19,V:=2,cross:=[4,5,7,8,9,16],ord:=fun _=>([],[]) }),
 (101,{ fn:=Tryz.f101,n:=20,V:=5,cross:=[],ord:=fun _=>([],[]) }),
 (102,{ fn:=Tryz.f102,n:=9,V:=2,cross:=[4],ord:=fun _=>([],[]) }),
 (103,{ fn:=Tryz.f103,n:=8,V:=4,cross:=[],ord:=fun id=>match id with | 1=>([0,2,1,3,4],[1,3]) | _=>([],[]) }),
 (104,{ fn:=Tryz.f104,n:=14,V:=4,cross:=[6,10],ord:=fun _=>([],[]) }),
 (105,{ fn:=Tryz.f105,n:=111,V:=4,cross:=[5,7,8,13,17,19,21,23,25,27,29,34,39,45,60,83,89,95,96,97,98],ord:=fun id=>match id with | 25=>([0,1,2,3,7,8,9,10,4,5,6,11,12,13],[4,5,11]) | 27=>([0,1,2,3,7,8,9,10,15,16,17,18,4,5,6,11,12,13,14,19,20,21],[4,5,11,12,19]) | _=>([],[]) }),
 (106,{ fn:=Tryz.f106,n:=8,V:=2,cross:=[4],ord:=fun _=>([],[]) }),
 (108,{ fn:=Tryz.f108,n:=49,V:=5,cross:=[31,38,42],ord:=fun id=>match id with | 3=>([0,1,3,4,2,5,6,7],[2,5]) | _=>([],[]) }),
 (109,{ fn:=Tryz.f109,n:=122,V:=4,cross:=[5,6,44,63,74,93,104],ord:=fun id=>match id with | 19=>([0,1,2,3,4,5,6,7,8,9,10,11,12,13,14,15,16],[1,5,13]) | _=>([],[]) }),
 (110,{ fn:=Tryz.f110,n:=119,V:=4,cross:=[6,8,9,15,24,40,50,60,70,82,99],ord:=fun _=>([],[]) }),
 (111,{ fn:=Tryz.f111,n:=89,V:=6,cross:=[64,69,83],ord:=fun id=>match id with | 6=>([0,1,2,3,4,5,6,7,8,9,10,11],[10]) | _=>([],[]) }),
 (112,{ fn:=Tryz.f112,n:=9,V:=1,cross:=[2],ord:=fun _=>([],[]) }),
 (113,{ fn:=Tryz.f113,n:=24,V:=3,cross:=[4,5,9,14,23],ord:=fun _=>([],[]) }),
 (114,{ fn:=Tryz.f114,n:=18,V:=3,cross:=[15],ord:=fun _=>([],[]) }),
 (115,{ fn:=Tryz.f115,n:=9,V:=2,cross:=[4],ord:=fun _=>([],[]) }),
 (116,{ fn:=Tryz.f116,n:=2,V:=1,cross:=[],ord:=fun _=>([],[]) }),
 (117,{ fn:=Tryz.f117,n:=85,V:=2,cross:=[4,5,6,7,8,9,11,12,14,15,16,28,30,44,56,65,68,69,70,76,78],ord:=fun _=>([],[]) }),
 (118,{ fn:=Tryz.f118,n:=16,V:=1,cross:=[2,4,10],ord:=fun _=>([],[]) }),
 (119,{ fn:=Tryz.f119,n:=19,V:=1,cross:=[2,3,10],ord:=fun _=>([],[]) }),
 (120,{ fn:=Tryz.f120,n:=77,V:=2,cross:=[4,5,6,7,8,9,25,57],ord:=fun _=>([],[]) }),
 (121,{ fn:=Tryz.f121,n:=16,V:=2,cross:=[4,7],ord:=fun _=>([],[]) }),
 (122,{ fn:=Tryz.f122,n:=24,V:=3,cross:=[],ord:=fun _=>([],[]) }),
 (123,{ fn:=Tryz.f123,n:=16,V:=7,cross:=[],ord:=fun _=>([],[]) }),
 (124,{ fn:=Tryz.f124,n:=9,V:=3,cross:=[4],ord:=fun _=>([],[]) }),
 (125,{ fn:=Tryz.f125,n:=48,V:=2,cross:=[4,5,6,7,8,10,26,37],ord:=fun id=>match id with | 9=>([0,1,2,3,4,5,6,7,8,9],[7]) | _=>([],[]) }),
 (126,{ fn:=Tryz.f126,n:=19,V:=2,cross:=[4,5,7,8,9,16],ord:=fun _=>([],[]) }),
 (127,{ fn:=Tryz.f127,n:=8,V:=3,cross:=[5],ord:=fun _=>([],[]) }),
 (128,{ fn:=Tryz.f128,n:=23,V:=2,cross:=[4,5,7,8,9,10,11],ord:=fun _=>([],[]) }),
 (129,{ fn:=Tryz.f129,n:=15,V:=3,cross:=[4,8],ord:=fun _=>([],[]) }),
 (130,{ fn:=Tryz.f130,n:=30,V:=4,cross:=[19],ord:=fun id=>match id with | 1=>([0,1,2,3,7,8,9,10,4,5,6,11,12,13],[4,5,11]) | _=>([],[]) }),
 (131,{ fn:=Tryz.f131,n:=27,V:=3,cross:=[4,5,14],ord:=fun id=>match id with | 3=>([0,1,2,3,4,5,6,7],[5]) | 5=>([0,1,4,5,2,3,6,7,8],[2,6]) | _=>([],[]) }),
 (132,{ fn:=Tryz.f132,n:=75,V:=2,cross:=[4,5,7,8,10,12,13,15,22,29,39,40,41,42,49,63,64,65,66],ord:=fun _=>([],[]) }),
 (133,{ fn:=Tryz.f133,n:=8,V:=2,cross:=[4],ord:=fun _=>([],[]) }),
 (134,{ fn:=Tryz.f134,n:=64,V:=8,cross:=[14],ord:=fun _=>([],[]) }),
 (135,{ fn:=Tryz.f135,n:=11,V:=5,cross:=[],ord:=fun _=>([],[]) }),
 (136,{ fn:=Tryz.f136,n:=11,V:=1,cross:=[2,8,10],ord:=fun _=>([],[]) }),
 (137,{ fn:=Tryz.f137,n:=29,V:=3,cross:=[4,5,11,15,28],ord:=fun id=>match id with | 6=>([0,1,2,3,4,5,6,7,8,9,10],[]) | _=>([],[]) }),
 (138,{ fn:=Tryz.f138,n:=21,V:=3,cross:=[],ord:=fun _=>([],[]) }),
 (139,{ fn:=Tryz.f139,n:=55,V:=6,cross:=[35,40,54],ord:=fun id=>match id with | 6=>([0,1,2,3,4,5,6,7,8,9,10,11],[10]) | _=>([],[]) }),
 (140,{ fn:=Tryz.f140,n:=64,V:=2,cross:=[4,5,9,63],ord:=fun id=>match id with | 4=>([0,1,2,3,4,5,6,7,8,9,10,11,12,13,14,15,16,17,18,19,20,21,22,23,24,25,26,27,28,29,30,31,32,33,34,35,36,37,38,39,40,41,42,43,44,45,46,47,48,49,50,51],[35,49]) | _=>([],[]) }),
 (141,{ fn:=Tryz.f141,n:=57,V:=2,cross:=[4,5,6,9,13,19,27,56],ord:=fun _=>([],[]) }),
 (142,{ fn:=Tryz.f142,n:=140,V:=7,cross:=[11,14,20,40,73,93,127,133],ord:=fun id=>match id with | 9=>([0,1,2,3,4,5,6,7,8,12,13,14,15,9,10,11,16,17,18],[9,10,16]) | 11=>([0,1,2,3,4,5,6,7,8,12,13,14,15,16,17,18,19,20,25,26,27,28,9,10,11,21,22,23,24,29,30,31],[9,10,21,22,29]) | 13=>([0,1,2,3,4,5,6,7,8,12,13,14,15,9,10,11,16,17,18],[9,10,16]) | 16=>([0,1,2,3,4,5,6,7,8,12,13,14,15,19,20,21,22,23,24,25,26,27,9,10,11,16,17,18,28,29,30,31],[9,10,16,28,29]) | _=>([],[]) }),
 (143,{ fn:=Tryz.f143,n:=19,V:=2,cross:=[4,5,7,8,9,16],ord:=fun _=>([],[]) }),
 (144,{ fn:=Tryz.f144,n:=25,V:=1,cross:=[2,3,6,9,12,19,22],ord:=fun _=>([],[]) }),
 (145,{ fn:=Tryz.f145,n:=8,V:=1,cross:=[2],ord:=fun _=>([],[]) }),
 (146,{ fn:=Tryz.f146,n:=13,V:=2,cross:=[4],ord:=fun _=>([],[]) }),
 (147,{ fn:=Tryz.f147,n:=117,V:=1,cross:=[2,3,4,5,6,7,8,9,10,11,12,16,23,45,57,59,75,77,98],ord:=fun _=>([],[]) }),
 (148,{ fn:=Tryz.f148,n:=13,V:=1,cross:=[2],ord:=fun _=>([],[]) }),
 (149,{ fn:=Tryz.f149,n:=25,V:=3,cross:=[6,7,8,17],ord:=fun _=>([],[]) }),
 (150,{ fn:=Tryz.f150,n:=17,V:=1,cross:=[2,3,10],ord:=fun _=>([],[]) }),
 (151,{ fn:=Tryz.f151,n:=78,V:=2,cross:=[4,5,11,25,50],ord:=fun _=>([],[]) }),
 (152,{ fn:=Tryz.f152,n:=87,V:=7,cross:=[8,9,10,12,13,14,15,19,22,23,24,25,45,55,56,57,58,69,84],ord:=fun id=>match id with | 10=>([0,1,2,3,4,5,6,7,8],[]) | _=>([],[]) }),
 (153,{ fn:=Tryz.f153,n:=44,V:=5,cross:=[12,13,16,20,25,29,34],ord:=fun id=>match id with | 1=>([0,1,2,3,4,5,6,7],[]) | _=>([],[]) }),
 (154,{ fn:=Tryz.f154,n:=9,V:=1,cross:=[2],ord:=fun _=>([],[]) }),
 (155,{ fn:=Tryz.f155,n:=17,V:=1,cross:=[2],ord:=fun _=>([],[]) }),
 (156,{ fn:=Tryz.f156,n:=32,V:=3,cross:=[6,7,8,9,14,15,16,17,18,30],ord:=fun _=>([],[]) }),
 (157,{ fn:=Tryz.f157,n:=9,V:=3,cross:=[4],ord:=fun _=>([],[]) }),
 (158,{ fn:=Tryz.f158,n:=90,V:=5,cross:=[12,27,43,55,71,74,79],ord:=fun _=>([],[]) }),
 (159,{ fn:=Tryz.f159,n:=9,V:=2,cross:=[4],ord:=fun _=>([],[]) }),
 (161,{ fn:=Tryz.f161,n:=107,V:=11,cross:=[18,23,30,43,48,76,81,94,105],ord:=fun id=>match id with | 9=>([0,2,3,1,4,5,6,7,8,9],[1,4]) | _=>([],[]) }),
 (162,{ fn:=Tryz.f162,n:=26,V:=2,cross:=[4,5,10,14,25],ord:=fun id=>match id with | 6=>([0,1,2,3,4,5,6,7,8],[]) | _=>([],[]) }),
 (163,{ fn:=Tryz.f163,n:=31,V:=2,cross:=[4,5,6,10,14],ord:=fun id=>match id with | 7=>([0,1,2,3,4,5,6,7,8,9,10,11,12,13],[10,11]) | _=>([],[]) }),
 (164,{ fn:=Tryz.f164,n:=12,V:=3,cross:=[4,5],ord:=fun _=>([],[]) }),
 (165,{ fn:=Tryz.f165,n:=19,V:=3,cross:=[4,5,9,18],ord:=fun id=>match id with | 4=>([0,1,2,3,4,5,6],[]) | _=>([],[]) }),
 (166,{ fn:=Tryz.f166,n:=56,V:=2,cross:=[4,5,6,10,14,23,37],ord:=fun _=>([],[]) }),
 (167,{ fn:=Tryz.f167,n:=34,V:=3,cross:=[4,5,10,14,19,24,26,28,30,32],ord:=fun _=>([],[]) }),
 (168,{ fn:=Tryz.f168,n:=25,V:=3,cross:=[6,7,8,14,19],ord:=fun _=>([],[]) }),
 (169,{ fn:=Tryz.f169,n:=73,V:=3,cross:=[6,7,8,9,10,11,13,16,17,21,38,41,52,62,69],ord:=fun _=>([],[]) }),
 (170,{ fn:=Tryz.f170,n:=43,V:=5,cross:=[10,11,12,19,26,34],ord:=fun _=>([],[]) }),
 (171,{ fn:=Tryz.f171,n:=9,V:=2,cross:=[4],ord:=fun _=>([],[]) }),
 (172,{ fn:=Tryz.f172,n:=5,V:=1,cross:=[2],ord:=fun _=>([],[]) }),
 (173,{ fn:=Tryz.f173,n:=31,V:=1,cross:=[2,3,5,8,9,10,11,12,15,22,29],ord:=fun _=>([],[]) }),
 (174,{ fn:=Tryz.f174,n:=8,V:=1,cross:=[2,5],ord:=fun _=>([],[]) }),
 (175,{ fn:=Tryz.f175,n:=13,V:=1,cross:=[2,3,8],ord:=fun _=>([],[]) }),
 (176,{ fn:=Tryz.f176,n:=27,V:=2,cross:=[4,5,7,10,11,12,13],ord:=fun _=>([],[]) }),
 (177,{ fn:=Tryz.f177,n:=5,V:=1,cross:=[2],ord:=fun _=>([],[]) }),
 (178,{ fn:=Tryz.f178,n:=44,V:=4,cross:=[5,7,10,15,16,17,18,28,29,30,31],ord:=fun _=>([],[]) }),
 (179,{ fn:=Tryz.f179,n:=20,V:=3,cross:=[4,5,9,13],ord:=fun _=>([],[]) }),
 (180,{ fn:=Tryz.f180,n:=36,V:=3,cross:=[4,12,16],ord:=fun id=>match id with | 4=>([0,1,2,3,4,5,6,7,8,9,10],[7,8,10]) | 5=>([0,1,2,3,4,5,6,7,8,9],[7,9]) | _=>([],[]) }),
 (181,{ fn:=Tryz.f181,n:=28,V:=1,cross:=[2,3,4,5,6,7,8,9,10,15,20],ord:=fun _=>([],[]) }),
 (182,{ fn:=Tryz.f182,n:=19,V:=2,cross:=[4,5,7,8,9,16],ord:=fun _=>([],[]) }),
 (183,{ fn:=Tryz.f183,n:=21,V:=1,cross:=[2,3,6,10,17,20],ord:=fun _=>([],[]) }),
 (184,{ fn:=Tryz.f184,n:=16,V:=3,cross:=[4,5,11],ord:=fun _=>([],[]) }),
 (185,{ fn:=Tryz.f185,n:=17,V:=1,cross:=[2,3,7,14],ord:=fun _=>([],[]) }),
 (186,{ fn:=Tryz.f186,n:=9,V:=1,cross:=[2],ord:=fun _=>([],[]) }),
 (187,{ fn:=Tryz.f187,n:=17,V:=1,cross:=[2],ord:=fun _=>([],[]) }),
 (188,{ fn:=Tryz.f188,n:=33,V:=5,cross:=[20],ord:=fun _=>([],[]) }),
 (189,{ fn:=Tryz.f189,n:=8,V:=3,cross:=[5],ord:=fun _=>([],[]) }),
 (190,{ fn:=Tryz.f190,n:=18,V:=1,cross:=[2,3,12],ord:=fun _=>([],[]) }),
 (191,{ fn:=Tryz.f191,n:=18,V:=1,cross:=[2,3,12],ord:=fun _=>([],[]) }),
 (192,{ fn:=Tryz.f192,n:=50,V:=2,cross:=[4,5,6,7,8,13,38,46],ord:=fun _=>([],[]) }),
 (193,{ fn:=Tryz.f193,n:=37,V:=3,cross:=[6,7,15],ord:=fun id=>match id with | 3=>([0,1,2,3,5,6,7,8,9,13,14,4,10,11,12,15,16,17,18],[4,10,15]) | _=>([],[]) }),
 (194,{ fn:=Tryz.f194,n:=172,V:=3,cross:=[6,7,8,9,10,11,12,13,15,16,17,19,25,32,37,40,52,64,77,83,85,90,92,99,100,101,102,106,112,121,137,141,159,169],ord:=fun _=>([],[]) }),
 (195,{ fn:=Tryz.f195,n:=11,V:=2,cross:=[4],ord:=fun id=>match id with | 1=>([0,1,3,2,4,5,6],[2,5]) | _=>([],[]) }),
 (196,{ fn:=Tryz.f196,n:=11,V:=2,cross:=[4],ord:=fun id=>match id with | 1=>([0,1,3,2,4,5,6],[2,5]) | _=>([],[]) }),
 (197,{ fn:=Tryz.f197,n:=16,V:=3,cross:=[6],ord:=fun _=>([],[]) }),
 (198,{ fn:=Tryz.f198,n:=16,V:=3,cross:=[6],ord:=fun _=>([],[]) }),
 (199,{ fn:=Tryz.f199,n:=19,V:=2,cross:=[4,5,7,8,9,16],ord:=fun _=>([],[]) }),
 (200,{ fn:=Tryz.f200,n:=19,V:=1,cross:=[2,3,5,7,8,9,10,11],ord:=fun _=>([],[]) }),
 (201,{ fn:=Tryz.f201,n:=5,V:=1,cross:=[2],ord:=fun _=>([],[]) }),
 (202,{ fn:=Tryz.f202,n:=32,V:=2,cross:=[4,5,6,8,10,12,24],ord:=fun _=>([],[]) }),
 (203,{ fn:=Tryz.f203,n:=16,V:=3,cross:=[4,5,11],ord:=fun _=>([],[]) }),
 (204,{ fn:=Tryz.f204,n:=47,V:=6,cross:=[32,33,34,35],ord:=fun id=>match id with | 1=>([0,1,2,3,4,6,7,8,10,11,12,5,9,13,14,15,16],[5,9,13,15,16]) | 7=>([0,1,2,3,4,5,6],[4,6]) | _=>([],[]) }),
 (205,{ fn:=Tryz.f205,n:=30,V:=1,cross:=[2,3,4,8,15,20,28],ord:=fun _=>([],[]) }),
 (206,{ fn:=Tryz.f206,n:=64,V:=5,cross:=[8,19,31,39,46],ord:=fun _=>([],[]) }),
 (207,{ fn:=Tryz.f207,n:=5,V:=1,cross:=[2],ord:=fun _=>([],[]) }),
 (208,{ fn:=Tryz.f208,n:=94,V:=1,cross:=[2,3,4,5,18,46,54,83,87,89,91],ord:=fun _=>([],[]) }),
 (209,{ fn:=Tryz.f209,n:=18,V:=1,cross:=[2,3,6],ord:=fun _=>([],[]) }),
 (210,{ fn:=Tryz.f210,n:=7,V:=1,cross:=[2],ord:=fun _=>([],[]) }),
 (211,{ fn:=Tryz.f211,n:=9,V:=2,cross:=[4],ord:=fun _=>([],[]) }),
 (212,{ fn:=Tryz.f212,n:=5,V:=1,cross:=[2],ord:=fun _=>([],[]) }),
 (213,{ fn:=Tryz.f213,n:=8,V:=2,cross:=[4],ord:=fun _=>([],[]) }),
 (214,{ fn:=Tryz.f214,n:=27,V:=3,cross:=[4,11,18],ord:=fun _=>([],[]) }),
 (215,{ fn:=Tryz.f215,n:=25,V:=5,cross:=[10],ord:=fun _=>([],[]) }),
 (216,{ fn:=Tryz.f216,n:=36,V:=5,cross:=[7,16,20],ord:=fun _=>([],[]) }),
 (217,{ fn:=Tryz.f217,n:=26,V:=1,cross:=[2,3,4,9,13],ord:=fun _=>([],[]) }),
 (218,{ fn:=Tryz.f218,n:=20,V:=3,cross:=[4,5,9,13],ord:=fun _=>([],[]) }),
 (219,{ fn:=Tryz.f219,n:=34,V:=3,cross:=[4,12,16],ord:=fun id=>match id with | 5=>([0,1,2,3,4,5,6,7,8,9],[7,9]) | _=>([],[]) }),
 (220,{ fn:=Tryz.f220,n:=19,V:=2,cross:=[4,5,7,8,9,16],ord:=fun _=>([],[]) }),
 (221,{ fn:=Tryz.f221,n:=54,V:=2,cross:=[4,5,6,7,8,9,11,17,23,34],ord:=fun _=>([],[]) }),
 (222,{ fn:=Tryz.f222,n:=41,V:=1,cross:=[2,3,4,10,23],ord:=fun id=>match id with | 7=>([0,1,3,4,5,6,7,2,8,9],[2]) | _=>([],[]) }),
 (223,{ fn:=Tryz.f223,n:=33,V:=2,cross:=[4,5,6,8,10,12,25],ord:=fun _=>([],[]) }),
 (224,{ fn:=Tryz.f224,n:=33,V:=5,cross:=[18],ord:=fun id=>match id with | 1=>([0,1,2,3,5,6,4,7,8,9,10],[4,7,9,10]) | 5=>([0,1,2,3,4,5,6,7,8,9,10,11],[7,8,9,11]) | _=>([],[]) }),
 (225,{ fn:=Tryz.f225,n:=15,V:=1,cross:=[2,4],ord:=fun _=>([],[]) }),
 (226,{ fn:=Tryz.f226,n:=15,V:=1,cross:=[2,3],ord:=fun _=>([],[]) }),
 (227,{ fn:=Tryz.f227,n:=167,V:=2,cross:=[4,5,6,7,8,9,10,11,12,13,14,15,16,20,99,139,161],ord:=fun id=>match id with | 7=>([0,1,2,3,4,5,6,7,8,9,10,11,12,13,14],[12,14]) | 8=>([0,1,2,3,4,5,6,7,8,9,10,11,12,13,14],[12,14]) | 9=>([0,1,2,3,4,5,6,7,8,9,10,11,12,13,14],[12,14]) | 10=>([0,1,2,3,4,5,6,7,8,9,10,11,12,13,14],[12,14]) | 17=>([0,1,2,3,4,5,6,7,8,9,10,11,12,13,14],[12,14]) | 18=>([0,1,2,3,4,5,6,7,8,9,10,11,12,13,14],[12,14]) | 23=>([0,1,2,3,4,5,6,7,8,9,10,11,12,13,14],[12,14]) | _=>([],[]) }),
 (228,{ fn:=Tryz.f228,n:=102,V:=5,cross:=[10,11,12,13,14,15,16,17,18,28,30,34,46,68,89,94],ord:=fun _=>([],[]) }),
 (229,{ fn:=Tryz.f229,n:=8,V:=1,cross:=[2,4],ord:=fun _=>([],[]) }),
 (230,{ fn:=Tryz.f230,n:=22,V:=1,cross:=[2,3,5],ord:=fun id=>match id with | 4=>([0,1,3,4,5,6,7,8,9,2,10,11],[2]) | _=>([],[]) }),
 (231,{ fn:=Tryz.f231,n:=6,V:=1,cross:=[2],ord:=fun _=>([],[]) }),
 (232,{ fn:=Tryz.f232,n:=25,V:=1,cross:=[2,4,8,14],ord:=fun _=>([],[]) }),
 (233,{ fn:=Tryz.f233,n:=4,V:=1,cross:=[2,3],ord:=fun _=>([],[]) }),
 (234,{ fn:=Tryz.f234,n:=8,V:=1,cross:=[2],ord:=fun _=>([],[]) }),
 (235,{ fn:=Tryz.f235,n:=8,V:=1,cross:=[2],ord:=fun _=>([],[]) }),
 (236,{ fn:=Tryz.f236,n:=14,V:=1,cross:=[2,4],ord:=fun _=>([],[]) }),
 (237,{ fn:=Tryz.f237,n:=14,V:=1,cross:=[2,4],ord:=fun _=>([],[]) })]
abbrev eqs:List Nat:=[37,185,213,222]
theorem Bez:∀t,eqs.contains t=true->Tryz.prog.eqGuardType Tryz.prog.depth t=false/\Tryz.prog.stoodInHeld t=false:=by
 intro t h
 simp only[eqs,List.contains_eq_mem,List.mem_cons,List.not_mem_nil,or_false,decide_eq_true_eq] at h
 rcases h with rfl | rfl | rfl | rfl
 ·exact⟨Tryz.eqGuardType37,Tryz.stoodInHeld37⟩
 ·exact⟨Tryz.eqGuardType185,Tryz.stoodInHeld185⟩
 ·exact⟨Tryz.eqGuardType213,Tryz.stoodInHeld213⟩
 ·exact⟨Tryz.eqGuardType222,Tryz.stoodInHeld222⟩
theorem Bit:FrmOk Tryz.prog (Og Bk1) :=
 FrmOk.cons Tryz.func3 rfl (by decide) <|
 FrmOk.cons Tryz.func4 rfl (by decide) <|
 FrmOk.cons Tryz.func5 rfl (by decide) <|
 FrmOk.cons Tryz.func6 rfl (by decide) <|
 FrmOk.cons Tryz.func7 rfl (by decide) <|
 FrmOk.cons Tryz.func8 rfl (by decide) <|
 FrmOk.cons Tryz.func9 rfl (by decide) <|
 FrmOk.cons Tryz.func10 rfl (by decide) <|
 FrmOk.cons Tryz.func11 rfl (by decide) <|
 FrmOk.cons Tryz.func12 rfl (by decide) <|
 FrmOk.cons Tryz.func13 rfl (by decide) <|
 FrmOk.cons Tryz.func14 rfl (by decide) <|
 FrmOk.cons Tryz.func15 rfl (by decide) <|
 FrmOk.cons Tryz.func16 rfl (by decide) <|
 FrmOk.cons Tryz.func17 rfl (by decide) <|
 FrmOk.cons Tryz.func18 rfl (by decide) <|
 FrmOk.cons Tryz.func19 rfl (by decide) <|
 FrmOk.cons Tryz.func20 rfl (by decide) <|
 FrmOk.cons Tryz.func21 rfl (by decide) <|
 FrmOk.cons Tryz.func22 rfl (by decide) <|
 FrmOk.cons Tryz.func23 rfl (by decide) <|
 FrmOk.cons Tryz.func24 rfl (by decide) <|
 FrmOk.cons Tryz.func25 rfl (by decide) <|
 FrmOk.cons Tryz.func26 rfl (by decide) <|
 FrmOk.cons Tryz.func27 rfl (by decide) <|
 FrmOk.cons Tryz.func28 rfl (by decide) <|
 FrmOk.cons Tryz.func29 rfl (by decide) <|
 FrmOk.cons Tryz.func30 rfl (by decide) <|
 FrmOk.cons Tryz.func31 rfl (by decide) <|
 FrmOk.cons Tryz.func32 rfl (by decide) <|
 FrmOk.cons Tryz.func33 rfl (by decide) <|
 FrmOk.cons Tryz.func34 rfl (by decide) <|
 FrmOk.cons Tryz.func35 rfl (by decide) <|
 FrmOk.cons Tryz.func36 rfl (by decide) <|
 FrmOk.cons Tryz.func37 rfl (by decide) <|
 FrmOk.cons Tryz.func38 rfl (by decide) <|
 FrmOk.cons Tryz.func39 rfl (by decide) <|
 FrmOk.cons Tryz.func40 rfl (by decide) <|
 FrmOk.cons Tryz.func41 rfl (by decide) <|
 FrmOk.cons Tryz.func42 rfl (by decide) <|
 FrmOk.cons Tryz.func43 rfl (by decide) <|
 FrmOk.cons Tryz.func44 rfl (by decide) <|
 FrmOk.cons Tryz.func45 rfl (by decide) <|
 FrmOk.cons Tryz.func46 rfl (by decide) <|
 FrmOk.cons Tryz.func47 rfl (by decide) <|
 FrmOk.cons Tryz.func48 rfl (by decide) <|
 FrmOk.cons Tryz.func49 rfl (by decide) <|
 FrmOk.cons Tryz.func50 rfl (by decide) <|
 FrmOk.cons Tryz.func51 rfl (by decide) <|
 FrmOk.cons Tryz.func52 rfl (by decide) <|
 FrmOk.cons Tryz.func53 rfl (by decide) <|
 FrmOk.cons Tryz.func54 rfl (by decide) <|
 FrmOk.cons Tryz.func55 rfl (by decide) <|
 FrmOk.cons Tryz.func56 rfl (by decide) <|
 FrmOk.cons Tryz.func57 rfl (by decide) <|
 FrmOk.cons Tryz.func58 rfl (by decide) <|
 FrmOk.cons Tryz.func59 rfl (by decide) <|
 FrmOk.cons Tryz.func60 rfl (by decide) <|
 FrmOk.cons Tryz.func61 rfl (by decide) <|
 FrmOk.cons Tryz.func62 rfl (by decide) <|
 FrmOk.cons Tryz.func63 rfl (by decide) <|
 FrmOk.cons Tryz.func64 rfl (by decide) <|
 FrmOk.cons Tryz.func65 rfl (by decide) <|
 FrmOk.cons Tryz.func66 rfl (by decide) <|
 FrmOk.cons Tryz.func67 rfl (by decide) <|
 FrmOk.cons Tryz.func68 rfl (by decide) <|
 FrmOk.cons Tryz.func69 rfl (by decide) <|
 FrmOk.cons Tryz.func70 rfl (by decide) <|
 FrmOk.cons Tryz.func71 rfl (by decide) <|
 FrmOk.cons Tryz.func72 rfl (by decide) <|
 FrmOk.cons Tryz.func73 rfl (by decide) <|
 FrmOk.cons Tryz.func74 rfl (by decide) <|
 FrmOk.cons Tryz.func75 rfl (by decide) <|
 FrmOk.cons Tryz.func77 rfl (by decide) <|
 FrmOk.cons Tryz.func78 rfl (by decide) <|
 FrmOk.cons Tryz.func79 rfl (by decide) <|
 FrmOk.cons Tryz.func80 rfl (by decide) <|
 FrmOk.cons Tryz.func81 rfl (by decide) <|
 FrmOk.cons Tryz.func82 rfl (by decide) <|
 FrmOk.cons Tryz.func83 rfl (by decide) <|
 FrmOk.cons Tryz.func84 rfl (by decide) <|
 FrmOk.cons Tryz.func85 rfl (by decide) <|
 FrmOk.cons Tryz.func86 rfl (by decide) <|
 FrmOk.cons Tryz.func87 rfl (by decide) <|
 FrmOk.cons Tryz.func88 rfl (by decide) <|
 FrmOk.cons Tryz.func89 rfl (by decide) <|
 FrmOk.cons Tryz.func90 rfl (by decide) <|
 FrmOk.cons Tryz.func91 rfl (by decide) <|
 FrmOk.cons Tryz.func92 rfl (by decide) <|
 FrmOk.cons Tryz.func93 rfl (by decide) <|
 FrmOk.cons Tryz.func94 rfl (by decide) <|
 FrmOk.cons Tryz.func95 rfl (by decide) <|
 FrmOk.cons Tryz.func96 rfl (by decide) <|
 FrmOk.cons Tryz.func97 rfl (by decide) <|
 FrmOk.cons Tryz.func98 rfl (by decide) <|
 FrmOk.cons Tryz.func99 rfl (by decide) <|
 FrmOk.cons Tryz.func100 rfl (by decide) <|
 FrmOk.cons Tryz.func101 rfl (by decide) <|
 FrmOk.cons Tryz.func102 rfl (by decide) <|
 FrmOk.cons Tryz.func103 rfl (by decide) <|
 FrmOk.cons Tryz.func104 rfl (by decide) <|
 FrmOk.cons Tryz.func105 rfl (by decide) <|
 FrmOk.cons Tryz.func106 rfl (by decide) <|
 FrmOk.cons Tryz.func108 rfl (by decide) <|
 FrmOk.cons Tryz.func109 rfl (by decide) <|
 FrmOk.cons Tryz.func110 rfl (by decide) <|
 FrmOk.cons Tryz.func111 rfl (by decide) <|
 FrmOk.cons Tryz.func112 rfl (by decide) <|
 FrmOk.cons Tryz.func113 rfl (by decide) <|
 FrmOk.cons Tryz.func114 rfl (by decide) <|
 FrmOk.cons Tryz.func115 rfl (by decide) <|
 FrmOk.cons Tryz.func116 rfl (by decide) <|
 FrmOk.cons Tryz.func117 rfl (by decide) <|
 FrmOk.cons Tryz.func118 rfl (by decide) <|
 FrmOk.cons Tryz.func119 rfl (by decide) <|
 FrmOk.cons Tryz.func120 rfl (by decide) <|
 FrmOk.cons Tryz.func121 rfl (by decide) <|
 FrmOk.cons Tryz.func122 rfl (by decide) <|
 FrmOk.cons Tryz.func123 rfl (by decide) <|
 FrmOk.cons Tryz.func124 rfl (by decide) <|
 FrmOk.cons Tryz.func125 rfl (by decide) <|
 FrmOk.cons Tryz.func126 rfl (by decide) <|
 FrmOk.cons Tryz.func127 rfl (by decide) <|
 FrmOk.cons Tryz.func128 rfl (by decide) <|
 FrmOk.cons Tryz.func129 rfl (by decide) <|
 FrmOk.cons Tryz.func130 rfl (by decide) <|
 FrmOk.cons Tryz.func131 rfl (by decide) <|
 FrmOk.cons Tryz.func132 rfl (by decide) <|
 FrmOk.cons Tryz.func133 rfl (by decide) <|
 FrmOk.cons Tryz.func134 rfl (by decide) <|
 FrmOk.cons Tryz.func135 rfl (by decide) <|
 FrmOk.cons Tryz.func136 rfl (by decide) <|
 FrmOk.cons Tryz.func137 rfl (by decide) <|
 FrmOk.cons Tryz.func138 rfl (by decide) <|
 FrmOk.cons Tryz.func139 rfl (by decide) <|
 FrmOk.cons Tryz.func140 rfl (by decide) <|
 FrmOk.cons Tryz.func141 rfl (by decide) <|
 FrmOk.cons Tryz.func142 rfl (by decide) <|
 FrmOk.cons Tryz.func143 rfl (by decide) <|
 FrmOk.cons Tryz.func144 rfl (by decide) <|
 FrmOk.cons Tryz.func145 rfl (by decide) <|
 FrmOk.cons Tryz.func146 rfl (by decide) <|
 FrmOk.cons Tryz.func147 rfl (by decide) <|
 FrmOk.cons Tryz.func148 rfl (by decide) <|
 FrmOk.cons Tryz.func149 rfl (by decide) <|
 FrmOk.cons Tryz.func150 rfl (by decide) <|
 FrmOk.cons Tryz.func151 rfl (by decide) <|
 FrmOk.cons Tryz.func152 rfl (by decide) <|
 FrmOk.cons Tryz.func153 rfl (by decide) <|
 FrmOk.cons Tryz.func154 rfl (by decide) <|
 FrmOk.cons Tryz.func155 rfl (by decide) <|
 FrmOk.cons Tryz.func156 rfl (by decide) <|
 FrmOk.cons Tryz.func157 rfl (by decide) <|
 FrmOk.cons Tryz.func158 rfl (by decide) <|
 FrmOk.cons Tryz.func159 rfl (by decide) <|
 FrmOk.cons Tryz.func161 rfl (by decide) <|
 FrmOk.cons Tryz.func162 rfl (by decide) <|
 FrmOk.cons Tryz.func163 rfl (by decide) <|
 FrmOk.cons Tryz.func164 rfl (by decide) <|
 FrmOk.cons Tryz.func165 rfl (by decide) <|
 FrmOk.cons Tryz.func166 rfl (by decide) <|
 FrmOk.cons Tryz.func167 rfl (by decide) <|
 FrmOk.cons Tryz.func168 rfl (by decide) <|
 FrmOk.cons Tryz.func169 rfl (by decide) <|
 FrmOk.cons Tryz.func170 rfl (by decide) <|
 FrmOk.cons Tryz.func171 rfl (by decide) <|
 FrmOk.cons Tryz.func172 rfl (by decide) <|
 FrmOk.cons Tryz.func173 rfl (by decide) <|
 FrmOk.cons Tryz.func174 rfl (by decide) <|
 FrmOk.cons Tryz.func175 rfl (by decide) <|
 FrmOk.cons Tryz.func176 rfl (by decide) <|
 FrmOk.cons Tryz.func177 rfl (by decide) <|
 FrmOk.cons Tryz.func178 rfl (by decide) <|
 FrmOk.cons Tryz.func179 rfl (by decide) <|
 FrmOk.cons Tryz.func180 rfl (by decide) <|
 FrmOk.cons Tryz.func181 rfl (by decide) <|
 FrmOk.cons Tryz.func182 rfl (by decide) <|
 FrmOk.cons Tryz.func183 rfl (by decide) <|
 FrmOk.cons Tryz.func184 rfl (by decide) <|
 FrmOk.cons Tryz.func185 rfl (by decide) <|
 FrmOk.cons Tryz.func186 rfl (by decide) <|
 FrmOk.cons Tryz.func187 rfl (by decide) <|
 FrmOk.cons Tryz.func188 rfl (by decide) <|
 FrmOk.cons Tryz.func189 rfl (by decide) <|
 FrmOk.cons Tryz.func190 rfl (by decide) <|
 FrmOk.cons Tryz.func191 rfl (by decide) <|
 FrmOk.cons Tryz.func192 rfl (by decide) <|
 FrmOk.cons Tryz.func193 rfl (by decide) <|
 FrmOk.cons Tryz.func194 rfl (by decide) <|
 FrmOk.cons Tryz.func195 rfl (by decide) <|
 FrmOk.cons Tryz.func196 rfl (by decide) <|
 FrmOk.cons Tryz.func197 rfl (by decide) <|
 FrmOk.cons Tryz.func198 rfl (by decide) <|
 FrmOk.cons Tryz.func199 rfl (by decide) <|
 FrmOk.cons Tryz.func200 rfl (by decide) <|
 FrmOk.cons Tryz.func201 rfl (by decide) <|
 FrmOk.cons Tryz.func202 rfl (by decide) <|
 FrmOk.cons Tryz.func203 rfl (by decide) <|
 FrmOk.cons Tryz.func204 rfl (by decide) <|
 FrmOk.cons Tryz.func205 rfl (by decide) <|
 FrmOk.cons Tryz.func206 rfl (by decide) <|
 FrmOk.cons Tryz.func207 rfl (by decide) <|
 FrmOk.cons Tryz.func208 rfl (by decide) <|
 FrmOk.cons Tryz.func209 rfl (by decide) <|
 FrmOk.cons Tryz.func210 rfl (by decide) <|
 FrmOk.cons Tryz.func211 rfl (by decide) <|
 FrmOk.cons Tryz.func212 rfl (by decide) <|
 FrmOk.cons Tryz.func213 rfl (by decide) <|
 FrmOk.cons Tryz.func214 rfl (by decide) <|
 FrmOk.cons Tryz.func215 rfl (by decide) <|
 FrmOk.cons Tryz.func216 rfl (by decide) <|
 FrmOk.cons Tryz.func217 rfl (by decide) <|
 FrmOk.cons Tryz.func218 rfl (by decide) <|
 FrmOk.cons Tryz.func219 rfl (by decide) <|
 FrmOk.cons Tryz.func220 rfl (by decide) <|
 FrmOk.cons Tryz.func221 rfl (by decide) <|
 FrmOk.cons Tryz.func222 rfl (by decide) <|
 FrmOk.cons Tryz.func223 rfl (by decide) <|
 FrmOk.cons Tryz.func224 rfl (by decide) <|
 FrmOk.cons Tryz.func225 rfl (by decide) <|
 FrmOk.cons Tryz.func226 rfl (by decide) <|
 FrmOk.cons Tryz.func227 rfl (by decide) <|
 FrmOk.cons Tryz.func228 rfl (by decide) <|
 FrmOk.cons Tryz.func229 rfl (by decide) <|
 FrmOk.cons Tryz.func230 rfl (by decide) <|
 FrmOk.cons Tryz.func231 rfl (by decide) <|
 FrmOk.cons Tryz.func232 rfl (by decide) <|
 FrmOk.cons Tryz.func233 rfl (by decide) <|
 FrmOk.cons Tryz.func234 rfl (by decide) <|
 FrmOk.cons Tryz.func235 rfl (by decide) <|
 FrmOk.cons Tryz.func236 rfl (by decide) <|
 FrmOk.cons Tryz.func237 rfl (by decide) <|
 FrmOk.nil _
end Go.Proofs.YtaagdbcaeokjkaaGreatDoor
namespace Go.Proofs
open Go.Shelf
def Tryz.lays159_ren:Go.Shelf.Ren:=⟨fun | 159=>87 | 165=>42 | 166=>39 | 167=>21 | 169=>22 | 230=>117 | 204=>118 | 240=>44 | 241=>75 | 197=>119 | 118=>144 | 168=>90 | 270=>145 | 262=>146 | 276=>76 | 277=>107 | 260=>147 | 242=>121 | 313=>168 | 278=>151 | 274=>192 | 275=>193 | n=>n,fun | 9=>9 | 4=>4 | 3=>3 | 5=>5 | 72=>58 | 0=>0 | 76=>86 | 75=>68 | 107=>141 | 70=>55 | 20=>20 | 37=>56 | 127=>93 | 21=>21 | 105=>142 | 164=>117 | 162=>182 | 203=>180 | 119=>183 | 46=>88 | 139=>186 | 138=>185 | 51=>111 | 160=>199 | 208=>213 | 206=>211 | 80=>70 | n=>n,fun | 13=>1 | 3=>2 | 4=>3 | n=>n⟩
theorem Tryz.lays159:Go.Proofs.Lays.n159 Tryz.prog Tryz.lays159_ren:={
 mixed:=by kernel_rfl
 f118:=Tryz.func144.trans (congrArg some (by kernel_rfl))
 f159:=Tryz.func87.trans (congrArg some (by kernel_rfl))
 f165:=Tryz.func42.trans (congrArg some (by kernel_rfl))
 f166:=Tryz.func39.trans (congrArg some (by kernel_rfl))
 f167:=Tryz.func21.trans (congrArg some (by kernel_rfl))
 f168:=Tryz.func90.trans (congrArg some (by kernel_rfl))
 f169:=Tryz.func22.trans (congrArg some (by kernel_rfl))
 f197:=Tryz.func119.trans (congrArg some (by kernel_rfl))
 f204:=Tryz.func118.trans (congrArg some (by kernel_rfl))
 f230:=Tryz.func117.trans (congrArg some (by kernel_rfl))
 f240:=Tryz.func44.trans (congrArg some (by kernel_rfl))
 f241:=Tryz.func75.trans (congrArg some (by kernel_rfl))
 f242:=Tryz.func121.trans (congrArg some (by kernel_rfl))
 f260:=Tryz.func147.trans (congrArg some (by kernel_rfl))
 f262:=Tryz.func146.trans (congrArg some (by kernel_rfl))
 f270:=Tryz.func145.trans (congrArg some (by kernel_rfl))
 f274:=Tryz.func192.trans (congrArg some (by kernel_rfl))
 f275:=Tryz.func193.trans (congrArg some (by kernel_rfl))
 f276:=Tryz.func76.trans (congrArg some (by kernel_rfl))
 f277:=Tryz.func107.trans (congrArg some (by kernel_rfl))
 f278:=Tryz.func151.trans (congrArg some (by kernel_rfl))
 f313:=Tryz.func168.trans (congrArg some (by kernel_rfl))
 t0:=Tryz.underlying0
 a0:=Tryz.isAgg0
 z0:=Tryz.sizeOf0
 v0:=Tryz.zeroValue0
 t3:=Tryz.underlying3
 a3:=Tryz.isAgg3
 z3:=Tryz.sizeOf3
 v3:=Tryz.zeroValue3
 t4:=Tryz.underlying4
 a4:=Tryz.isAgg4
 z4:=Tryz.sizeOf4
 v4:=Tryz.zeroValue4
 t5:=Tryz.underlying5
 a5:=Tryz.isAgg5
 z5:=Tryz.sizeOf5
 v5:=Tryz.zeroValue5
 t9:=Tryz.underlying9
 a9:=Tryz.isAgg9
 z9:=Tryz.sizeOf9
 v9:=Tryz.zeroValue9
 t20:=Tryz.underlying20
 a20:=Tryz.isAgg20
 z20:=Tryz.sizeOf20
 v20:=Tryz.zeroValue20
 t21:=Tryz.underlying21
 a21:=Tryz.isAgg21
 z21:=Tryz.sizeOf21
 v21:=Tryz.zeroValue21
 t37:=Tryz.underlying56
 a37:=Tryz.isAgg56
 z37:=Tryz.sizeOf56
 v37:=Tryz.zeroValue56
 t46:=Tryz.underlying88
 a46:=Tryz.isAgg88
 z46:=Tryz.sizeOf88
 v46:=Tryz.zeroValue88
 t51:=Tryz.underlying111
 a51:=Tryz.isAgg111
 z51:=Tryz.sizeOf111
 v51:=Tryz.zeroValue111
 t70:=Tryz.underlying55
 a70:=Tryz.isAgg55
 z70:=Tryz.sizeOf55
 v70:=Tryz.zeroValue55
 t72:=Tryz.underlying58
 a72:=Tryz.isAgg58
 z72:=Tryz.sizeOf58
 v72:=Tryz.zeroValue58
 t75:=Tryz.underlying68
 a75:=Tryz.isAgg68
 z75:=Tryz.sizeOf68
 v75:=Tryz.zeroValue68
 t76:=Tryz.underlying86
 a76:=Tryz.isAgg86
 z76:=Tryz.sizeOf86
 v76:=Tryz.zeroValue86
 t105:=Tryz.underlying142
 a105:=Tryz.isAgg142
 z105:=Tryz.sizeOf142
 v105:=Tryz.zeroValue142
 t107:=Tryz.underlying141
 a107:=Tryz.isAgg141
 z107:=Tryz.sizeOf141
 v107:=Tryz.zeroValue141
 t119:=Tryz.underlying183
 a119:=Tryz.isAgg183
 z119:=Tryz.sizeOf183
 t127:=Tryz.underlying93
 a127:=Tryz.isAgg93
 z127:=Tryz.sizeOf93
 v127:=Tryz.zeroValue93
 t138:=Tryz.underlying185
 a138:=Tryz.isAgg185
 z138:=Tryz.sizeOf185
 v138:=Tryz.zeroValue185
 t139:=Tryz.underlying186
 a139:=Tryz.isAgg186
 z139:=Tryz.sizeOf186
 v139:=Tryz.zeroValue186
 t160:=Tryz.underlying199
 a160:=Tryz.isAgg199
 z160:=Tryz.sizeOf199
 v160:=Tryz.zeroValue199
 t162:=Tryz.underlying182
 a162:=Tryz.isAgg182
 z162:=Tryz.sizeOf182
 v162:=Tryz.zeroValue182
 t164:=Tryz.underlying117
 a164:=Tryz.isAgg117
 z164:=Tryz.sizeOf117
 v164:=Tryz.zeroValue117
 t203:=Tryz.underlying180
 a203:=Tryz.isAgg180
 z203:=Tryz.sizeOf180
 v203:=Tryz.zeroValue180
 t206:=Tryz.underlying211
 a206:=Tryz.isAgg211
 z206:=Tryz.sizeOf211
 v206:=Tryz.zeroValue211
 t208:=Tryz.underlying213
 a208:=Tryz.isAgg213
 z208:=Tryz.sizeOf213
 v208:=Tryz.zeroValue213
 g3:=by kernel_rfl
 g4:=by kernel_rfl
 g13:=by kernel_rfl }
theorem Tryz.Builder_Extra_159:Builder.Extra Tryz.prog Tryz.lays159_ren:={
 sizeBuilder:=by kernel_rfl
 liesBuilder:=by kernel_rfl
 t5:=Tryz.underlying5
 a5:=Tryz.isAgg5
 z5:=Tryz.sizeOf5
 v5:=Tryz.zeroValue5
 infoByte:=by kernel_rfl
 cellsByte:=by kernel_rfl
 sizeByte:=by kernel_rfl
 neB5:=by decide }
open Go.RowKit in
theorem Tryz.strings_ToLower_ascii(s : ByteArray)(w : World)(hs : s.size<=140737488355328)(hascii : ∀(j : Nat) (b : UInt8), s.data.toList[j]? =some b -> b.toNat<128) :
  Calls Tryz.prog 87 #[.string s] w fun e w'=>e=.returned (.string ⟨(Lib.toLowerA s.data.toList).toArray⟩)/\Below w.heap.size w w':=Any.strings_ToLower_ascii Tryz.lays159 Tryz.Builder_Extra_159 s w hs hascii
def Tryz.lays156_ren:Go.Shelf.Ren:=⟨fun | 156=>132 | 165=>42 | 166=>39 | 169=>22 | 240=>44 | 241=>75 | 276=>76 | 277=>107 | n=>n,fun | 31=>61 | 9=>9 | 3=>3 | 4=>4 | 0=>0 | 20=>20 | 72=>58 | 76=>86 | 70=>55 | 37=>56 | 75=>68 | 127=>93 | 164=>117 | 5=>5 | 80=>70 | n=>n,fun | n=>n⟩
theorem Tryz.lays156:Go.Proofs.Lays.n156 Tryz.prog Tryz.lays156_ren:={
 mixed:=by kernel_rfl
 f156:=Tryz.func132.trans (congrArg some (by kernel_rfl))
 f165:=Tryz.func42.trans (congrArg some (by kernel_rfl))
 f166:=Tryz.func39.trans (congrArg some (by kernel_rfl))
 f169:=Tryz.func22.trans (congrArg some (by kernel_rfl))
 f240:=Tryz.func44.trans (congrArg some (by kernel_rfl))
 f241:=Tryz.func75.trans (congrArg some (by kernel_rfl))
 f276:=Tryz.func76.trans (congrArg some (by kernel_rfl))
 f277:=Tryz.func107.trans (congrArg some (by kernel_rfl))
 t0:=Tryz.underlying0
 a0:=Tryz.isAgg0
 z0:=Tryz.sizeOf0
 v0:=Tryz.zeroValue0
 t3:=Tryz.underlying3
 a3:=Tryz.isAgg3
 z3:=Tryz.sizeOf3
 v3:=Tryz.zeroValue3
 t4:=Tryz.underlying4
 a4:=Tryz.isAgg4
 z4:=Tryz.sizeOf4
 v4:=Tryz.zeroValue4
 t9:=Tryz.underlying9
 a9:=Tryz.isAgg9
 z9:=Tryz.sizeOf9
 v9:=Tryz.zeroValue9
 t20:=Tryz.underlying20
 a20:=Tryz.isAgg20
 z20:=Tryz.sizeOf20
 v20:=Tryz.zeroValue20
 t31:=Tryz.underlying61
 a31:=Tryz.isAgg61
 z31:=Tryz.sizeOf61
 v31:=Tryz.zeroValue61
 t37:=Tryz.underlying56
 a37:=Tryz.isAgg56
 z37:=Tryz.sizeOf56
 v37:=Tryz.zeroValue56
 t70:=Tryz.underlying55
 a70:=Tryz.isAgg55
 z70:=Tryz.sizeOf55
 v70:=Tryz.zeroValue55
 t72:=Tryz.underlying58
 a72:=Tryz.isAgg58
 z72:=Tryz.sizeOf58
 v72:=Tryz.zeroValue58
 t75:=Tryz.underlying68
 a75:=Tryz.isAgg68
 z75:=Tryz.sizeOf68
 v75:=Tryz.zeroValue68
 t76:=Tryz.underlying86
 a76:=Tryz.isAgg86
 z76:=Tryz.sizeOf86
 v76:=Tryz.zeroValue86
 t127:=Tryz.underlying93
 a127:=Tryz.isAgg93
 z127:=Tryz.sizeOf93
 v127:=Tryz.zeroValue93
 t164:=Tryz.underlying117
 a164:=Tryz.isAgg117
 z164:=Tryz.sizeOf117
 v164:=Tryz.zeroValue117 }
theorem Tryz.Builder_Extra_156:Builder.Extra Tryz.prog Tryz.lays156_ren:={
 sizeBuilder:=by kernel_rfl
 liesBuilder:=by kernel_rfl
 t5:=Tryz.underlying5
 a5:=Tryz.isAgg5
 z5:=Tryz.sizeOf5
 v5:=Tryz.zeroValue5
 infoByte:=by kernel_rfl
 cellsByte:=by kernel_rfl
 sizeByte:=by kernel_rfl
 neB5:=by decide }
open Go.RowKit in
theorem Tryz.strings_Join_none(a : Option Addr)(c : Nat)(sep : ByteArray)(w : World) :
  Calls Tryz.prog 132 #[.slice a 0 c,.string sep] w fun e w'=>e=.returned (.string ⟨#[]⟩)/\w'=w:=Any.strings_Join_none Tryz.lays156 Tryz.Builder_Extra_156 a c sep w
open Go.RowKit in
theorem Tryz.strings_Join(bk o c : Nat)(xs : List ByteArray)(sep : ByteArray)(w : World)(hcells : ∀(j : Nat) x, xs[j]? =some x -> w.cell? ⟨bk, o+j, none⟩=some (.string x))(hbk : bk<w.heap.size)(hN : xs.length<=140737488355328)(hcap : xs.length<=c)(hlen : (Lib.join (xs.map (·.data.toList)) sep.data.toList).length<=140737488355328) :
  Calls Tryz.prog 132 #[.slice (some ⟨bk,o,none⟩) xs.length c,.string sep] w fun e w'=>e=.returned (.string ⟨(Lib.join (xs.map (·.data.toList)) sep.data.toList).toArray⟩)/\Below w.heap.size w w':=Any.strings_Join Tryz.lays156 Tryz.Builder_Extra_156 bk o c xs sep w hcells hbk hN hcap hlen
def Tryz.laysM171_ren:Go.Shelf.Ren:=⟨fun | 171=>201 | 243=>212 | 246=>221 | 283=>225 | 284=>226 | 285=>227 | 286=>228 | 129=>232 | 317=>231 | 318=>233 | 319=>234 | 320=>235 | 337=>236 | 338=>237 | n=>n,fun | 3=>3 | 9=>9 | 2=>2 | 4=>4 | 171=>225 | 0=>0 | 53=>114 | 37=>56 | 5=>5 | 173=>228 | 212=>232 | 51=>111 | 20=>20 | 213=>233 | 46=>88 | 232=>236 | 233=>237 | n=>n,fun | 17=>6 | 18=>7 | 19=>8 | n=>n⟩
theorem Tryz.laysM171:Go.Proofs.LaysM.n171 Tryz.prog Tryz.laysM171_ren:={
 mixed:=by kernel_rfl
 f129:=Tryz.func232.trans (congrArg some (by kernel_rfl))
 f171:=Tryz.func201.trans (congrArg some (by kernel_rfl))
 f243:=Tryz.func212.trans (congrArg some (by kernel_rfl))
 f246:=Tryz.func221.trans (congrArg some (by kernel_rfl))
 f283:=Tryz.func225.trans (congrArg some (by kernel_rfl))
 f284:=Tryz.func226.trans (congrArg some (by kernel_rfl))
 f285:=Tryz.func227.trans (congrArg some (by kernel_rfl))
 f286:=Tryz.func228.trans (congrArg some (by kernel_rfl))
 f317:=Tryz.func231.trans (congrArg some (by kernel_rfl))
 f318:=Tryz.func233.trans (congrArg some (by kernel_rfl))
 f319:=Tryz.func234.trans (congrArg some (by kernel_rfl))
 f320:=Tryz.func235.trans (congrArg some (by kernel_rfl))
 f337:=Tryz.func236.trans (congrArg some (by kernel_rfl))
 f338:=Tryz.func237.trans (congrArg some (by kernel_rfl))
 t0:=Tryz.underlying0
 a0:=Tryz.isAgg0
 z0:=Tryz.sizeOf0
 v0:=Tryz.zeroValue0
 t2:=Tryz.underlying2
 a2:=Tryz.isAgg2
 z2:=Tryz.sizeOf2
 v2:=Tryz.zeroValue2
 t3:=Tryz.underlying3
 a3:=Tryz.isAgg3
 z3:=Tryz.sizeOf3
 v3:=Tryz.zeroValue3
 t4:=Tryz.underlying4
 a4:=Tryz.isAgg4
 z4:=Tryz.sizeOf4
 v4:=Tryz.zeroValue4
 t5:=Tryz.underlying5
 a5:=Tryz.isAgg5
 z5:=Tryz.sizeOf5
 v5:=Tryz.zeroValue5
 t9:=Tryz.underlying9
 a9:=Tryz.isAgg9
 z9:=Tryz.sizeOf9
 v9:=Tryz.zeroValue9
 t20:=Tryz.underlying20
 a20:=Tryz.isAgg20
 z20:=Tryz.sizeOf20
 v20:=Tryz.zeroValue20
 t37:=Tryz.underlying56
 a37:=Tryz.isAgg56
 z37:=Tryz.sizeOf56
 v37:=Tryz.zeroValue56
 t46:=Tryz.underlying88
 a46:=Tryz.isAgg88
 z46:=Tryz.sizeOf88
 v46:=Tryz.zeroValue88
 t51:=Tryz.underlying111
 a51:=Tryz.isAgg111
 z51:=Tryz.sizeOf111
 v51:=Tryz.zeroValue111
 t53:=Tryz.underlying114
 a53:=Tryz.isAgg114
 z53:=Tryz.sizeOf114
 v53:=Tryz.zeroValue114
 t171:=Tryz.underlying225
 a171:=Tryz.isAgg225
 z171:=Tryz.sizeOf225
 v171:=Tryz.zeroValue225
 t173:=Tryz.underlying228
 a173:=Tryz.isAgg228
 z173:=Tryz.sizeOf228
 v173:=Tryz.zeroValue228
 t212:=Tryz.underlying232
 a212:=Tryz.isAgg232
 z212:=Tryz.sizeOf232
 v212:=Tryz.zeroValue232
 t213:=Tryz.underlying233
 a213:=Tryz.isAgg233
 z213:=Tryz.sizeOf233
 t232:=Tryz.underlying236
 a232:=Tryz.isAgg236
 z232:=Tryz.sizeOf236
 v232:=Tryz.zeroValue236
 t233:=Tryz.underlying237
 a233:=Tryz.isAgg237
 z233:=Tryz.sizeOf237
 v233:=Tryz.zeroValue237
 g17:=by kernel_rfl
 g18:=by kernel_rfl
 g19:=by kernel_rfl
 i0:=by kernel_rfl
 i2:=by kernel_rfl
 i3:=by kernel_rfl
 i4:=by kernel_rfl
 i5:=by kernel_rfl
 i9:=by kernel_rfl
 i20:=by kernel_rfl
 i37:=by kernel_rfl
 i46:=by kernel_rfl
 i51:=by kernel_rfl
 i53:=by kernel_rfl
 i171:=by kernel_rfl
 i173:=by kernel_rfl
 i212:=by kernel_rfl
 i232:=by kernel_rfl
 i233:=by kernel_rfl
 m17:=by kernel_rfl
 m18:=by kernel_rfl
 m19:=by kernel_rfl }
open Go.RowKit Go.Sort Go.Lib in
theorem Tryz.strconv_Itoa(n : Int)(h0 : -9223372036854775808 ≤ n)(h1 : n ≤ 9223372036854775807)(w : World)(htab : Lib.TabIs Tryz.prog w "internal/strconv.uint64pow10" .u64 Lib.pow10Tab) :
  Calls Tryz.prog 201 #[.int .i64 n] w fun e w'=>e=.returned (.string ⟨(Lib.itoa n).toArray⟩)/\∃k os,w'=grow (w.drewN k) os:=Any.strconv_Itoa Tryz.laysM171 n h0 h1 w htab
def Tryz.lays99_ren:Go.Shelf.Ren:=⟨fun | 99=>41 | 206=>74 | n=>n,fun | 9=>9 | 4=>4 | 3=>3 | n=>n,fun | n=>n⟩
theorem Tryz.lays99:Go.Proofs.Lays.n99 Tryz.prog Tryz.lays99_ren:={
 mixed:=by kernel_rfl
 f99:=Tryz.func41.trans (congrArg some (by kernel_rfl))
 f206:=Tryz.func74.trans (congrArg some (by kernel_rfl))
 t3:=Tryz.underlying3
 a3:=Tryz.isAgg3
 z3:=Tryz.sizeOf3
 v3:=Tryz.zeroValue3
 t4:=Tryz.underlying4
 a4:=Tryz.isAgg4
 z4:=Tryz.sizeOf4
 v4:=Tryz.zeroValue4
 t9:=Tryz.underlying9
 a9:=Tryz.isAgg9
 z9:=Tryz.sizeOf9
 v9:=Tryz.zeroValue9 }
open Go.RowKit Go.Lib in
theorem Tryz.strings_HasPrefix(s p : ByteArray)(w : World) :
  Calls Tryz.prog 41 #[.string s,.string p] w fun e w'=>e=.returned (.bool (Lib.hasPrefix s.data.toList p.data.toList))/\w'=w:=Any.strings_HasPrefix Tryz.lays99 s p w
def Tryz.lays204_ren:Go.Shelf.Ren:=⟨fun | 204=>118 | 262=>146 | 313=>168 | 274=>192 | 275=>193 | n=>n,fun | 21=>21 | 4=>4 | 3=>3 | 162=>182 | 203=>180 | 160=>199 | 46=>88 | 0=>0 | 208=>213 | 51=>111 | 206=>211 | n=>n,fun | 13=>1 | n=>n⟩
theorem Tryz.lays204:Go.Proofs.Lays.n204 Tryz.prog Tryz.lays204_ren:={
 mixed:=by kernel_rfl
 f204:=Tryz.func118.trans (congrArg some (by kernel_rfl))
 f262:=Tryz.func146.trans (congrArg some (by kernel_rfl))
 f274:=Tryz.func192.trans (congrArg some (by kernel_rfl))
 f275:=Tryz.func193.trans (congrArg some (by kernel_rfl))
 f313:=Tryz.func168.trans (congrArg some (by kernel_rfl))
 t0:=Tryz.underlying0
 a0:=Tryz.isAgg0
 z0:=Tryz.sizeOf0
 v0:=Tryz.zeroValue0
 t3:=Tryz.underlying3
 a3:=Tryz.isAgg3
 z3:=Tryz.sizeOf3
 v3:=Tryz.zeroValue3
 t4:=Tryz.underlying4
 a4:=Tryz.isAgg4
 z4:=Tryz.sizeOf4
 v4:=Tryz.zeroValue4
 t21:=Tryz.underlying21
 a21:=Tryz.isAgg21
 z21:=Tryz.sizeOf21
 v21:=Tryz.zeroValue21
 t46:=Tryz.underlying88
 a46:=Tryz.isAgg88
 z46:=Tryz.sizeOf88
 v46:=Tryz.zeroValue88
 t51:=Tryz.underlying111
 a51:=Tryz.isAgg111
 z51:=Tryz.sizeOf111
 v51:=Tryz.zeroValue111
 t160:=Tryz.underlying199
 a160:=Tryz.isAgg199
 z160:=Tryz.sizeOf199
 v160:=Tryz.zeroValue199
 t162:=Tryz.underlying182
 a162:=Tryz.isAgg182
 z162:=Tryz.sizeOf182
 v162:=Tryz.zeroValue182
 t203:=Tryz.underlying180
 a203:=Tryz.isAgg180
 z203:=Tryz.sizeOf180
 v203:=Tryz.zeroValue180
 t206:=Tryz.underlying211
 a206:=Tryz.isAgg211
 z206:=Tryz.sizeOf211
 v206:=Tryz.zeroValue211
 t208:=Tryz.underlying213
 a208:=Tryz.isAgg213
 z208:=Tryz.sizeOf213
 v208:=Tryz.zeroValue213
 g13:=by kernel_rfl }
def Tryz.lays197_ren:Go.Shelf.Ren:=⟨fun | 197=>119 | 260=>147 | n=>n,fun | 9=>9 | 21=>21 | 3=>3 | 4=>4 | 5=>5 | 105=>142 | 119=>183 | 0=>0 | 46=>88 | 139=>186 | 138=>185 | n=>n,fun | 3=>2 | 4=>3 | n=>n⟩
theorem Tryz.lays197:Go.Proofs.Lays.n197 Tryz.prog Tryz.lays197_ren:={
 mixed:=by kernel_rfl
 f197:=Tryz.func119.trans (congrArg some (by kernel_rfl))
 f260:=Tryz.func147.trans (congrArg some (by kernel_rfl))
 t0:=Tryz.underlying0
 a0:=Tryz.isAgg0
 z0:=Tryz.sizeOf0
 v0:=Tryz.zeroValue0
 t3:=Tryz.underlying3
 a3:=Tryz.isAgg3
 z3:=Tryz.sizeOf3
 v3:=Tryz.zeroValue3
 t4:=Tryz.underlying4
 a4:=Tryz.isAgg4
 z4:=Tryz.sizeOf4
 v4:=Tryz.zeroValue4
 t5:=Tryz.underlying5
 a5:=Tryz.isAgg5
 z5:=Tryz.sizeOf5
 v5:=Tryz.zeroValue5
 t9:=Tryz.underlying9
 a9:=Tryz.isAgg9
 z9:=Tryz.sizeOf9
 v9:=Tryz.zeroValue9
 t21:=Tryz.underlying21
 a21:=Tryz.isAgg21
 z21:=Tryz.sizeOf21
 v21:=Tryz.zeroValue21
 t46:=Tryz.underlying88
 a46:=Tryz.isAgg88
 z46:=Tryz.sizeOf88
 v46:=Tryz.zeroValue88
 t105:=Tryz.underlying142
 a105:=Tryz.isAgg142
 z105:=Tryz.sizeOf142
 v105:=Tryz.zeroValue142
 t119:=Tryz.underlying183
 a119:=Tryz.isAgg183
 z119:=Tryz.sizeOf183
 t138:=Tryz.underlying185
 a138:=Tryz.isAgg185
 z138:=Tryz.sizeOf185
 v138:=Tryz.zeroValue185
 t139:=Tryz.underlying186
 a139:=Tryz.isAgg186
 z139:=Tryz.sizeOf186
 v139:=Tryz.zeroValue186
 g3:=by kernel_rfl
 g4:=by kernel_rfl }
def Tryz.lays212_ren:Go.Shelf.Ren:=⟨fun | 212=>40 | 263=>72 | 264=>73 | n=>n,fun | 46=>88 | 51=>111 | 146=>112 | 53=>114 | 148=>115 | n=>n,fun | n=>n⟩
theorem Tryz.lays212:Go.Proofs.Lays.n212 Tryz.prog Tryz.lays212_ren:={
 mixed:=by kernel_rfl
 f212:=Tryz.func40.trans (congrArg some (by kernel_rfl))
 f263:=Tryz.func72.trans (congrArg some (by kernel_rfl))
 f264:=Tryz.func73.trans (congrArg some (by kernel_rfl))
 t46:=Tryz.underlying88
 a46:=Tryz.isAgg88
 z46:=Tryz.sizeOf88
 v46:=Tryz.zeroValue88
 t51:=Tryz.underlying111
 a51:=Tryz.isAgg111
 z51:=Tryz.sizeOf111
 v51:=Tryz.zeroValue111
 t53:=Tryz.underlying114
 a53:=Tryz.isAgg114
 z53:=Tryz.sizeOf114
 v53:=Tryz.zeroValue114
 t146:=Tryz.underlying112
 a146:=Tryz.isAgg112
 z146:=Tryz.sizeOf112
 v146:=Tryz.zeroValue112
 t148:=Tryz.underlying115
 a148:=Tryz.isAgg115
 z148:=Tryz.sizeOf115
 v148:=Tryz.zeroValue115 }
open Go.RowKit Go.Lib in
theorem Tryz.bits_Mul(x y : Nat)(hx : x<18446744073709551616)(hy : y<18446744073709551616)(w : World) :
  Calls Tryz.prog 40 #[.int .u64 x,.int .u64 y] w fun e w'=>e=.returned (.tuple #[.int .u64 ((x*y / 18446744073709551616:Nat):Int),.int .u64 ((x*y % 18446744073709551616:Nat):Int)])/\w'=w:=Any.bits_Mul Tryz.lays212 x y hx hy w
def Tryz.lays105_ren:Go.Shelf.Ren:=⟨fun | 105=>20 | 212=>40 | 99=>41 | 165=>42 | 166=>39 | 170=>43 | 169=>22 | 263=>72 | 264=>73 | 206=>74 | 240=>44 | 241=>75 | 276=>76 | 277=>107 | n=>n,fun | 9=>9 | 3=>3 | 4=>4 | 20=>20 | 0=>0 | 46=>88 | 109=>89 | 5=>5 | 72=>58 | 76=>86 | 51=>111 | 146=>112 | 53=>114 | 148=>115 | 70=>55 | 37=>56 | 75=>68 | 127=>93 | 164=>117 | 80=>70 | n=>n,fun | n=>n⟩
theorem Tryz.lays105:Go.Proofs.Lays.n105 Tryz.prog Tryz.lays105_ren:={
 mixed:=by kernel_rfl
 f99:=Tryz.func41.trans (congrArg some (by kernel_rfl))
 f105:=Tryz.func20.trans (congrArg some (by kernel_rfl))
 f165:=Tryz.func42.trans (congrArg some (by kernel_rfl))
 f166:=Tryz.func39.trans (congrArg some (by kernel_rfl))
 f169:=Tryz.func22.trans (congrArg some (by kernel_rfl))
 f170:=Tryz.func43.trans (congrArg some (by kernel_rfl))
 f206:=Tryz.func74.trans (congrArg some (by kernel_rfl))
 f212:=Tryz.func40.trans (congrArg some (by kernel_rfl))
 f240:=Tryz.func44.trans (congrArg some (by kernel_rfl))
 f241:=Tryz.func75.trans (congrArg some (by kernel_rfl))
 f263:=Tryz.func72.trans (congrArg some (by kernel_rfl))
 f264:=Tryz.func73.trans (congrArg some (by kernel_rfl))
 f276:=Tryz.func76.trans (congrArg some (by kernel_rfl))
 f277:=Tryz.func107.trans (congrArg some (by kernel_rfl))
 t0:=Tryz.underlying0
 a0:=Tryz.isAgg0
 z0:=Tryz.sizeOf0
 v0:=Tryz.zeroValue0
 t3:=Tryz.underlying3
 a3:=Tryz.isAgg3
 z3:=Tryz.sizeOf3
 v3:=Tryz.zeroValue3
 t4:=Tryz.underlying4
 a4:=Tryz.isAgg4
 z4:=Tryz.sizeOf4
 v4:=Tryz.zeroValue4
 t5:=Tryz.underlying5
 a5:=Tryz.isAgg5
 z5:=Tryz.sizeOf5
 v5:=Tryz.zeroValue5
 t9:=Tryz.underlying9
 a9:=Tryz.isAgg9
 z9:=Tryz.sizeOf9
 v9:=Tryz.zeroValue9
 t20:=Tryz.underlying20
 a20:=Tryz.isAgg20
 z20:=Tryz.sizeOf20
 v20:=Tryz.zeroValue20
 t37:=Tryz.underlying56
 a37:=Tryz.isAgg56
 z37:=Tryz.sizeOf56
 v37:=Tryz.zeroValue56
 t46:=Tryz.underlying88
 a46:=Tryz.isAgg88
 z46:=Tryz.sizeOf88
 v46:=Tryz.zeroValue88
 t51:=Tryz.underlying111
 a51:=Tryz.isAgg111
 z51:=Tryz.sizeOf111
 v51:=Tryz.zeroValue111
 t53:=Tryz.underlying114
 a53:=Tryz.isAgg114
 z53:=Tryz.sizeOf114
 v53:=Tryz.zeroValue114
 t70:=Tryz.underlying55
 a70:=Tryz.isAgg55
 z70:=Tryz.sizeOf55
 v70:=Tryz.zeroValue55
 t72:=Tryz.underlying58
 a72:=Tryz.isAgg58
 z72:=Tryz.sizeOf58
 v72:=Tryz.zeroValue58
 t75:=Tryz.underlying68
 a75:=Tryz.isAgg68
 z75:=Tryz.sizeOf68
 v75:=Tryz.zeroValue68
 t76:=Tryz.underlying86
 a76:=Tryz.isAgg86
 z76:=Tryz.sizeOf86
 v76:=Tryz.zeroValue86
 t109:=Tryz.underlying89
 a109:=Tryz.isAgg89
 z109:=Tryz.sizeOf89
 v109:=Tryz.zeroValue89
 t127:=Tryz.underlying93
 a127:=Tryz.isAgg93
 z127:=Tryz.sizeOf93
 v127:=Tryz.zeroValue93
 t146:=Tryz.underlying112
 a146:=Tryz.isAgg112
 z146:=Tryz.sizeOf112
 v146:=Tryz.zeroValue112
 t148:=Tryz.underlying115
 a148:=Tryz.isAgg115
 z148:=Tryz.sizeOf115
 v148:=Tryz.zeroValue115
 t164:=Tryz.underlying117
 a164:=Tryz.isAgg117
 z164:=Tryz.sizeOf117
 v164:=Tryz.zeroValue117 }
theorem Tryz.Builder_Extra_105:Builder.Extra Tryz.prog Tryz.lays105_ren:={
 sizeBuilder:=by kernel_rfl
 liesBuilder:=by kernel_rfl
 t5:=Tryz.underlying5
 a5:=Tryz.isAgg5
 z5:=Tryz.sizeOf5
 v5:=Tryz.zeroValue5
 infoByte:=by kernel_rfl
 cellsByte:=by kernel_rfl
 sizeByte:=by kernel_rfl
 neB5:=by decide }
open Go.RowKit Go.Lib in
theorem Tryz.strings_Repeat(s : ByteArray)(c : Nat)(w : World)(hc : c<=9223372036854775807)(hlen : s.size*c<=140737488355328) :
  Calls Tryz.prog 20 #[.string s,.int .i64 c] w fun e w'=>e=.returned (.string ⟨(Lib.repeatL s.data.toList c).toArray⟩)/\Below w.heap.size w w':=Any.strings_Repeat Tryz.lays105 Tryz.Builder_Extra_105 s c w hc hlen
def Tryz.lays260_ren:Go.Shelf.Ren:=⟨fun | 260=>147 | n=>n,fun | 9=>9 | 21=>21 | 3=>3 | 4=>4 | 5=>5 | 119=>183 | 0=>0 | 46=>88 | 139=>186 | 138=>185 | n=>n,fun | 3=>2 | 4=>3 | n=>n⟩
theorem Tryz.lays260:Go.Proofs.Lays.n260 Tryz.prog Tryz.lays260_ren:={
 mixed:=by kernel_rfl
 f260:=Tryz.func147.trans (congrArg some (by kernel_rfl))
 t0:=Tryz.underlying0
 a0:=Tryz.isAgg0
 z0:=Tryz.sizeOf0
 v0:=Tryz.zeroValue0
 t3:=Tryz.underlying3
 a3:=Tryz.isAgg3
 z3:=Tryz.sizeOf3
 v3:=Tryz.zeroValue3
 t4:=Tryz.underlying4
 a4:=Tryz.isAgg4
 z4:=Tryz.sizeOf4
 v4:=Tryz.zeroValue4
 t5:=Tryz.underlying5
 a5:=Tryz.isAgg5
 z5:=Tryz.sizeOf5
 v5:=Tryz.zeroValue5
 t9:=Tryz.underlying9
 a9:=Tryz.isAgg9
 z9:=Tryz.sizeOf9
 v9:=Tryz.zeroValue9
 t21:=Tryz.underlying21
 a21:=Tryz.isAgg21
 z21:=Tryz.sizeOf21
 v21:=Tryz.zeroValue21
 t46:=Tryz.underlying88
 a46:=Tryz.isAgg88
 z46:=Tryz.sizeOf88
 v46:=Tryz.zeroValue88
 t119:=Tryz.underlying183
 a119:=Tryz.isAgg183
 z119:=Tryz.sizeOf183
 t138:=Tryz.underlying185
 a138:=Tryz.isAgg185
 z138:=Tryz.sizeOf185
 v138:=Tryz.zeroValue185
 t139:=Tryz.underlying186
 a139:=Tryz.isAgg186
 z139:=Tryz.sizeOf186
 v139:=Tryz.zeroValue186
 g3:=by kernel_rfl
 g4:=by kernel_rfl }
open Go.RowKit Go.Lib in
theorem Tryz.utf8_DecodeRuneInString(s : ByteArray)(w : World)(hT : Lib.Utf8Tabs 2 3 w) :
  Calls Tryz.prog 119 #[.string s] w fun e w'=>e=.returned (.tuple #[.int .i32 (Lib.decodeGo s).1,.int .i64 (Lib.decodeGo s).2])/\Below w.heap.size w w':=Any.utf8_DecodeRuneInString Tryz.lays197 s w hT
end Go.Proofs
namespace Go.Proofs.YtaagdbcaeokjkaaGreatDoor
open Go Go.Ab
theorem mix:Tryz.prog.follows .mixedOrders=true:=by kernel_rfl
def SM{α:Type}(x:α):Prop:=x=x
def Z0:Int:=0
def Z1:Int:=1
def N0:Nat:=0
def N1:Nat:=1
def N2:Nat:=2
def N4:Nat:=4
def N6:Nat:=6
def U0:UInt8:=0
def LN{α:Type}(l:List α):Nat:=List.length l
def LI{α:Type}(l:List α):Int:=(↑(List.length l):Int)
def BI(l:List UInt8)(i:Nat):Int:=(↑(UInt8.toNat (List.getD l i (0:UInt8))):Int)
def NI(x:Nat):Int:=(↑x:Int)
def TN(x:Nat):Nat:=Int.toNat (↑x:Int)
def TL{α:Type}(l:List α):Nat:=Int.toNat (↑(List.length l):Int)
def GI(l:List Int)(i:Nat):Int:=List.getD l i (0:Int)
def ZI(a:Int):D:=D.int IntKind.i64 a
def ZB(a:Int):D:=D.int IntKind.u8 a
def SI(l:List Int):D:=D.sl 1 (List.length l) (fun i=>[D.int IntKind.i64 (List.getD l i (0:Int))]) Mode.any
abbrev Con:=Nat->List D->St->Option FnSpec
noncomputable def E0(con:Con)(n V:Nat)(cross:List Nat)(ord:Nat->List Nat×List Nat):Senv where
 P:=Tryz.prog
 tt:=In tab
 n:=n
 dfs:=[]
 V:=V
 cross:=cross
 gh:=fun _=>[]
 gr:=[]
 unr:=fun _=>0
 cut:=fun _ _ _=>none
 ann:=fun _ _ _=>none
 ord:=ord
 con:=con
 eqs:=eqs
noncomputable def EC(con:Con)(n V:Nat)(cross:List Nat)(ord:Nat->List Nat×List Nat):Senv :=
 { E0 con n V cross ord with auto:=true,inl:=Bc6 { E0 con 0 0 [] (fun _=>([],[])) with auto:=true } (Og Bk1) 9 }
abbrev E5:Con:=fun _ _ _=>none
theorem BJ:ConOk Tryz.prog E5:=fun _ _ _ _ h=>nomatch h
theorem eOk{con:Con}(hc:ConOk Tryz.prog con){E:Senv}(h:E={ EC con E.n E.V E.cross E.ord with gh:=E.gh,gr:=E.gr,unr:=E.unr,cut:=E.cut,ann:=E.ann,cut2:=E.cut2,ann2:=E.ann2,own:=E.own,gz:=E.gz,mg:=E.mg,pvt:=E.pvt,bcut:=E.bcut,bd:=E.bd }):EnvOk E:=by
 rw[h]
 exact⟨Bd2,hc,mix,fun k ds S R h=>Bgg (E:={ E0 con 0 0 [] (fun _=>([],[])) with auto:=true }) Bd2 hc mix Bit Bez 9 k ds S R h,Bez⟩
def pC(ds:List D)(d:D)(p:Prop):FnSpec where
 β:=Unit
 α:=Unit
 args:=fun _=>ds
 st:=fun _=>⟨[],[]⟩
 pre:=fun _=>p
 post:=fun _ _=>True
 res:=fun _ _=>.ret d
 out:=fun _ _=>⟨[],[]⟩
 fit:=some ()
def pQ{α:Type}(ds:List D)(d:α->D)(q:α->Prop)(p:Prop):FnSpec where
 β:=Unit
 α:=α
 args:=fun _=>ds
 st:=fun _=>⟨[],[]⟩
 pre:=fun _=>p
 post:=fun _ y=>q y
 res:=fun _ y=>.ret (d y)
 out:=fun _ _=>⟨[],[]⟩
 fit:=some ()
theorem Bf6(S:St):leS ⟨[],[]⟩ S:=by simp[leS,Ba,Go.Ab.nodupB,leO,leT]
theorem BM{k : Nat}{ds : List D}{S : St}{us : List D}{d : D}{p : Prop}(h : p -> Br ds us /\ ACalls Tryz.prog k us ⟨[], []⟩ (SpecR (sC us d) ())) :
  (∀x,(pC us d p).pre x->ACalls Tryz.prog k ((pC us d p).args x) ((pC us d p).st x) (SpecR (pC us d p) x))/\(∀x,(pC us d p).fit=some x->(pC us d p).pre x->Br ds ((pC us d p).args x)/\leS ((pC us d p).st x) S)/\((pC us d p).all=true->∀x,(pC us d p).pre x->Br ds ((pC us d p).args x)/\(pC us d p).st x=S) :=
 ⟨fun _ hp=>(h hp).2.mono fun _ _ ⟨_,_h1,h2,h3⟩=>⟨(),trivial,h2,h3⟩,fun _ _ hp=>⟨(h hp).1,Bf6 S⟩,fun e=>nomatch e⟩
theorem BqH{α : Type}{k : Nat}{ds : List D}{S : St}{us : List D}{d : α -> D}{q : α -> Prop}{p : Prop}(h : p -> Br ds us /\ ACalls Tryz.prog k us ⟨[], []⟩ (SpecR (pQ us d q p) ())) :
  (∀x,(pQ us d q p).pre x->ACalls Tryz.prog k ((pQ us d q p).args x) ((pQ us d q p).st x) (SpecR (pQ us d q p) x))/\(∀x,(pQ us d q p).fit=some x->(pQ us d q p).pre x->Br ds ((pQ us d q p).args x)/\leS ((pQ us d q p).st x) S)/\((pQ us d q p).all=true->∀x,(pQ us d q p).pre x->Br ds ((pQ us d q p).args x)/\(pQ us d q p).st x=S) :=
 ⟨fun _ hp=>(h hp).2,fun _ _ hp=>⟨(h hp).1,Bf6 S⟩,fun e=>nomatch e⟩
theorem ML{α:Type}[Inhabited α]{l:List α}{i:Nat}(h:i<l.length):l.drop i=l.getD i default::l.drop (i+1):=by
 rw[List.drop_eq_getElem_cons h]
 simp[List.getD_eq_getElem?_getD,h]
theorem CC{α:Type}[Inhabited α]{l:List α}{i:Nat}(h:i<l.length):l.take (i+1)=l.take i++[l.getD i default]:=by
 rw[List.take_add_one]
 simp[List.getD_eq_getElem?_getD,h]
def RT(p:Prop):Prop:=True/\∃(y:Unit),True/\p/\True/\True
def bsl(l:List UInt8)(m:Ab.Mode):D:=.sl 1 l.length (fun i=>[.int .u8 ((l.getD i 0).toNat:Int)]) m
def isl(l:List Int)(m:Ab.Mode):D:=.sl 1 l.length (fun i=>[.int .i64 (l.getD i 0)]) m
inductive Arr where
 |mk (kind:Int) (shape nums:List Int) (items:List Arr)
def Bs(z:Int):Prop:=-9223372036854775808<=z/\z<=9223372036854775807
mutual
def Arr.row:Arr->List D
 |.mk k s n is=>[.int .i64 k,isl s .any,isl n .any,.sl 4 (Tp is).length (fun i=>(Tp is).getD i []) .any]
def Tp:List Arr->List (List D)
 | []=>[]
 |a::r=>a.row::Tp r
end
mutual
def Arr.ok:Arr->Prop
 |.mk k s n is=>Bs k/\(∀z∈s,Bs z)/\(∀z∈n,Bs z)/\s.length<=maxLen/\n.length<=maxLen/\is.length<=maxLen/\okL is
def okL:List Arr->Prop
 | []=>True
 |a::r=>a.ok/\okL r
end
mutual
/-- Nothing in it is longer than a machine's memory. -/
def Arr.sm:Arr->Prop
 |.mk _ s n is=>s.length<=By/\n.length<=By/\is.length<=By/\smL is
def smL:List Arr->Prop
 | []=>True
 |a::r=>a.sm/\smL r
end
theorem Bf2:∀(l:List Arr),smL l↔∀a∈l,a.sm
 | []=>by simp[smL]
 |a::l=>by simp only[smL,List.forall_mem_cons,Bf2 l]
theorem I1{n:Nat}(h:n<=By):n<=maxLen:=Nat.le_trans h (by decide)
theorem GD:∀(l:List Arr),Tp l=l.map Arr.row
 | []=>rfl
 |a::l=>by simp only[Tp,List.map_cons,GD l]
theorem M3:∀(l:List Arr),okL l↔∀a∈l,a.ok
 | []=>by simp[okL]
 |a::l=>by simp only[okL,List.forall_mem_cons,M3 l]
def RInts:List D->Prop:=fun ds=>∃l:List Int,(∀z∈l,Bs z)/\l.length<=By/\ds=[isl l .any]
def RArr:List D->Prop:=fun ds=>∃a:Arr,(a.ok/\a.sm)/\ds=a.row
theorem CU:∀x,RInt .i64 x->∃z,Bs z/\x=[.int .i64 z]:=by
 rintro x ⟨n,rfl,h1,h2⟩
 simp only[IntKind.min,IntKind.max,IntKind.signed,IntKind.bits] at h1 h2
 exact⟨n,⟨by simpa using h1,by simp at h2;omega⟩,rfl⟩
theorem BaX(W:World)(n:Nat):ReadAt Tryz.prog W n 30 RInts:=by
 cases n with
 |zero=>exact .zero _ _
 |succ n =>
  refine (E9 (w:=1) Tryz.underlying30 (by kernel_rfl) (by decide) (by decide +kernel) (Iv Tryz.underlying3 W n)).weak ?_
  rintro _ ds vs ⟨l,h1,h2,rfl⟩ h
  obtain ⟨l',q,rfl⟩:=rows_of CU l h1
  refine⟨_,⟨l',q,by simpa using h2,rfl⟩,B5 _ _ ?_ _ _ h⟩
  simp only[isl,Br,Bg,Ba]
  refine⟨⟨by simp,by simp,fun i hi=>?_,by simp[BE]⟩,trivial⟩
  have hi:i<l'.length:=by simpa using hi
  simp[List.getD_eq_getElem?_getD,hi]
theorem Bcy(W:World):∀n,ReadAt Tryz.prog W n 46 RArr
 |0=>.zero _ _
 |n+1=>by
  have hi:ReadAt Tryz.prog W n 44 (RSliceA 4 RArr):=by
   cases n with
   |zero=>exact .zero _ _
   |succ m=>exact E9 (w:=4) Tryz.underlying44 (by kernel_rfl) (by decide) (by decide +kernel) (Bcy W m)
  refine (Ik Tryz.underlying46 (by kernel_rfl) (Rs:=[RInt .i64,RInts,RInts,RSliceA 4 RArr]) ⟨Iv (by kernel_rfl) W n,BaX W n,BaX W n,hi,trivial⟩).mono ?_
  rintro ds ⟨_,_,h1,⟨_,_,h2,⟨_,_,h3,⟨_,_,h4,h5,rfl⟩,rfl⟩,rfl⟩,rfl⟩
  obtain rfl:_=[]:=h5
  obtain ⟨k,hk,rfl⟩:=CU _ h1
  obtain ⟨s,s1,s2,rfl⟩:=h2
  obtain ⟨m,m1,m2,rfl⟩:=h3
  obtain ⟨l,l1,l2,rfl⟩:=h4
  obtain ⟨is,q,rfl⟩:=rows_of (g:=Arr.row) (Q:=fun a=>a.ok/\a.sm) (fun x hx=>hx) l l1
  have l2:is.length<=By:=by simpa using l2
  refine⟨.mk k s m is,⟨?_,?_⟩,?_⟩
  ·simp only[Arr.ok]
   exact⟨hk,s1,m1,I1 s2,I1 m2,I1 l2,(M3 _).2 fun a ha=>(q a ha).1⟩
  ·simp only[Arr.sm]
   exact⟨s2,m2,l2,(Bf2 _).2 fun a ha=>(q a ha).2⟩
  ·simp only[Arr.row,GD,List.cons_append,List.nil_append]
def gsl{α:Type}[Inhabited α](w:Nat)(g:α->List D)(l:List α):D:=.sl w l.length (fun i=>g (l.getD i default)) .any
instance:Inhabited Arr:=⟨.mk 0 [] [] []⟩
def DA:Arr:=Arr.mk (0:Int) [] [] []
def GA(l:List Arr)(i:Nat):Arr:=List.getD l i (Arr.mk (0:Int) [] [] [])
def Bih:List D->Int
 | [.int _ z]=>z
 |_=>0
def Bp(n:Nat)(f:Nat->List D):List Int:=(List.range n).map fun i=>Bih (f i)
theorem Cl(l:List Int):Bp l.length (fun i=>[D.int .i64 (l.getD i 0)])=l:=by
 apply List.ext_getElem
 ·simp[Bp]
 ·intro i h1 h2
  simp[Bp,Bih,List.getD_eq_getElem?_getD,h2]
def IntsP(n:Nat)(f:Nat->List D):Prop:=∀i,i<n->f i=[.int .i64 (Bih (f i))]
theorem Eb{n:Nat}{f:Nat->List D}{m:Ab.Mode}(h:IntsP n f):Br [.sl 1 n f m] [isl (Bp n f) .any]:=by
 simp only[isl,Br,Bg,Ba]
 refine⟨⟨by simp,by simp[Bp],fun i hi=>?_,by simp[BE]⟩,trivial⟩
 have e:(Bp n f).getD i 0=Bih (f i):=by simp[Bp,List.getD_eq_getElem?_getD,hi]
 rw[e]
 exact h i hi
def goO:List Int->Int->Option Int
 | [],p=>some p
 |d::r,p=>if d<0\/65536<d then none else if d=0 then goO r p else if 65536<p*d then none else goO r (p*d)
def EE(s:List Int):Bool:=decide (s.length<=8)&&(goO s 1).isSome
def C5(s:List Int):Int:=if s.contains 0 then 0 else (goO s 1).getD 0
structure GoHead (l:List Int) (i:Nat) (p:Int):Prop where
 hi:i<=l.length
 h1:1<=p
 h2:p<=65536
 hg:goO (l.drop i) p=goO l 1
theorem GoHead.init(l:List Int):GoHead l 0 1:=⟨Nat.zero_le _,by omega,by omega,by simp⟩
theorem Ox{l:List Int}{i:Nat}(h:i<l.length):l.drop i=l.getD i 0::l.drop (i+1):=ML h
theorem GoHead.step{l : List Int}{i : Nat}{p : Int}(h : GoHead l i p)(hlt : i<l.length) :
  (l.getD i 0<0->goO l 1=none)/\(65536<l.getD i 0->goO l 1=none)/\(l.getD i 0=0->GoHead l (i+1) p) /\
  (¬l.getD i 0<0->¬65536<l.getD i 0->0<=p*l.getD i 0/\p*l.getD i 0<=4294967296/\(65536<p*l.getD i 0->l.getD i 0≠0->goO l 1=none)/\(¬65536<p*l.getD i 0->l.getD i 0≠0->GoHead l (i+1) (p*l.getD i 0))):=by
 have hg:=h.hg
 rw[Ox hlt,goO] at hg
 generalize l.getD i 0=d at *
 refine⟨fun h0=>?_,fun h0=>?_,fun h0=>?_,fun h0 h3=>?_⟩
 ·rw[if_pos (.inl h0)] at hg;exact hg.symm
 ·rw[if_pos (.inr h0)] at hg;exact hg.symm
 ·subst h0
  simp at hg
  exact⟨by omega,h.h1,h.h2,hg⟩
 ·have b1:0<=p*d:=Int.mul_nonneg (by have:=h.h1;omega) (by omega)
  have b2:p*d<=65536*65536:=Int.mul_le_mul h.h2 (by omega) (by omega) (by omega)
  refine⟨b1,by omega,fun h4 h5=>?_,fun h4 h5=>?_⟩
  ·rw[if_neg (by omega),if_neg h5,if_pos h4] at hg;exact hg.symm
  ·rw[if_neg (by omega),if_neg h5,if_neg h4] at hg
   refine⟨by omega,?_,by omega,hg⟩
   have:0<p*d:=Int.mul_pos (by have:=h.h1;omega) (by omega)
   omega
theorem GoHead.done{l:List Int}{i:Nat}{p:Int}(h:GoHead l i p)(hge:¬(i:Int)<l.length):goO l 1=some p:=by
 have hg:=h.hg
 have:i=l.length:=by have:=h.hi;omega
 rw[this,List.drop_length,goO] at hg
 exact hg.symm
noncomputable def Eright(l:List Int):Senv:={ EC E5 31 1 [2,3,5,8,9,10,11,12,15,22,29] (fun _=>([],[])) with
 ann:=fun b _ _=>match b with
  |0=>some { slots:=[11,3],keep:=[9,10],α:=Nat×Int,st:=fun y=>([.int .i64 y.1,.int .i64 y.2],⟨[],[]⟩),inv:=fun y=>GoHead l y.1 y.2,mu:=fun y=>l.length-y.1 }
  |_=>none }
noncomputable section
def QaI(a:List Int):Prop:=True/\∃(_y:Unit),True/\false=EE a/\True/\True
def X0(a:List Int)(b:Nat)(c:Int):Prop:=GoHead a b c
def Jt(a:List Int)(b:Nat):Int:=GI a (Int.toNat (↑b:Int))
def QaJ(a:List Int)(b:Nat):Bool:=bif decide (Jt a b<Z0) then true else decide ((65536:Int)<Jt a b)
def Qt0(a:List Int):D:=SI a
def Qfv(a:List Int):Prop:=SM (Qt0 a)/\SM (ZI (LI a))/\True
end
theorem BiW(l:List Int):ACalls Tryz.prog 173 [isl l .any] ⟨[],[]⟩ (SpecR (sC [isl l .any] (.bool (EE l))) ()):=by
 refine Bf (A:=sC _ _) (x:=()) (E:=Eright l) (eOk BJ rfl) Tryz.func173 rfl (by kernel_rfl) rfl (by simp[sC,Eright,EC,E0]) ?_
 refine Bk (T :=
  ifB (decide ((8:Int)<(LI l))) (QaI l) ((∃(x:Nat×Int),X0 l x.1 x.2/\(Z0=(NI x.1)/\Z1=x.2/\True)/\True/\True)/\∀(x:Nat×Int),X0 l x.1 x.2->ifB (decide ((NI x.1)<(LI l))) (Be (Z0<=(NI x.1)/\(NI x.1)<(LI l)) (ifB (decide (Jt l x.1<Z0)) (true=QaJ l x.1/\True) (decide ((65536:Int)<Jt l x.1)=QaJ l x.1/\True)/\ifB (QaJ l x.1) (QaI l) (ifB (Jt l x.1==Z0) (Qfv l/\∃(y:Nat×Int),X0 l y.1 y.2/\LN l-y.1<LN l-x.1/\(IntKind.wrap IntKind.i64 ((NI x.1)+Z1)=(NI y.1)/\x.2=y.2/\True)/\True/\True) (ifB (decide ((65536:Int)<IntKind.wrap IntKind.i64 (x.2*Jt l x.1))) (QaI l) (Qfv l/\∃(y:Nat×Int),X0 l y.1 y.2/\LN l-y.1<LN l-x.1/\(IntKind.wrap IntKind.i64 ((NI x.1)+Z1)=(NI y.1)/\IntKind.wrap IntKind.i64 (x.2*Jt l x.1)=y.2/\True)/\True/\True))))) (RT (true=EE l)))) (by kernel_rfl) ?_
 delta GI LI LN N1 NI SI SM Z0 Z1 ZI QaI X0 Jt QaJ Qt0 Qfv RT
 simp only[Int.toNat_natCast,Bh,Bc,decide_eq_true_eq,decide_eq_false_iff_not,true_and,and_true,beq_iff_eq,Bool.cond_true_left,beq_eq_false_iff_ne,ne_eq,exists_const]
 have no:goO l 1=none->false=EE l:=fun h=>by simp[EE,h]
 refine⟨fun h=>?_,fun h8=>⟨⟨(0,1),GoHead.init l,rfl,rfl⟩,?_⟩⟩
 ·have:¬l.length<=8:=by omega
  simp[EE,this]
 rintro ⟨i,p⟩ hh
 simp only at hh ⊢
 refine⟨fun hlt=>?_,fun hge=>?_⟩
 rotate_left
 ·have:l.length<=8:=by omega
  simp[EE,hh.done hge,this]
 have hlt':i<l.length:=by omega
 obtain ⟨s1,s2,s3,s4⟩:=hh.step hlt'
 refine⟨by omega,⟨fun h=>by rw[decide_eq_true h];rfl,fun h=>by rw[decide_eq_false h];rfl⟩,fun h=>no ?_,fun h=>?_⟩
 ·rw[Bool.or_eq_true,decide_eq_true_eq,decide_eq_true_eq] at h
  exact h.elim s1 s2
 ·rw[Bool.or_eq_false_iff,decide_eq_false_iff_not,decide_eq_false_iff_not] at h
  obtain ⟨b1,b2,s5,s6⟩:=s4 h.1 h.2
  have hw:IntKind.i64.wrap (p*l.getD i 0)=p*l.getD i 0:=Bb (by omega) (by omega)
  rw[hw]
  exact⟨fun hd=>⟨(i+1,p),s3 hd,by simp only;omega,Bb (by omega) (by omega),rfl⟩,fun hd=>⟨fun h4=>no (s5 h4 hd),fun h4=>⟨(i+1,p*l.getD i 0),s6 h4 hd,by simp only;omega,Bb (by omega) (by omega),rfl⟩⟩⟩
noncomputable def Erprod(l:List Int):Senv:={ EC E5 30 1 [2,3,4,8,15,20,28] (fun _=>([],[])) with
 ann:=fun b _ _=>match b with
  |0=>some { slots:=[4,3],keep:=[0],α:=Nat×Int,st:=fun y=>([.int .i64 y.1,.int .i64 y.2],⟨[],[]⟩),inv:=fun y=>GoHead l y.1 y.2,mu:=fun y=>l.length-y.1 }
  |_=>none }
noncomputable section
def X1(a:List Int)(b:Nat)(c:Int):Prop:=GoHead a b c
def QaK(a:List Int):Prop:=True/\∃(_y:Unit),True/\(65537:Int)=Option.getD (goO a Z1) (65537:Int)/\True/\True
def Qt1(a:List Int):D:=SI a
def Qfw(a:List Int):Prop:=SM (Qt1 a)/\True
end
theorem Bkc(l:List Int)(h0:∀z∈l,0<=z)(hl:l.length<=maxLen):ACalls Tryz.prog 205 [isl l .any] ⟨[],[]⟩ (SpecR (sC [isl l .any] (.int .i64 ((goO l 1).getD 65537))) ()):=by
 refine Bf (A:=sC _ _) (x:=()) (E:=Erprod l) (eOk BJ rfl) Tryz.func205 rfl (by kernel_rfl) rfl (by simp[sC,Erprod,EC,E0]) ?_
 refine Bk (T :=
  (∃(x:Nat×Int),X1 l x.1 x.2/\(Z0=(NI x.1)/\Z1=x.2/\True)/\True/\True)/\∀(x:Nat×Int),X1 l x.1 x.2->ifB (decide ((NI x.1)<(LI l))) (Be (Z0<=(NI x.1)/\(NI x.1)<(LI l)) (ifB (decide ((65536:Int)<GI l (TN x.1))) (QaK l) (Be (Z0<=(NI x.1)/\(NI x.1)<(LI l)) (ifB (decide (Z0<GI l (TN x.1))) (Be (Z0<=(NI x.1)/\(NI x.1)<(LI l)) (ifB (decide ((65536:Int)<IntKind.wrap IntKind.i64 (x.2*GI l (TN x.1)))) (QaK l) (Qfw l/\∃(y:Nat×Int),X1 l y.1 y.2/\LN l-y.1<LN l-x.1/\(IntKind.wrap IntKind.i64 ((NI x.1)+Z1)=(NI y.1)/\IntKind.wrap IntKind.i64 (x.2*GI l (TN x.1))=y.2/\True)/\True/\True))) (ifB (decide ((65536:Int)<x.2)) (QaK l) (Qfw l/\∃(y:Nat×Int),X1 l y.1 y.2/\LN l-y.1<LN l-x.1/\(IntKind.wrap IntKind.i64 ((NI x.1)+Z1)=(NI y.1)/\x.2=y.2/\True)/\True/\True)))))) (RT (x.2=Option.getD (goO l Z1) (65537:Int)))) (by kernel_rfl) ?_
 delta GI LI LN N1 NI SI SM TN Z0 Z1 ZI X1 QaK Qt1 Qfw RT
 simp only[Int.toNat_natCast,Bh,Bc,decide_eq_true_eq,decide_eq_false_iff_not,true_and,and_true,exists_const]
 have no:goO l 1=none->(65537:Int)=(goO l 1).getD 65537:=fun h=>by simp[h]
 refine⟨⟨(0,1),GoHead.init l,rfl,rfl⟩,?_⟩
 rintro ⟨i,p⟩ hh
 simp only at hh ⊢
 refine⟨fun hlt=>?_,fun hge=>by simp[hh.done hge]⟩
 have hlt':i<l.length:=by omega
 obtain ⟨s1,s2,s3,s4⟩:=hh.step hlt'
 have hd0:0<=l.getD i 0:=h0 _ (by rw[List.getD_eq_getElem?_getD,List.getElem?_eq_getElem hlt'];exact List.getElem_mem hlt')
 simp only[maxLen] at hl
 refine⟨by omega,fun h=>no (s2 h),fun h=>⟨by omega,?_⟩⟩
 obtain ⟨b1,b2,s5,s6⟩:=s4 (by omega) h
 have hw:IntKind.i64.wrap (p*l.getD i 0)=p*l.getD i 0:=Bb (by omega) (by omega)
 rw[hw]
 refine⟨fun hd=>⟨by omega,fun h4=>no (s5 h4 (by omega)),fun h4=>⟨(i+1,p*l.getD i 0),s6 h4 (by omega),by simp only;omega,Bb (by omega) (by omega),rfl⟩⟩,fun hd=>⟨fun h4=>absurd h4 (by have:=hh.h2;omega),fun _=>⟨(i+1,p),s3 (by omega),by simp only;omega,Bb (by omega) (by omega),rfl⟩⟩⟩
theorem Bhx(s:List UInt8)(n:Int)(h0:0<=n)(hn:n<=9223372036854775807)(hl:s.length*n.toNat<=140737488355328):ACalls Tryz.prog 20 [.str s,.int .i64 n] ⟨[],[]⟩ (SpecR (sC [.str s,.int .i64 n] (.str (Lib.repeatL s n.toNat))) ()):=by
 refine ACalls.of_shelf ⟨_,Tryz.func20,by kernel_rfl,by kernel_rfl⟩ fun C args w ha=>?_
 obtain ⟨u,v,e,hu,hv⟩:=EO ha
 have e2:args=[u,v].toArray:=by rw[<- e]
 subst e2
 simp only[Rep] at hu hv;subst hu hv
 have:=Tryz.strings_Repeat ⟨s.toArray⟩ n.toNat w (by omega) (by simpa[ByteArray.size] using hl)
 rw[show ((n.toNat:Nat):Int)=n by omega] at this
 exact this.mono fun e w' ⟨h1,h2⟩=>⟨⟨_,h1,by simp[Rep]⟩,h2⟩
def Bnd:Con:=fun k ds _=>match k with
 |20=>match ds with
  | [.str s,.int .i64 n]=>some (pC [.str s,.int .i64 n] (.str (Lib.repeatL s n.toNat)) (0<=n/\n<=9223372036854775807/\s.length*n.toNat<=140737488355328))
  |_=>none
 |_=>none
theorem BgM:ConOk Tryz.prog Bnd:=by
 intro k ds S A h
 unfold Bnd at h
 split at h
 ·split at h
  ·injection h with h;subst h
   exact BM fun ⟨h1,h2,h3⟩=>⟨Bj _,Bhx _ _ h1 h2 h3⟩
  ·cases h
 ·cases h
theorem Td(s:List UInt8):∀i,Lib.repeatL s i++s=Lib.repeatL s (i+1)
 |0=>by simp[Lib.repeatL]
 |i+1=>by rw[Lib.repeatL,List.append_assoc,Td s i,<- Lib.repeatL]
def GM(p:Int->Bool):List Int->Nat->Int
 | [],_=>-1
 |d::r,i=>if p d then (i:Int) else GM p r (i+1)
theorem OG(p:Int->Bool):∀(l:List Int) (i:Nat),decide (0<=GM p l i)=l.any p
 | [],i=>rfl
 |d::r,i=>by
  rw[GM,List.any_cons]
  split
  ·rename_i h;rw[h];simp
  ·rename_i h
   rw[OG p r (i+1)]
   simp[h]
structure IdxHead (p:Int->Bool) (l:List Int) (i:Nat):Prop where
 hi:i<=l.length
 hg:GM p (l.drop i) i=GM p l 0
theorem IdxHead.step{p:Int->Bool}{l:List Int}{i:Nat}(h:IdxHead p l i)(hlt:i<l.length):(p (l.getD i 0)=true->GM p l 0=i)/\(p (l.getD i 0)=false->IdxHead p l (i+1)):=by
 have hg:=h.hg
 rw[Ox hlt,GM] at hg
 refine⟨fun e=>?_,fun e=>?_⟩
 ·rw[if_pos e] at hg;exact hg.symm
 ·rw[if_neg (by rw[e];exact Bool.false_ne_true)] at hg;exact⟨by omega,hg⟩
theorem IdxHead.done{p:Int->Bool}{l:List Int}{i:Nat}(h:IdxHead p l i)(hge:¬(i:Int)<l.length):GM p l 0 = -1:=by
 have hg:=h.hg
 have:i=l.length:=by have:=h.hi;omega
 rw[this,List.drop_length,GM] at hg
 exact hg.symm
def Bpw(p:Int->Bool)(l:List Int)(keep:List Nat):LoopAnn:={ slots:=[8],keep:=keep,α:=Nat,st:=fun i=>([.int .i64 i],⟨[],[]⟩),inv:=fun i=>IdxHead p l i,mu:=fun i=>l.length-i }
noncomputable def Eidx(l:List Int)(v:Int):Senv:={ EC E5 19 2 [4,5,7,8,9,16] (fun _=>([],[])) with
 ann:=fun b _ _=>match b with
  |0=>some (Bpw (fun d=>v==d) l [0,1,6,7])
  |_=>none }
noncomputable section
def QaL(a:Int)(b:List Int)(c:Nat):Prop:=IdxHead (fun (d:Int)=>a==d) b c
def Qt2(a:List Int):D:=SI a
end
theorem BpC(l:List Int)(v:Int)(hl:l.length<=maxLen):ACalls Tryz.prog 220 [isl l .any,.int .i64 v] ⟨[],[]⟩ (SpecR (sC [isl l .any,.int .i64 v] (.int .i64 (GM (fun d=>v==d) l 0))) ()):=by
 refine Bf (A:=sC _ _) (x:=()) (E:=Eidx l v) (eOk BJ rfl) Tryz.func220 rfl (by kernel_rfl) rfl (by simp[sC,Eidx,EC,E0]) ?_
 refine Bk (T :=
  (∃(x:Nat),QaL v l x/\(Z0=(↑x:Int)/\True)/\True/\True)/\∀(x:Nat),QaL v l x->ifB (decide ((↑x:Int)<(LI l))) (Be (Z0<=(↑x:Int)/\(↑x:Int)<(LI l)) (ifB (v==GI l (Int.toNat (↑x:Int))) (RT ((↑x:Int)=GM (fun (d:Int)=>v==d) l N0)) ((SM (Qt2 l)/\SM (ZI v)/\SM D.unk/\SM (ZI (LI l))/\True)/\∃(y:Nat),QaL v l y/\LN l-y<LN l-x/\(IntKind.wrap IntKind.i64 ((↑x:Int)+Z1)=(↑y:Int)/\True)/\True/\True))) (RT ((-1:Int)=GM (fun (d:Int)=>v==d) l N0))) (by kernel_rfl) ?_
 delta GI LI LN N0 N1 SI SM Z0 Z1 ZI QaL Qt2 RT
 simp only[Int.toNat_natCast,Bh,Bc,decide_eq_true_eq,decide_eq_false_iff_not,true_and,and_true,exists_const]
 simp only[maxLen] at hl
 refine⟨⟨0,⟨Nat.zero_le _,by simp⟩,rfl⟩,fun i hh=>⟨fun hlt=>?_,fun hge=>(hh.done hge).symm⟩⟩
 have hlt':i<l.length:=by omega
 obtain ⟨s1,s2⟩:=hh.step hlt'
 exact⟨by omega,fun h=>(s1 h).symm,fun h=>⟨i+1,s2 h,by omega,Bb (by omega) (by omega)⟩⟩
noncomputable def Eneg(l:List Int):Senv:={ EC E5 19 2 [4,5,7,8,9,16] (fun _=>([],[])) with
 ann:=fun b _ _=>match b with
  |0=>some (Bpw (fun d=>decide (d<0)) l [0,1,6,7])
  |_=>none }
noncomputable section
def QaM(a:List Int)(b:Nat):Prop:=IdxHead (fun (d:Int)=>decide (d<Z0)) a b
def Qfx(a:List Int):Int:=GM (fun (d:Int)=>decide (d<Z0)) a N0
def Qt3(a:List Int):D:=SI a
end
theorem Bpd(l:List Int)(hl:l.length<=maxLen):ACalls Tryz.prog 199 [isl l .any,.fn (.func 172) [] []] ⟨[],[]⟩ (SpecR (sC [isl l .any,.fn (.func 172) [] []] (.int .i64 (GM (fun d=>decide (d<0)) l 0))) ()):=by
 refine Bf (A:=sC _ _) (x:=()) (E:=Eneg l) (eOk BJ rfl) Tryz.func199 rfl (by kernel_rfl) rfl (by simp[sC,Eneg,EC,E0]) ?_
 refine Bk (T :=
  (∃(x:Nat),QaM l x/\(Z0=(↑x:Int)/\True)/\True/\True)/\∀(x:Nat),QaM l x->ifB (decide ((↑x:Int)<(LI l))) (Be (Z0<=(↑x:Int)/\(↑x:Int)<(LI l)) (True/\ifB (decide (GI l (Int.toNat (↑x:Int))<Z0)) (RT ((↑x:Int)=Qfx l)) ((SM (Qt3 l)/\SM (D.fn (Fn.func (172:Nat)) [] [])/\SM D.unk/\SM (ZI (LI l))/\True)/\∃(y:Nat),QaM l y/\LN l-y<LN l-x/\(IntKind.wrap IntKind.i64 ((↑x:Int)+Z1)=(↑y:Int)/\True)/\True/\True))) (RT ((-1:Int)=Qfx l))) (by kernel_rfl) ?_
 delta GI LI LN N0 N1 SI SM Z0 Z1 ZI QaM Qfx Qt3 RT
 simp only[Int.toNat_natCast,Bh,Bc,decide_eq_true_eq,decide_eq_false_iff_not,true_and,and_true,exists_const]
 simp only[maxLen] at hl
 refine⟨⟨0,⟨Nat.zero_le _,by simp⟩,rfl⟩,fun i hh=>⟨fun hlt=>?_,fun hge=>(hh.done hge).symm⟩⟩
 have hlt':i<l.length:=by omega
 obtain ⟨s1,s2⟩:=hh.step hlt'
 exact⟨by omega,fun h=>(s1 (decide_eq_true h)).symm,fun h=>⟨i+1,s2 (decide_eq_false h),by omega,Bb (by omega) (by omega)⟩⟩
theorem CF(l:List Int):IntsP l.length (fun i=>[D.int .i64 (l.getD i 0)]):=fun _ _=>rfl
def Bah:Con:=fun k ds S=>match k with
 |220=>match ds with
  | [.sl 1 n f _,.int .i64 v]=>some (pC ds (.int .i64 (GM (fun d=>v==d) (Bp n f) 0)) (IntsP n f/\n<=maxLen))
  |_=>none
 |199=>match ds with
  | [.sl 1 n f _,.fn (.func 172) [] []]=>some (pC ds (.int .i64 (GM (fun d=>decide (d<0)) (Bp n f) 0)) (IntsP n f/\n<=maxLen))
  |_=>none
 |173=>match ds with
  | [.sl 1 n f _]=>some (pC ds (.bool (EE (Bp n f))) (IntsP n f))
  |_=>none
 |205=>match ds with
  | [.sl 1 n f _]=>some (pC ds (.int .i64 ((goO (Bp n f) 1).getD 65537)) (IntsP n f/\(∀z∈Bp n f,0<=z)/\n<=maxLen))
  |_=>none
 |k=>Bnd k ds S
theorem B3(n:Nat)(f:Nat->List D):(Bp n f).length=n:=by simp[Bp]
theorem Cb{k:Nat}{ds us:List D}{d:D}(hw:Br ds us)(h:ACalls Tryz.prog k us ⟨[],[]⟩ (SpecR (sC us d) ())):ACalls Tryz.prog k ds ⟨[],[]⟩ (SpecR (sC ds d) ()) :=
 (ACalls.weakArgs h hw).mono fun _ _ ⟨_,_h1,h2,h3⟩=>⟨(),trivial,h2,h3⟩
theorem O2:ConOk Tryz.prog Bah:=by
 intro k ds S A h
 unfold Bah at h
 split at h
 ·split at h
  ·injection h with h;subst h
   exact BM fun ⟨h1,h2⟩=>⟨Bj _,Cb (us:=[isl (Bp _ _) .any,_]) ⟨(Eb h1).1,Bd _,trivial⟩ (BpC _ _ (by rw[B3];exact h2))⟩
  ·cases h
 ·split at h
  ·injection h with h;subst h
   exact BM fun ⟨h1,h2⟩=>⟨Bj _,Cb (us:=[isl (Bp _ _) .any,_]) ⟨(Eb h1).1,Bd _,trivial⟩ (Bpd _ (by rw[B3];exact h2))⟩
  ·cases h
 ·split at h
  ·injection h with h;subst h
   exact BM fun h1=>⟨Bj _,Cb (Eb h1) (BiW _)⟩
  ·cases h
 ·split at h
  ·injection h with h;subst h
   exact BM fun ⟨h1,h2,h3⟩=>⟨Bj _,Cb (Eb h1) (Bkc _ h2 (by rw[B3];exact h3))⟩
  ·cases h
 ·exact BgM _ _ _ _ h
noncomputable def Eprod(l:List Int):Senv:={ EC Bah 19 1 [2,3,5,7,8,9,10,11] (fun _=>([],[])) with
 ann:=fun b _ _=>match b with
  |0=>some { slots:=[10,3],keep:=[8,9],α:=Nat×Int,st:=fun y=>([.int .i64 y.1,.int .i64 y.2],⟨[],[]⟩),inv:=fun y=>GoHead l y.1 y.2,mu:=fun y=>l.length-y.1 }
  |_=>none }
noncomputable section
def Qt4(a:List Int):D:=SI a
end
theorem BmV(l:List Int)(h:EE l=true):ACalls Tryz.prog 200 [isl l .any] ⟨[],[]⟩ (SpecR (sC [isl l .any] (.int .i64 (C5 l))) ()):=by
 refine Bf (A:=sC _ _) (x:=()) (E:=Eprod l) (eOk O2 rfl) Tryz.func200 rfl (by kernel_rfl) rfl (by simp[sC,Eprod,EC,E0]) ?_
 refine Bk (T :=
  ((IntsP (LN l) fun i=>[ZI (GI l i)])/\LN l<=9223372036854775807)/\∀(y:Unit),True->True/\ifB (decide (Z0<=GM (fun (d:Int)=>Z0==d) (Bp (LN l) fun i=>[ZI (GI l i)]) N0)) (RT (Z0=C5 l)) ((∃(x:Nat×Int),GoHead l x.1 x.2/\(Z0=(NI x.1)/\Z1=x.2/\True)/\True/\True)/\∀(x:Nat×Int),GoHead l x.1 x.2->ifB (decide ((NI x.1)<(LI l))) (Be (Z0<=(NI x.1)/\(NI x.1)<(LI l)) ((SM (Qt4 l)/\SM (ZI (LI l))/\True)/\∃(y:Nat×Int),GoHead l y.1 y.2/\LN l-y.1<LN l-x.1/\(IntKind.wrap IntKind.i64 ((NI x.1)+Z1)=(NI y.1)/\IntKind.wrap IntKind.i64 (x.2*GI l (TN x.1))=y.2/\True)/\True/\True)) (RT (x.2=C5 l)))) (by kernel_rfl) ?_
 delta GI LI LN N0 N1 NI SI SM TN Z0 Z1 ZI Qt4 RT
 simp only[Cl,OG,Int.toNat_natCast,Bh,Bc,decide_eq_true_eq,decide_eq_false_iff_not,true_and,and_true,exists_const]
 simp only[EE,Bool.and_eq_true,decide_eq_true_eq] at h
 have hcon:(l.any fun d=>0==d)=l.contains 0:=by
  rw[Bool.eq_iff_iff,List.contains_iff_mem,List.any_eq_true]
  constructor
  ·rintro ⟨z,hz,e⟩
   have e:0=z:=by simpa using e
   rw[e];exact hz
  ·exact fun hm=>⟨0,hm,rfl⟩
 rw[hcon]
 refine⟨⟨CF l,by omega⟩,fun _ _=>⟨fun hz=>by rw[C5,if_pos hz],fun hz=>⟨⟨(0,1),GoHead.init l,rfl,rfl⟩,?_⟩⟩⟩
 rintro ⟨i,p⟩ hh
 simp only at hh ⊢
 refine⟨fun hlt=>?_,fun hge=>by rw[C5,if_neg (by rw[hz];exact Bool.false_ne_true),hh.done hge];rfl⟩
 have hlt':i<l.length:=by omega
 obtain ⟨s1,s2,s3,s4⟩:=hh.step hlt'
 have hne:l.getD i 0≠0:=by
  intro e
  have:l.contains 0=true:=by
   rw[List.contains_iff_mem,<- e,List.getD_eq_getElem?_getD,List.getElem?_eq_getElem hlt'];exact List.getElem_mem hlt'
  rw[this] at hz;cases hz
 have n1:¬l.getD i 0<0:=fun e=>by rw[s1 e] at h;exact absurd h.2 (by simp)
 have n2:¬65536<l.getD i 0:=fun e=>by rw[s2 e] at h;exact absurd h.2 (by simp)
 obtain ⟨b1,b2,s5,s6⟩:=s4 n1 n2
 have n3:¬65536<p*l.getD i 0:=fun e=>by rw[s5 e hne] at h;exact absurd h.2 (by simp)
 exact⟨by omega,(i+1,p*l.getD i 0),s6 n3 hne,by simp only;omega,Bb (by omega) (by omega),Bb (by omega) (by omega)⟩
noncomputable def Edims(l:List Int):Senv:={ EC Bah 21 1 [2,3,6,10,17,20] (fun _=>([],[])) with
 ann:=fun b _ _=>match b with
  |0=>some { slots:=[3],keep:=[0],α:=Nat,st:=fun i=>([.int .i64 i],⟨[],[]⟩),inv:=fun i=>i<=l.length/\∀z∈l.take i,0<=z,mu:=fun i=>l.length-i }
  |_=>none }
theorem Bb2:∀(l:List Int) (p:Int),p<=65536->∀q,goO l p=some q->q<=65536
 | [],p,hp,q,h=>by rw[goO] at h;injection h with h;omega
 |d::r,p,hp,q,h=>by
  rw[goO] at h
  split at h
  ·cases h
  ·split at h
   ·exact Bb2 r p hp q h
   ·split at h
    ·cases h
    ·exact Bb2 r _ (by omega) q h
def El(s:List Int):Int:=if 8<s.length then 15 else if s.any (fun d=>decide (d<0)) then 16 else if (goO s 1).isSome then 0 else 21
noncomputable section
def X2(a:List Int):Int:=El a
def QaN(a:Nat)(b:List Int):Prop:=a<=LN b/\∀(z:Int),z∈List.take a b->Z0<=z
def Qt5(a:List Int):D:=SI a
def Qfy(a:List Int):List Int:=Bp (LN a) fun i=>[ZI (GI a i)]
end
theorem BnK(l:List Int):ACalls Tryz.prog 183 [isl l .any] ⟨[],[]⟩ (SpecR (sC [isl l .any] (.int .i64 (El l))) ()):=by
 refine Bf (A:=sC _ _) (x:=()) (E:=Edims l) (eOk O2 rfl) Tryz.func183 rfl (by kernel_rfl) rfl (by simp[sC,Edims,EC,E0]) ?_
 refine Bk (T :=
  ifB (decide ((8:Int)<(LI l))) (RT ((15:Int)=X2 l)) ((∃(x:Nat),QaN x l/\(Z0=(↑x:Int)/\True)/\True/\True)/\∀(x:Nat),QaN x l->ifB (decide ((↑x:Int)<(LI l))) (Be (Z0<=(↑x:Int)/\(↑x:Int)<(LI l)) (ifB (decide (GI l (Int.toNat (↑x:Int))<Z0)) (RT ((16:Int)=X2 l)) ((SM (Qt5 l)/\True)/\∃(y:Nat),QaN y l/\LN l-y<LN l-x/\(IntKind.wrap IntKind.i64 ((↑x:Int)+Z1)=(↑y:Int)/\True)/\True/\True))) (((IntsP (LN l) fun i=>[ZI (GI l i)])/\(∀(z:Int),z∈Qfy l->Z0<=z)/\LN l<=9223372036854775807)/\∀(y:Unit),True->ifB (decide ((65536:Int)<Option.getD (goO (Qfy l) Z1) (65537:Int))) (RT ((21:Int)=X2 l)) (RT (Z0=X2 l))))) (by kernel_rfl) ?_
 delta GI LI LN N1 SI SM Z0 Z1 ZI X2 QaN Qt5 Qfy RT
 simp only[Cl,Int.toNat_natCast,Bh,Bc,decide_eq_true_eq,decide_eq_false_iff_not,true_and,and_true,exists_const]
 have tk:∀i,i<l.length->∀P:Int->Prop,(∀z∈l.take i,P z)->P (l.getD i 0)->∀z∈l.take (i+1),P z:=fun i hi P h1 h2 z hz=>by
  rw[List.take_add_one,List.mem_append] at hz
  rcases hz with hz | hz
  ·exact h1 z hz
  ·rw[List.getElem?_eq_getElem hi] at hz
   simp at hz
   rw[hz]
   simpa[List.getD_eq_getElem?_getD,hi] using h2
 refine⟨fun h=>?_,fun h8=>⟨⟨0,⟨Nat.zero_le _,by simp⟩,rfl⟩,fun i hh=>⟨fun hlt=>?_,fun hge=>?_⟩⟩⟩
 ·have:8<l.length:=by omega
  simp[El,this]
 ·have hlt':i<l.length:=by omega
  have h8':¬8<l.length:=by omega
  refine⟨by omega,fun h=>?_,fun h=>⟨i+1,⟨by omega,tk i hlt' _ hh.2 (by omega)⟩,by omega,Bb (by omega) (by omega)⟩⟩
  have:l.any (fun d=>decide (d<0))=true:=by
   rw[List.any_eq_true]
   refine⟨l.getD i 0,?_,decide_eq_true h⟩
   rw[List.getD_eq_getElem?_getD,List.getElem?_eq_getElem hlt'];exact List.getElem_mem hlt'
  rw[El,if_neg h8',if_pos this]
 ·have hi:i=l.length:=by omega
  rw[hi,List.take_length] at hh
  have h8':¬8<l.length:=by omega
  have hnn:¬l.any (fun d=>decide (d<0))=true:=by
   rw[List.any_eq_true]
   rintro ⟨z,hz,h⟩
   have:=hh.2 z hz
   simp at h
   omega
  refine⟨⟨CF l,hh.2,by omega⟩,fun _ _=>?_⟩
  rw[El,if_neg h8',if_neg hnn]
  have hb:=Bb2 l 1 (by omega)
  cases hg:goO l 1 with
  |none=>simp
  |some p=>have:=hb p hg;simp;omega
noncomputable def Ecount(l:List Int):Senv:={ EC Bah 17 1 [2,3,7,14] (fun _=>([],[])) with
 ann:=fun b _ _=>match b with
  |0=>some { slots:=[3],keep:=[0],α:=Nat,st:=fun i=>([.int .i64 i],⟨[],[]⟩),inv:=fun i=>i<=l.length/\∀z∈l.take i,z≠0,mu:=fun i=>l.length-i }
  |_=>none }
noncomputable section
def QaO(a:Nat)(b:List Int):Prop:=a<=LN b/\∀(z:Int),z∈List.take a b->z≠Z0
def Qt6(a:List Int):D:=SI a
def Qfz(a:List Int):List Int:=Bp (LN a) fun i=>[ZI (GI a i)]
end
theorem Bj1(l:List Int)(h:El l=0):ACalls Tryz.prog 185 [isl l .any] ⟨[],[]⟩ (SpecR (sC [isl l .any] (.int .i64 (C5 l))) ()):=by
 refine Bf (A:=sC _ _) (x:=()) (E:=Ecount l) (eOk O2 rfl) Tryz.func185 rfl (by kernel_rfl) rfl (by simp[sC,Ecount,EC,E0]) ?_
 refine Bk (T :=
  (∃(x:Nat),QaO x l/\(Z0=(↑x:Int)/\True)/\True/\True)/\∀(x:Nat),QaO x l->ifB (decide ((↑x:Int)<(LI l))) (Be (Z0<=(↑x:Int)/\(↑x:Int)<(LI l)) (ifB (GI l (Int.toNat (↑x:Int))==Z0) (RT (Z0=C5 l)) ((SM (Qt6 l)/\True)/\∃(y:Nat),QaO y l/\LN l-y<LN l-x/\(IntKind.wrap IntKind.i64 ((↑x:Int)+Z1)=(↑y:Int)/\True)/\True/\True))) (((IntsP (LN l) fun i=>[ZI (GI l i)])/\(∀(z:Int),z∈Qfz l->Z0<=z)/\LN l<=9223372036854775807)/\∀(y:Unit),True->RT (Option.getD (goO (Qfz l) Z1) (65537:Int)=C5 l))) (by kernel_rfl) ?_
 delta GI LI LN N1 SI SM Z0 Z1 ZI QaO Qt6 Qfz RT
 simp only[Cl,Int.toNat_natCast,Bh,Bc,decide_eq_true_eq,decide_eq_false_iff_not,true_and,and_true,exists_const]
 have tk:∀i,i<l.length->∀P:Int->Prop,(∀z∈l.take i,P z)->P (l.getD i 0)->∀z∈l.take (i+1),P z:=fun i hi P h1 h2 z hz=>by
  rw[List.take_add_one,List.mem_append] at hz
  rcases hz with hz | hz
  ·exact h1 z hz
  ·rw[List.getElem?_eq_getElem hi] at hz
   simp at hz
   rw[hz]
   simpa[List.getD_eq_getElem?_getD,hi] using h2
 have hl8:l.length<=8:=by
  unfold El at h
  split at h
  ·cases h
  ·omega
 have hnn:∀z∈l,0<=z:=by
  intro z hz
  unfold El at h
  split at h
  ·cases h
  ·split at h
   ·cases h
   ·rename_i hn
    rw[List.any_eq_true] at hn
    by_cases h0:z<0
    ·exact (hn ⟨z,hz,decide_eq_true h0⟩).elim
    ·omega
 have hg:(goO l 1).isSome=true:=by
  unfold El at h
  (repeat' split at h)<;>first | assumption | (cases h;done)
 refine⟨⟨0,⟨Nat.zero_le _,by simp⟩,rfl⟩,fun i hh=>⟨fun hlt=>?_,fun hge=>?_⟩⟩
 ·have hlt':i<l.length:=by omega
  refine⟨by omega,fun h=>?_,fun h=>⟨i+1,⟨by omega,tk i hlt' _ hh.2 (by simpa using h)⟩,by omega,Bb (by omega) (by omega)⟩⟩
  have h0:l.getD i 0=0:=by simpa using h
  have:l.contains 0=true:=by
   rw[List.contains_iff_mem,<- h0,List.getD_eq_getElem?_getD,List.getElem?_eq_getElem hlt'];exact List.getElem_mem hlt'
  rw[C5,if_pos this]
 ·have hi:i=l.length:=by omega
  rw[hi,List.take_length] at hh
  refine⟨⟨CF l,hnn,by omega⟩,fun _ _=>?_⟩
  have:¬l.contains 0=true:=by
   rw[List.contains_iff_mem]
   exact fun hm=>hh.2 0 hm rfl
  rw[C5,if_neg this]
  cases hgo:goO l 1 with
  |none=>rw[hgo] at hg;cases hg
  |some p=>rfl
def Cq(k:Int)(s:List Int)(nn ni:Nat):Int :=
 if k=1\/k=2\/k=3 then
  if El s≠0 then El s
  else if ((if k=3 then (ni:Int) else nn)≠C5 s)\/((if k=3 then (nn:Int) else ni)≠0) then 16 else 0
 else 14
def R5:Con:=fun k ds S=>match k with
 |200=>match ds with
  | [.sl 1 n f _]=>some (pC ds (.int .i64 (C5 (Bp n f))) (IntsP n f/\EE (Bp n f)=true))
  |_=>none
 |183=>match ds with
  | [.sl 1 n f _]=>some (pC ds (.int .i64 (El (Bp n f))) (IntsP n f))
  |_=>none
 |185=>match ds with
  | [.sl 1 n f _]=>some (pC ds (.int .i64 (C5 (Bp n f))) (IntsP n f/\El (Bp n f)=0))
  |_=>none
 |k=>Bah k ds S
theorem Tj:ConOk Tryz.prog R5:=by
 intro k ds S A h
 unfold R5 at h
 split at h
 ·split at h
  ·injection h with h;subst h
   exact BM fun ⟨h1,h2⟩=>⟨Bj _,Cb (Eb h1) (BmV _ h2)⟩
  ·cases h
 ·split at h
  ·injection h with h;subst h
   exact BM fun h1=>⟨Bj _,Cb (Eb h1) (BnK _)⟩
  ·cases h
 ·split at h
  ·injection h with h;subst h
   exact BM fun ⟨h1,h2⟩=>⟨Bj _,Cb (Eb h1) (Bj1 _ h2)⟩
  ·cases h
 ·exact O2 _ _ _ _ h
noncomputable def Eform:Senv:=EC R5 44 5 [12,13,16,20,25,29,34] (fun id=>match id with | 1=>([0,1,2,3,4,5,6,7],[]) | _=>([],[]))
noncomputable section
def VM(a:Int)(b:List Int)(c d:Nat):Int:=Cq a b c d
def QfA(a:Int)(b:List Int)(c d:Nat):Prop:=True/\∃(_y:Unit),True/\(15:Int)=VM a b c d/\True/\True
def JR(a:List Int):Prop:=IntsP (LN a) fun i=>[ZI (GI a i)]
def QfB(a:List Int):Prop:=JR a/\LN a<=9223372036854775807
def QaP(a:List Int):List Int:=Bp (LN a) fun i=>[ZI (GI a i)]
def QfC(a:List Int):Bool:=decide (Z0<=GM (fun (d:Int)=>decide (d<Z0)) (QaP a) N0)
def Ju(a:Int)(b:List Int)(c d:Nat):Prop:=True/\∃(_y:Unit),True/\(16:Int)=VM a b c d/\True/\True
def QfD(a:List Int):Bool:=EE (QaP a)
def X3(a:List Int):Bool:=!QfD a
def QfE(a:Int)(b:List Int)(c d:Nat):Prop:=True/\∃(_y:Unit),True/\(21:Int)=VM a b c d/\True/\True
def QfF(a:Int)(b:List Int)(c d:Nat):Prop:=True/\Ju a b c d
def QfG(a:List Int):Prop:=JR a/\QfD a=true
def QfH(a:Nat)(b:List Int):Bool:=(↑a:Int) != C5 (QaP b)
def QfI(a:Int)(b:List Int)(c d:Nat):Prop:=True/\∃(_y:Unit),True/\Z0=VM a b c d/\True/\True
def QfJ(a:Nat)(b:List Int)(c:Int)(d e:Nat):Prop:=SM a/\ifB (decide ((8:Int)<(LI b))) (QfA c b d e) (SM a/\QfB b/\∀(_y:Unit),True->True/\ifB (QfC b) (Ju c b d e) (SM a/\JR b/\∀(_y:Unit),True->ifB (X3 b) (QfE c b d e) (SM a/\JR b/\∀(_y:Unit),True->ifB (X3 b) (QfF c b d e) (QfG b/\∀(_y:Unit),True->True/\ifB (QfH d b) (Ju c b d e) (ifB ((↑e:Int) != Z0) (Ju c b d e) (QfI c b d e))))))
def QfK(a:Int)(b:Nat)(c:List Int)(d e:Nat):Prop:=ifB (a==3) (SM b/\ifB (decide ((8:Int)<(LI c))) (QfA a c d e) (SM b/\QfB c/\∀(_y:Unit),True->True/\ifB (QfC c) (Ju a c d e) (SM b/\JR c/\∀(_y:Unit),True->ifB (X3 c) (QfE a c d e) (SM b/\JR c/\∀(_y:Unit),True->ifB (X3 c) (QfF a c d e) (QfG c/\∀(_y:Unit),True->True/\ifB (QfH e c) (Ju a c d e) (ifB ((↑d:Int) != Z0) (Ju a c d e) (QfI a c d e))))))) (True/\∃(_y:Unit),True/\(14:Int)=VM a c d e/\True/\True)
end
theorem Bnr(k : Int)(s : List Int)(nn ni : Nat)(g h : Nat -> List D)(hs : s.length<=maxLen)(hn : nn<=maxLen)(hi : ni<=maxLen) :
  ACalls Tryz.prog 153 [.agg [.int .i64 k,isl s .any,.sl 1 nn g .any,.sl 4 ni h .any]] ⟨[],[]⟩ (SpecR (sC [.agg [.int .i64 k,isl s .any,.sl 1 nn g .any,.sl 4 ni h .any]] (.int .i64 (Cq k s nn ni))) ()):=by
 refine Bf (A:=sC _ _) (x:=()) (E:=Eform) (eOk Tj rfl) Tryz.func153 rfl (by kernel_rfl) rfl (by simp[sC,Eform,EC,E0]) ?_
 refine Bk (T :=
  ∀(x:Nat),True->SM x/\SM x/\SM x/\ifB (k==Z1) (ifB (k==Z1) (QfJ x s k nn ni) (QfK k x s nn ni)) (ifB (k==2) (QfJ x s k nn ni) (QfK k x s nn ni))) (by kernel_rfl) ?_
 delta GI LI LN N0 SM Z0 Z1 ZI VM QfA QfF QfG QfH QfI QfJ QfK JR QfB QaP QfC Ju QfD X3 QfE
 simp only[Cl,OG,Bh,decide_eq_true_eq,decide_eq_false_iff_not,true_and,and_true,beq_iff_eq,bne_iff_ne,beq_eq_false_iff_ne,ne_eq,exists_const,forall_const]
 simp only[maxLen] at hs hn hi
 have n8:(8<(s.length:Int))↔8<s.length:=by omega
 simp only[n8]
 repeat' (first
  |exact CF s
  |refine And.intro ?_ ?_
  |intro _)
 all_goals first
  |omega
  |(simp_all[Cq,El,EE];done)
  |grind [Cq,El,EE]
  |skip
 all_goals trace_state
def Arr.k:Arr->Int | .mk k _ _ _=>k
def Arr.sh:Arr->List Int | .mk _ s _ _=>s
def Arr.nu:Arr->List Int | .mk _ _ n _=>n
def Arr.it:Arr->List Arr | .mk _ _ _ i=>i
def Arr.row1(a:Arr):List D:=[.int .i64 a.k,isl a.sh .any,isl a.nu .any,gsl 4 Arr.row a.it]
def Arr.row2(a:Arr):List D:=[.int .i64 a.k,isl a.sh .any,isl a.nu .any,gsl 4 Arr.row1 a.it]
theorem BfI(l:List Arr):(Tp l).length=l.length:=by rw[GD];simp
theorem BlM(a:Arr):wkL a.row a.row1:=by
 cases a with
 |mk k s n is =>
  simp only[Arr.row,Arr.row1,Arr.k,Arr.sh,Arr.nu,Arr.it,gsl,isl,wkL,wkD,Bg,Ba]
  refine⟨⟨by simp[kEq],trivial⟩,⟨by simp,trivial,fun i _=>by simp[kEq],by simp[BE]⟩,⟨by simp,trivial,fun i _=>by simp[kEq],by simp[BE]⟩,⟨by simp,BfI is,fun i hi=>?_,by simp[BE]⟩,trivial⟩
  rw[BfI] at hi
  have:(Tp is).getD i []=(is.getD i default).row:=by
   rw[GD];simp[List.getD_eq_getElem?_getD,hi]
  rw[this]
  exact Bi _
theorem UP(a:Arr):wkL a.row1 a.row2:=by
 simp only[Arr.row1,Arr.row2,gsl,isl,wkL,wkD,Bg,Ba]
 exact⟨⟨by simp[kEq],trivial⟩,⟨by simp,trivial,fun i _=>by simp[kEq],by simp[BE]⟩,⟨by simp,trivial,fun i _=>by simp[kEq],by simp[BE]⟩,⟨by simp,trivial,fun i _=>BlM _,by simp[BE]⟩,trivial⟩
def Bht(z:Int):Bool:=decide (-4611686018427387903<=z)&&decide (z<=4611686018427387903)
def Bdv(z:Int):Bool:=decide (0<=z)&&decide (z<=1114111)&&(decide (z<55296)||decide (57343<z))
def Gd(k z:Int):Bool:=(k==1&&!Bht z)||(k==2&&!Bdv z)
mutual
def BG:Arr->Int×Int×Int
 |.mk k s n is =>
  if Cq k s n.length is.length≠0 then (Cq k s n.length is.length,0,0)
  else if n.any (Gd k) then (17,0,0)
  else match G3 is 0 ((n.length:Int)+is.length) with
   |none=>(17,0,0)
   |some r=>if 16<r.1\/262144<r.2 then (21,0,0) else (0,r.1,r.2)
def G3:List Arr->Int->Int->Option (Int×Int)
 | [],d,w=>some (d,w)
 |x::r,d,w=>if (BG x).1≠0 then none else G3 r (if d<(BG x).2.1+1 then (BG x).2.1+1 else d) (if 262145<w+(BG x).2.2 then 262145 else w+(BG x).2.2)
end
theorem BcI:∀(l:List Arr) (d w d' w':Int),G3 l d w=some (d',w')->0<=d->0<=w->(∀x∈l,(BG x).1=0->0<=(BG x).2.1/\0<=(BG x).2.2)->0<=d'/\0<=w'
 | [],d,w,d',w',h,h1,h2,_=>by
  rw[G3] at h;injection h with h;injection h with e1 e2;omega
 |x::r,d,w,d',w',h,h1,h2,h3=>by
  rw[G3] at h
  split at h
  ·cases h
  ·rename_i hx
   have hx:(BG x).1=0:=by simpa using hx
   have:=h3 x (by simp) hx
   refine BcI r _ _ d' w' h ?_ ?_ fun y hy=>h3 y (by simp[hy])
   ·split<;>omega
   ·split<;>omega
theorem Il:∀(a:Arr),(0<=(BG a).2.1/\(BG a).2.1<=16)/\0<=(BG a).2.2/\(BG a).2.2<=262144
 |.mk k s n is=>by
  rw[BG]
  split
  ·simp
  ·split
   ·simp
   ·split
    ·simp
    ·rename_i r hr
     split
     ·simp
     ·rename_i hb
      have:=BcI is 0 _ r.1 r.2 hr (by omega) (by omega) fun x hx _=>by
       have:=Il x
       omega
      simp only
      omega
termination_by a=>SizeOf.sizeOf a
decreasing_by
 have:=List.sizeOf_lt_of_mem hx
 simp;omega
set_option maxRecDepth 100000
mutual
inductive Nd where
 |mk (kd at_ cl:Int) (tx:List UInt8) (pr op:Int) (va:Arr) (ki:List Nd) (bo:List Sm) (de sl ss:Int)
inductive Sm where
 |mk (kd at_:Int) (nm:List UInt8) (sl:Int) (te nd:Nd)
end
def Nd.kd:Nd->Int | .mk x _ _ _ _ _ _ _ _ _ _ _=>x
def Nd.at_:Nd->Int | .mk _ x _ _ _ _ _ _ _ _ _ _=>x
def Nd.cl:Nd->Int | .mk _ _ x _ _ _ _ _ _ _ _ _=>x
def Nd.tx:Nd->List UInt8 | .mk _ _ _ x _ _ _ _ _ _ _ _=>x
def Nd.pr:Nd->Int | .mk _ _ _ _ x _ _ _ _ _ _ _=>x
def Nd.op:Nd->Int | .mk _ _ _ _ _ x _ _ _ _ _ _=>x
def Nd.va:Nd->Arr | .mk _ _ _ _ _ _ x _ _ _ _ _=>x
def Nd.ki:Nd->List Nd | .mk _ _ _ _ _ _ _ x _ _ _ _=>x
def Nd.bo:Nd->List Sm | .mk _ _ _ _ _ _ _ _ x _ _ _=>x
def Nd.de:Nd->Int | .mk _ _ _ _ _ _ _ _ _ x _ _=>x
def Nd.sl:Nd->Int | .mk _ _ _ _ _ _ _ _ _ _ x _=>x
def Nd.ss:Nd->Int | .mk _ _ _ _ _ _ _ _ _ _ _ x=>x
def Sm.kd:Sm->Int | .mk x _ _ _ _ _=>x
def Sm.at_:Sm->Int | .mk _ x _ _ _ _=>x
def Sm.nm:Sm->List UInt8 | .mk _ _ x _ _ _=>x
def Sm.sl:Sm->Int | .mk _ _ _ x _ _=>x
def Sm.te:Sm->Nd | .mk _ _ _ _ x _=>x
def Sm.nd:Sm->Nd | .mk _ _ _ _ _ x=>x
def nd0:Nd:=.mk 0 0 0 [] 0 0 (.mk 0 [] [] []) [] [] 0 0 0
instance:Inhabited Nd:=⟨nd0⟩
instance:Inhabited Sm:=⟨.mk 0 0 [] 0 nd0 nd0⟩
def lsl(w:Nat)(l:List (List D)):D:=.sl w l.length (fun i=>l.getD i []) .any
mutual
def Nd.row:Nd->List D
 |.mk kd at_ cl tx pr op va ki bo de sl ss=>[.int .i64 kd,.int .i64 at_,.int .i64 cl,.str tx,.int .i64 pr,.int .i64 op,.int .i64 va.k,isl va.sh .any,isl va.nu .any,gsl 4 Arr.row va.it,lsl 15 (I7 ki),lsl 34 (Ei bo),.int .i64 de,.int .i64 sl,.int .i64 ss]
def Sm.row:Sm->List D
 |.mk kd at_ nm sl te nd=>.int .i64 kd::.int .i64 at_::.str nm::.int .i64 sl::(te.row++nd.row)
def I7:List Nd->List (List D)
 | []=>[]
 |x::r=>x.row::I7 r
def Ei:List Sm->List (List D)
 | []=>[]
 |x::r=>x.row::Ei r
end
mutual
def Nd.ok:Nd->Prop
 |.mk kd at_ cl _ pr op va ki bo de sl ss=>(Bs kd/\Bs at_/\Bs cl/\Bs pr/\Bs op/\Bs de/\Bs sl/\Bs ss)/\va.ok/\Rq ki/\Rw bo
def Sm.ok:Sm->Prop
 |.mk kd at_ _ sl te nd=>(Bs kd/\Bs at_/\Bs sl)/\te.ok/\nd.ok
def Rq:List Nd->Prop
 | []=>True
 |x::r=>x.ok/\Rq r
def Rw:List Sm->Prop
 | []=>True
 |x::r=>x.ok/\Rw r
end
mutual
/-- Nothing in it is longer than a machine's memory. -/
def Nd.sm:Nd->Prop
 |.mk _ _ _ tx _ _ va ki bo _ _ _=>(tx.length<=By/\ki.length<=By/\bo.length<=By)/\va.sm/\U2 ki/\WE bo
def Sm.sm:Sm->Prop
 |.mk _ _ nm _ te nd=>nm.length<=By/\te.sm/\nd.sm
def U2:List Nd->Prop
 | []=>True
 |x::r=>x.sm/\U2 r
def WE:List Sm->Prop
 | []=>True
 |x::r=>x.sm/\WE r
end
theorem I2:∀(l:List Nd),I7 l=l.map Nd.row
 | []=>by simp only[I7,List.map_nil]
 |a::l=>by simp only[I7,List.map_cons,I2 l]
theorem Ej:∀(l:List Sm),Ei l=l.map Sm.row
 | []=>by simp only[Ei,List.map_nil]
 |a::l=>by simp only[Ei,List.map_cons,Ej l]
theorem TV:∀(l:List Nd),Rq l↔∀a∈l,a.ok
 | []=>by simp[Rq]
 |a::l=>by simp only[Rq,List.forall_mem_cons,TV l]
theorem Ua:∀(l:List Sm),Rw l↔∀a∈l,a.ok
 | []=>by simp[Rw]
 |a::l=>by simp only[Rw,List.forall_mem_cons,Ua l]
theorem TO:∀(l:List Nd),U2 l↔∀a∈l,a.sm
 | []=>by simp[U2]
 |a::l=>by simp only[U2,List.forall_mem_cons,TO l]
theorem MT:∀(l:List Sm),WE l↔∀a∈l,a.sm
 | []=>by simp[WE]
 |a::l=>by simp only[WE,List.forall_mem_cons,MT l]
def Nd.rowE(n:Nd):List D:=[.int .i64 n.kd,.int .i64 n.at_,.int .i64 n.cl,.str n.tx,.int .i64 n.pr,.int .i64 n.op,.int .i64 n.va.k,isl n.va.sh .any,isl n.va.nu .any,gsl 4 Arr.row n.va.it,gsl 15 Nd.row n.ki,gsl 34 Sm.row n.bo,.int .i64 n.de,.int .i64 n.sl,.int .i64 n.ss]
def Nd.row1(n:Nd):List D:=n.rowE
def Sm.row1(s:Sm):List D:=.int .i64 s.kd::.int .i64 s.at_::.str s.nm::.int .i64 s.sl::(s.te.rowE++s.nd.rowE)
def Nd.row2(n:Nd):List D:=[.int .i64 n.kd,.int .i64 n.at_,.int .i64 n.cl,.str n.tx,.int .i64 n.pr,.int .i64 n.op,.int .i64 n.va.k,isl n.va.sh .any,isl n.va.nu .any,gsl 4 Arr.row n.va.it,gsl 15 Nd.row1 n.ki,gsl 34 Sm.row1 n.bo,.int .i64 n.de,.int .i64 n.sl,.int .i64 n.ss]
def Sm.row2(s:Sm):List D:=.int .i64 s.kd::.int .i64 s.at_::.str s.nm::.int .i64 s.sl::(s.te.row2++s.nd.row2)
theorem UJ:∀ {a a' b b':List D},wkL a a'->wkL b b'->wkL (a++b) (a'++b')
 | [],[],_,_,_,h=>h
 | [],_::_,_,_,h,_=>by simp[wkL] at h
 |_::_,[],_,_,h,_=>by simp[wkL] at h
 |x::a,y::a',b,b',h,h2=>by
  simp only[wkL,List.cons_append] at h ⊢
  exact⟨h.1,UJ h.2 h2⟩
theorem BeV{α:Type}[Inhabited α]{w:Nat}{g:α->List D}{l:List α}:wkD (lsl w (l.map g)) (gsl w g l):=by
 simp only[lsl,gsl,wkD,Ba]
 refine⟨by simp,by simp,fun i hi=>?_,by simp[BE]⟩
 have hi:i<l.length:=by simpa using hi
 have:(l.map g).getD i []=g (l.getD i default):=by simp[List.getD_eq_getElem?_getD,hi]
 rw[this]
 exact Bi _
theorem Bef{α:Type}[Inhabited α]{w:Nat}{g g':α->List D}{l:List α}(h:∀x,wkL (g x) (g' x)):wkD (gsl w g l) (gsl w g' l):=by
 simp only[gsl,wkD,Ba]
 exact⟨by simp,trivial,fun i _=>h _,by simp[BE]⟩
theorem Bl6(n:Nd):wkL n.row n.row1:=by
 cases n with
 |mk kd at_ cl tx pr op va ki bo de sl ss =>
  simp only[Nd.row,Nd.row1,Nd.rowE,Nd.kd,Nd.at_,Nd.cl,Nd.tx,Nd.pr,Nd.op,Nd.va,Nd.ki,Nd.bo,Nd.de,Nd.sl,Nd.ss,wkL,I2,Ej]
  exact⟨Bl _,Bl _,Bl _,Bl _,Bl _,Bl _,Bl _,Bl _,Bl _,Bl _,BeV,BeV,Bl _,Bl _,Bl _,trivial⟩
theorem Bn1(s:Sm):wkL s.row s.row1:=by
 cases s with
 |mk kd at_ nm sl te nd =>
  simp only[Sm.row,Sm.row1,Sm.kd,Sm.at_,Sm.nm,Sm.sl,Sm.te,Sm.nd,wkL]
  exact⟨Bl _,Bl _,Bl _,Bl _,UJ (Bl6 _) (Bl6 _)⟩
theorem TJ(n:Nd):wkL n.row1 n.row2:=by
 simp only[Nd.row1,Nd.rowE,Nd.row2,wkL]
 exact⟨Bl _,Bl _,Bl _,Bl _,Bl _,Bl _,Bl _,Bl _,Bl _,Bl _,Bef Bl6,Bef Bn1,Bl _,Bl _,Bl _,trivial⟩
theorem dn:(default:Nd)=Nd.mk 0 0 0 [] 0 0 (Arr.mk 0 [] [] []) [] [] 0 0 0:=of_eq_true (eq_true rfl)
theorem dm:(default:Sm)=Sm.mk 0 0 [] 0 (Nd.mk 0 0 0 [] 0 0 (Arr.mk 0 [] [] []) [] [] 0 0 0) (Nd.mk 0 0 0 [] 0 0 (Arr.mk 0 [] [] []) [] [] 0 0 0):=of_eq_true (eq_true rfl)
def RNd:List D->Prop:=fun ds=>∃n:Nd,(n.ok/\n.sm)/\ds=n.row
def RSm:List D->Prop:=fun ds=>∃s:Sm,(s.ok/\s.sm)/\ds=s.row
theorem BgX(W:World)(m:Nat)(hn:∀k,k<m->ReadAt Tryz.prog W k 49 RNd):ReadAt Tryz.prog W m 53 RSm:=by
 cases m with
 |zero=>exact .zero _ _
 |succ k =>
  refine (Ik Tryz.underlying53 (by kernel_rfl) (Rs:=[RInt .i64,RInt .i64,RStr,RInt .i64,RNd,RNd]) ⟨Iv (by kernel_rfl) W k,Iv (by kernel_rfl) W k,Ui (by kernel_rfl) W k,Iv (by kernel_rfl) W k,hn k (Nat.lt_succ_self k),hn k (Nat.lt_succ_self k),trivial⟩).mono ?_
  rintro ds ⟨_,_,h1,⟨_,_,h2,⟨_,_,h3,⟨_,_,h4,⟨_,_,h5,⟨_,_,h6,h7,rfl⟩,rfl⟩,rfl⟩,rfl⟩,rfl⟩,rfl⟩
  obtain rfl:_=[]:=h7
  obtain ⟨kd,kd1,rfl⟩:=CU _ h1
  obtain ⟨at_,at1,rfl⟩:=CU _ h2
  obtain ⟨nm,rfl,nm1⟩:=h3
  obtain ⟨sl,sl1,rfl⟩:=CU _ h4
  obtain ⟨te,⟨te1,te2⟩,rfl⟩:=h5
  obtain ⟨nd,⟨nd1,nd2⟩,rfl⟩:=h6
  refine⟨.mk kd at_ nm sl te nd,⟨?_,?_⟩,?_⟩
  ·simp only[Sm.ok]
   exact⟨⟨kd1,at1,sl1⟩,te1,nd1⟩
  ·simp only[Sm.sm]
   exact⟨nm1,te2,nd2⟩
  ·simp only[Sm.row,List.cons_append,List.nil_append,List.append_nil]
theorem Bng(W:World):∀n,ReadAt Tryz.prog W n 49 RNd:=by
 intro n
 induction n using Nat.strongRecOn with
 |_ n ih =>
  cases n with
  |zero=>exact .zero _ _
  |succ m =>
   have hk:ReadAt Tryz.prog W m 47 (RSliceA 15 RNd):=by
    cases m with
    |zero=>exact .zero _ _
    |succ k=>exact E9 (w:=15) Tryz.underlying47 (by kernel_rfl) (by decide) (by decide +kernel) (ih k (by omega))
   have hb:ReadAt Tryz.prog W m 22 (RSliceA 34 RSm):=by
    cases m with
    |zero=>exact .zero _ _
    |succ k=>exact E9 (w:=34) Tryz.underlying22 (by kernel_rfl) (by decide) (by decide +kernel) (BgX W k fun j hj=>ih j (by omega))
   have ri:∀t,Tryz.prog.underlying t=some (.int .i64)->ReadAt Tryz.prog W m t (RInt .i64):=fun t ht=>Iv ht W m
   refine (Ik Tryz.underlying49 (by kernel_rfl) (Rs:=[RInt .i64,RInt .i64,RInt .i64,RStr,RInt .i64,RInt .i64,RArr,RSliceA 15 RNd,RSliceA 34 RSm,RInt .i64,RInt .i64,RInt .i64])
    ⟨ri _ (by kernel_rfl),ri _ (by kernel_rfl),ri _ (by kernel_rfl),Ui (by kernel_rfl) W m,ri _ (by kernel_rfl),ri _ (by kernel_rfl),Bcy W m,hk,hb,ri _ (by kernel_rfl),ri _ (by kernel_rfl),ri _ (by kernel_rfl),trivial⟩).weak ?_
   rintro _ ds vs ⟨_,_,h1,⟨_,_,h2,⟨_,_,h3,⟨_,_,h4,⟨_,_,h5,⟨_,_,h6,⟨_,_,h7,⟨_,_,h8,⟨_,_,h9,⟨_,_,h10,⟨_,_,h11,⟨_,_,h12,h13,rfl⟩,rfl⟩,rfl⟩,rfl⟩,rfl⟩,rfl⟩,rfl⟩,rfl⟩,rfl⟩,rfl⟩,rfl⟩,rfl⟩ hr
   obtain rfl:_=[]:=h13
   obtain ⟨kd,kd1,rfl⟩:=CU _ h1
   obtain ⟨at_,at1,rfl⟩:=CU _ h2
   obtain ⟨cl,cl1,rfl⟩:=CU _ h3
   obtain ⟨tx,rfl,tx1⟩:=h4
   obtain ⟨pr,pr1,rfl⟩:=CU _ h5
   obtain ⟨op,op1,rfl⟩:=CU _ h6
   obtain ⟨va,⟨va1,va2⟩,rfl⟩:=h7
   obtain ⟨l,l1,l2,rfl⟩:=h8
   obtain ⟨b,b1,b2,rfl⟩:=h9
   obtain ⟨de,de1,rfl⟩:=CU _ h10
   obtain ⟨sl,sl1,rfl⟩:=CU _ h11
   obtain ⟨ss,ss1,rfl⟩:=CU _ h12
   obtain ⟨ki,qk,rfl⟩:=rows_of (g:=Nd.row) (Q:=fun a=>a.ok/\a.sm) (fun x hx=>hx) l l1
   obtain ⟨bo,qb,rfl⟩:=rows_of (g:=Sm.row) (Q:=fun a=>a.ok/\a.sm) (fun x hx=>hx) b b1
   have l2:ki.length<=By:=by simpa using l2
   have b2:bo.length<=By:=by simpa using b2
   refine⟨(Nd.mk kd at_ cl tx pr op va ki bo de sl ss).row,⟨_,⟨?_,?_⟩,rfl⟩,MC _ _ ?_ _ _ hr⟩
   ·simp only[Nd.ok]
    exact⟨⟨kd1,at1,cl1,pr1,op1,de1,sl1,ss1⟩,va1,(TV _).2 fun a ha=>(qk a ha).1,(Ua _).2 fun a ha=>(qb a ha).1⟩
   ·simp only[Nd.sm]
    exact⟨⟨tx1,l2,b2⟩,va2,(TO _).2 fun a ha=>(qk a ha).2,(MT _).2 fun a ha=>(qb a ha).2⟩
   ·simp only[Nd.row,I2,Ej,List.cons_append,List.nil_append,List.append_nil,wkL]
    refine⟨Bl _,Bl _,Bl _,Bl _,Bl _,Bl _,?_⟩
    have h:=UJ (BlM va) (Bi (lsl 15 (ki.map Nd.row)::lsl 34 (bo.map Sm.row)::[D.int .i64 de,D.int .i64 sl,D.int .i64 ss]))
    simp only[Arr.row1,List.cons_append,List.nil_append] at h
    exact h
def dig(b:UInt8):Bool:=decide (48<=b.toNat)&&decide (b.toNat<=57)
def low(b:UInt8):Bool:=decide (97<=b.toNat)&&decide (b.toNat<=122)
def upp(b:UInt8):Bool:=decide (65<=b.toNat)&&decide (b.toNat<=90)
def alp(b:UInt8):Bool:=low b||upp b
def aln(b:UInt8):Bool:=alp b||dig b
def asc(s:String):List UInt8:=s.toUTF8.data.toList
def resL : List (List UInt8) := ["X", "Y", "F", "G", "self", "arg", "min", "max", "and", "or", "not", "shape", "reshape", "tally", "depth", "stack", "iota", "take", "drop", "first", "reverse", "rotate", "transpose", "from", "pick", "select", "amend", "up", "down", "sort", "find", "in", "unique", "where", "copy", "expand", "cut", "encode", "decode", "box", "open", "same", "kind", "ord", "chr", "format", "left", "right", "each", "swap", "outer", "inner", "rank", "power", "stencil", "atop", "over"].map asc
def sgnL : List (List UInt8) := ["+", "-", "*", "%", "|", "^", "<", "<=", "=", "~=", ">=", ">", ",", "/", "\\"].map asc
def symL : List (List UInt8) := sgnL ++ ["(", ")", "{", "}", ":", "<-"].map asc
def Mu(s:List UInt8):Bool:=resL.contains s||sgnL.contains s
structure Tok where
 kind:Int
 at_:Int
 len:Int
 num:Int
 text:List UInt8
deriving Inhabited,DecidableEq
def Tok.row(t:Tok):List D:=[.int .i64 t.kind,.int .i64 t.at_,.int .i64 t.len,.int .i64 t.num,.str t.text]
abbrev Lex:=Except (Int×Nat) (Int×Nat×Int×List UInt8)
def GX:Nat:=4611686018427387903
def IK:List UInt8->Nat->Option Nat
 | [],n=>some n
 |b::r,n=>if n<=(GX-(b.toNat-48)) / 10 then IK r (10*n+(b.toNat-48)) else none
def Gj(r:List UInt8):Lex :=
 let u:=if r.getD 0 0=95 then 1 else 0
 let ds:=(r.drop u).takeWhile dig
 let nx:=(r.drop (u+ds.length)).getD 0 0
 if ds=[]\/(alp nx||nx==95)=true then .error (4,0)
 else match IK ds 0 with
  |none=>.error (4,0)
  |some n=>.ok (1,u+ds.length,if u=1 then -(n:Int) else n,[])
def E4(r:List UInt8):Lex :=
 let w:=r.takeWhile aln
 if Mu w=true then .ok (5,w.length,0,w)
 else if w.any upp=true then .error (6,0)
 else if 32<w.length then .error (9,0)
 else .ok (4,w.length,0,w)
def Ma(r:List UInt8):Lex :=
 if symL.contains (r.take 2)=true/\2<=r.length then .ok (5,2,0,r.take 2)
 else if symL.contains (r.take 1)=true then .ok (5,1,0,r.take 1)
 else .error (6,0)
def TM(b:UInt8):Option Nat:=if dig b then some (b.toNat-48) else if decide (97<=b.toNat)&&decide (b.toNat<=102) then some (b.toNat-87) else none
def B0(b:UInt8):Bool:=(TM b).isSome
def hxV:List UInt8->Nat->Nat
 | [],n=>n
 |b::r,n=>hxV r (16*n+(TM b).getD 0)
def Es(r:List UInt8):Option (Nat×Nat) :=
 if r.getD 0 0=123 then
  let ds:=(r.drop 1).takeWhile B0
  if 1<=ds.length/\ds.length<=6/\(r.drop (1+ds.length)).getD 0 0=125/\Utf8.valid (hxV ds 0)=true then some (hxV ds 0,ds.length+2) else none
 else none
def Bb7(r:List UInt8):Option (Nat×Nat) :=
 let c:=r.getD 1 0
 if c=110 then some (10,2) else if c=116 then some (9,2) else if c=114 then some (13,2)
 else if c=92\/c=39\/c=34 then some (c.toNat,2)
 else if c=117 then (Es (r.drop 2)).map fun x=>(x.1,x.2+2)
 else none
def Cn(r:List UInt8):Nat×Nat:=Lib.decodeN r.length (r.getD 0 0).toNat (r.getD 1 0).toNat (r.getD 2 0).toNat (r.getD 3 0).toNat
def Gh(r:List UInt8):Option (Nat×Nat) :=
 if r.getD 0 0=92 then Bb7 r
 else if (r.getD 0 0).toNat<32 then none
 else if Cn r=(65533,1) then none else some (Cn r)
def UB(r:List UInt8):Bool:=r.isEmpty||r.getD 0 0==10
def G9:Nat->List UInt8->Nat->List UInt8->Lex
 |0,_,_,_=>.error (5,0)
 |n+1,r,p,acc =>
  if UB r=true then .error (5,0)
  else if r.getD 0 0=34 then .ok (3,p+1,0,acc)
  else match Gh r with
   |none=>.error (3,p)
   |some (c,w)=>G9 n (r.drop w) (p+w) (acc++(Utf8.encode c).data.toList)
def TT(r:List UInt8):Lex:=G9 r.length (r.drop 1) 1 []
def GV(r:List UInt8):Lex :=
 let q:=r.drop 1
 if UB q=true then .error (5,0)
 else if q.getD 0 0=39 then .error (3,0)
 else match Gh q with
  |none=>.error (3,1)
  |some (c,w)=>if UB (q.drop w)=true then .error (5,0) else if (q.drop w).getD 0 0=39 then .ok (2,w+2,c,[]) else .error (3,0)
def B4(r:List UInt8):Lex :=
 let c:=r.getD 0 0
 if c=10\/c=59 then .ok (6,1,0,[])
 else if (dig c||c==95)=true then Gj r
 else if alp c=true then E4 r
 else if c=34 then TT r
 else if c=39 then GV r
 else Ma r
def BaP(b:UInt8):Bool:=b==32||b==9||b==13
def BK:Bool->List UInt8->Nat
 |_,[]=>0
 |true,b::r=>if b=10 then 0 else BK true r+1
 |false,b::r=>if BaP b=true then BK false r+1 else if b=35 then BK true r+1 else 0
def GY:Nat->List UInt8->Nat->List Tok->Except (Int×Nat) (List Tok)
 |0,_,_,l=>.ok l
 |n+1,r,p,l =>
  let k:=BK false r
  let q:=r.drop k
  if q=[] then .ok l
  else match B4 q with
   |.error (e,o)=>.error (e,p+k+o)
   |.ok (kd,len,num,text) =>
    if l.length=16384 then .error (21,p+k)
    else GY n (q.drop len) (p+k+len) (l++[⟨kd,p+k,len,num,text⟩])
def BN(s:List UInt8):Except (Int×Nat) (List Tok):=if 65536<s.length then .error (2,0) else GY (s.length+1) s 0 []
def CH:List UInt8->List UInt8->Bool
 | [],_=>false
 |b::r,s=>(b==32&&decide (s.length<r.length)&&r.take s.length==s&&r.getD s.length 0==32)||CH r s
def Ee(t s:List UInt8):Bool:=!s.isEmpty&&s.all (fun b=>b != 32)&&CH t s
def O3(ws:List (List UInt8)):List UInt8:=ws.flatMap (fun w=>32::w)++[32]
theorem Wh(w:List UInt8)(ws:List (List UInt8)):O3 (w::ws)=32::(w++O3 ws):=by simp[O3]
theorem Beu(ws:List (List UInt8)):∃r,O3 ws=32::r:=by
 cases ws with
 |nil=>exact⟨[],rfl⟩
 |cons w ws=>exact⟨_,Wh w ws⟩
theorem Up(s r:List UInt8):∀(w:List UInt8),(∀b∈w,b≠32)->CH (w++r) s=CH r s
 | [],_=>rfl
 |b::w,h=>by
  have hb:(b==32)=false:=by simpa using h b (by simp)
  simp only[List.cons_append,CH,hb,Bool.false_and,Bool.false_or]
  exact Up s r w fun c hc=>h c (by simp[hc])
theorem BeF{s w r : List UInt8}(hs : ∀b∈s, b≠32)(hw : ∀b∈w, b≠32) :
  (decide (s.length<(w++32::r).length)&&(w++32::r).take s.length==s&&(w++32::r).getD s.length 0==32)=(s==w):=by
 by_cases h:s=w
 ·subst h
  simp
 ·have h2:(s==w)=false:=by simpa using h
  rw[h2]
  by_cases h3:(w++32::r).take s.length=s
  ·by_cases h4:(w++32::r).getD s.length 0=32
   ·exfalso
    rcases Nat.lt_trichotomy s.length w.length with hl | hl | hl
    ·rw[List.getD_eq_getElem?_getD,List.getElem?_append_left hl,List.getElem?_eq_getElem hl] at h4
     exact hw _ (List.getElem_mem hl) h4
    ·rw[hl,List.take_left] at h3
     exact h h3.symm
    ·have:(32:UInt8)∈s:=by
      rw[<- h3]
      have:s.length=w.length+(s.length-w.length-1+1):=by omega
      rw[this,List.take_append]
      simp
     exact hs _ this rfl
   ·have h4:((w++32::r).getD s.length 0==32)=false:=by simpa using h4
    rw[h4,Bool.and_false]
  ·have h3:((w++32::r).take s.length==s)=false:=by simpa using h3
   rw[h3,Bool.and_false,Bool.false_and]
theorem Te{s:List UInt8}(hs:∀b∈s,b≠32):∀(ws:List (List UInt8)),(∀w∈ws,∀b∈w,b≠32)->CH (O3 ws) s=ws.contains s
 | [],_=>by simp[O3,CH]
 |w::ws,h=>by
  obtain ⟨r,hr⟩:=Beu ws
  have ih:=Te hs ws fun v hv=>h v (by simp[hv])
  rw[Wh]
  simp only[CH,beq_self_eq_true,Bool.true_and,List.contains_cons]
  rw[Up s _ w (h w (by simp)),ih]
  congr 1
  rw[hr]
  exact BeF hs (h w (by simp))
theorem OQ{s:List UInt8}(ws:List (List UInt8))(h:(ws.all fun w=>!w.isEmpty&&w.all fun b=>b != 32)=true):Ee (O3 ws) s=ws.contains s:=by
 have h1:∀w∈ws,w≠[]/\∀b∈w,b≠32:=fun w hw=>by
  have:=List.all_eq_true.1 h w hw
  simp only[Bool.and_eq_true,Bool.not_eq_true',List.isEmpty_eq_false_iff,List.all_eq_true,bne_iff_ne] at this
  exact this
 unfold Ee
 cases he:s.isEmpty with
 |true =>
  have:s=[]:=List.isEmpty_iff.1 he
  subst this
  cases hc:ws.contains [] with
  |false=>rfl
  |true=>exact ((h1 [] (by simpa using hc)).1 rfl).elim
 |false =>
  cases ha:s.all fun b=>b != 32 with
  |false =>
   cases hc:ws.contains s with
   |false=>rfl
   |true =>
    have:=(h1 s (by simpa using hc)).2
    rw[List.all_eq_false] at ha
    obtain ⟨b,hb,hb2⟩:=ha
    exact (this b hb (by simpa using hb2)).elim
  |true =>
   simp only[Bool.not_false,Bool.true_and]
   exact Te (fun b hb=>by simpa using List.all_eq_true.1 ha b hb) ws fun w hw=>(h1 w hw).2
def BdM : List UInt8 := asc " X Y F G self arg min max and or not shape reshape tally depth stack iota take drop first reverse rotate transpose from pick select amend up down sort find in unique where copy expand cut encode decode box open same kind ord chr format left right each swap outer inner rank power stencil atop over "
def Bcz : List UInt8 := asc " + - * % | ^ < <= = ~= >= > , / \\ "
theorem BcJ:BdM=O3 resL:=by decide +kernel
theorem BdR:Bcz=O3 sgnL:=by decide +kernel
theorem BcE(s:List UInt8):Ee BdM s=resL.contains s:=by rw[BcJ];exact OQ _ (by decide +kernel)
theorem BdD(s:List UInt8):Ee Bcz s=sgnL.contains s:=by rw[BdR];exact OQ _ (by decide +kernel)
def sep(b:UInt8):Prop:=b=10\/b=32
theorem Be6{p:UInt8->Bool}{b:UInt8}{m:List UInt8}(hb:p b=false):∀r:List UInt8,(r++b::m).takeWhile p=r.takeWhile p
 | []=>by simp[hb]
 |c::r=>by
  simp only[List.cons_append,List.takeWhile_cons]
  cases p c with
  |false=>rfl
  |true=>simp only[if_true];rw[Be6 hb r]
theorem Bkw{x:List UInt8}{r:List UInt8}{k:Nat}(h:k<=r.length):(r++x).drop k=r.drop k++x:=by
 rw[List.drop_append]
 have:k-r.length=0:=by omega
 rw[this];rfl
theorem Bf7{x r:List UInt8}{k:Nat}(h:k<r.length):(r++x).getD k 0=r.getD k 0:=by
 simp[List.getD_eq_getElem?_getD,List.getElem?_append_left h]
theorem Bao{r:List UInt8}{k:Nat}(h:r.length<=k):r.getD k 0=0:=by
 simp[List.getD_eq_getElem?_getD,List.getElem?_eq_none h]
theorem BpU{r m:List UInt8}{b:UInt8}:(r++b::m).getD r.length 0=b:=by
 simp[List.getD_eq_getElem?_getD]
theorem BoS{α:Type}{f:UInt8->α}{b:UInt8}{m r:List UInt8}{k:Nat}(hf:f b=f 0)(h:k<=r.length):f ((r++b::m).getD k 0)=f (r.getD k 0):=by
 by_cases hk:k<r.length
 ·rw[Bf7 hk]
 ·obtain rfl:k=r.length:=by omega
  rw[BpU,Bao (Nat.le_refl _),hf]
theorem BdA{r m:List UInt8}{b:UInt8}(h:r≠[]):(r++b::m).getD 0 0=r.getD 0 0:=Bf7 (List.length_pos_iff.2 h)
theorem TK(p:UInt8->Bool)(r:List UInt8):(r.takeWhile p).length<=r.length:=(List.takeWhile_sublist p).length_le
theorem Bbs{r:List UInt8}(h:r≠[]):1<=(Cn r).2/\(Cn r).2<=r.length:=by
 have h1:1<=r.length:=List.length_pos_iff.2 h
 unfold Cn Lib.decodeN
 repeat' split
 all_goals simp only<;>omega
theorem BkB{r:List UInt8}{c w:Nat}(h:Es r=some (c,w)):1<=w/\w<=r.length:=by
 unfold Es at h
 split at h
 ·simp only at h
  split at h
  ·rename_i hc
   obtain ⟨h1,h2,h3,_⟩:=hc
   injection h with h;injection h with ha hb
   have:1+((r.drop 1).takeWhile B0).length<r.length:=by
    refine Nat.lt_of_not_le fun hle=>?_
    rw[List.drop_eq_nil_of_le hle] at h3
    exact absurd h3 (by decide)
   omega
  ·cases h
 ·cases h
theorem BnM{r:List UInt8}{c w:Nat}(h:Bb7 r=some (c,w)):1<=w/\w<=r.length:=by
 have h2:2<=r.length:=by
  refine Nat.le_of_not_lt fun hlt=>?_
  have:r.getD 1 0=0:=Bao (by omega)
  have h0:Bb7 r=none:=by
   unfold Bb7
   simp only[this]
   rfl
  rw[h0] at h
  cases h
 unfold Bb7 at h
 simp only at h
 repeat' split at h
 all_goals first
  |(injection h with h;injection h with ha hb;omega)
  |cases h
  |skip
 cases hc:Es (r.drop 2) with
 |none=>rw[hc] at h;cases h
 |some x =>
  rw[hc] at h
  injection h with h;injection h with ha hb
  have:=BkB (c:=x.1) (w:=x.2) hc
  rw[List.length_drop] at this
  omega
theorem OR{r:List UInt8}{c w:Nat}(hr:r≠[])(h:Gh r=some (c,w)):1<=w/\w<=r.length:=by
 unfold Gh at h
 split at h
 ·exact BnM h
 ·split at h
  ·cases h
  ·split at h
   ·cases h
   ·injection h with h
    have:=Bbs hr
    rw[h] at this
    exact this
def LenB(r:List UInt8):Lex->Prop
 |.ok (_,len,_,_)=>1<=len/\len<=r.length
 |.error (_,o)=>o<=r.length
theorem Bm1{r:List UInt8}(h:r≠[]):LenB r (Gj r):=by
 have h1:1<=r.length:=List.length_pos_iff.2 h
 unfold Gj
 generalize hu:(if r.getD 0 0=95 then 1 else 0)=u
 have hu1:u<=r.length:=by split at hu<;>omega
 simp only
 have hl:=TK dig (r.drop u)
 rw[List.length_drop] at hl
 split
 ·exact Nat.zero_le _
 ·rename_i hc
  have hd:((r.drop u).takeWhile dig)≠[]:=fun e=>hc (.inl e)
  have hd1:=List.length_pos_iff.2 hd
  split
  ·exact Nat.zero_le _
  ·exact⟨by omega,by omega⟩
theorem BiT{r:List UInt8}(h:r≠[])(ha:aln (r.getD 0 0)=true):LenB r (E4 r):=by
 have hl:=TK aln r
 have h1:1<=(r.takeWhile aln).length:=by
  match r,h with
  |c::r,_ =>
   have ha:aln c=true:=ha
   simp[ha]
 unfold E4
 simp only
 repeat' split
 all_goals first | exact⟨h1,hl⟩ | exact Nat.zero_le _
theorem BnP{r:List UInt8}(h:r≠[]):LenB r (Ma r):=by
 have h1:1<=r.length:=List.length_pos_iff.2 h
 unfold Ma
 split
 ·rename_i hc
  exact⟨by omega,hc.2⟩
 ·split
  ·exact⟨Nat.le_refl _,h1⟩
  ·exact Nat.zero_le _
def LenS(q:List UInt8)(p:Nat):Lex->Prop
 |.ok (_,len,_,_)=>p+1<=len/\len<=p+q.length
 |.error (_,o)=>o<=p+q.length
theorem BfQ:∀(n:Nat) (q:List UInt8) (p:Nat) (acc:List UInt8),LenS q p (G9 n q p acc)
 |0,_,_,_=>Nat.zero_le _
 |n+1,q,p,acc=>by
  simp only[G9]
  cases hend:UB q with
  |true=>exact Nat.zero_le _
  |false =>
   have hq:q≠[]:=fun e=>by subst e;cases hend
   have hql:0<q.length:=List.length_pos_iff.2 hq
   simp only[Bool.false_eq_true,if_false]
   by_cases h34:q.getD 0 0=34
   ·rw[if_pos h34];exact⟨Nat.le_refl _,by omega⟩
   ·rw[if_neg h34]
    cases hlt:Gh q with
    |none=>exact Nat.le_add_right _ _
    |some x =>
     obtain ⟨c,w⟩:=x
     obtain ⟨l1,l2⟩:=OR hq hlt
     have ih:=BfQ n (q.drop w) (p+w) (acc++(Utf8.encode c).data.toList)
     simp only
     revert ih
     generalize G9 n (q.drop w) (p+w) (acc++(Utf8.encode c).data.toList)=z
     intro ih
     unfold LenS at ih ⊢
     split<;>(simp only[List.length_drop] at ih;omega)
theorem BiJ{r:List UInt8}(h:r≠[]):LenB r (GV r):=by
 have h1:1<=r.length:=List.length_pos_iff.2 h
 unfold GV
 have hq:(r.drop 1).length=r.length-1:=by rw[List.length_drop]
 generalize r.drop 1=q at hq ⊢
 simp only
 cases hend:UB q with
 |true=>exact Nat.zero_le _
 |false =>
  have hqn:q≠[]:=fun e=>by subst e;cases hend
  simp only[Bool.false_eq_true,if_false]
  split
  ·exact Nat.zero_le _
  ·split
   ·exact h1
   ·rename_i c w hlt
    obtain ⟨l1,l2⟩:=OR hqn hlt
    split
    ·exact Nat.zero_le _
    ·rename_i hnd
     split
     ·have:w<q.length:=Nat.lt_of_not_le fun hle=>hnd (by rw[List.drop_eq_nil_of_le hle];rfl)
      exact⟨by omega,by omega⟩
     ·exact Nat.zero_le _
theorem Bm8{r:List UInt8}(h:r≠[]):LenB r (B4 r):=by
 have h1:1<=r.length:=List.length_pos_iff.2 h
 unfold B4
 simp only
 split
 ·exact⟨Nat.le_refl _,h1⟩
 split
 ·exact Bm1 h
 split
 ·rename_i ha
  exact BiT h (by unfold aln;rw[ha];rfl)
 split
 ·have:=BfQ r.length (r.drop 1) 1 []
  unfold TT
  revert this
  generalize G9 r.length (r.drop 1) 1 []=z
  intro ih
  unfold LenS at ih
  unfold LenB
  split<;>(simp only[List.length_drop] at ih;omega)
 split
 ·exact BiJ h
 ·exact BnP h
def Ep:Nat->List UInt8->Nat->Except (Int×Nat) (List Tok)
 |0,_,_=>.ok []
 |n+1,r,p =>
  let k:=BK false r
  let q:=r.drop k
  if q=[] then .ok []
  else match B4 q with
   |.error (e,o)=>.error (e,p+k+o)
   |.ok (kd,len,num,text) =>
    match Ep n (q.drop len) (p+k+len) with
    |.error e=>.error e
    |.ok l=>.ok (⟨kd,((p+k:Nat):Int),len,num,text⟩::l)
theorem UH:∀(b:Bool) (r:List UInt8),BK b r<=r.length
 |true,[]=>Nat.le_refl _
 |false,[]=>Nat.le_refl _
 |true,c::r=>by
  simp only[BK,List.length_cons]
  have:=UH true r
  split<;>omega
 |false,c::r=>by
  simp only[BK,List.length_cons]
  have:=UH true r
  have:=UH false r
  repeat' split
  all_goals omega
def Bo4(l:List Tok):Except (Int×Nat) (List Tok)->Except (Int×Nat) (List Tok)
 |.error e=>.error e
 |.ok m=>.ok (l++m)
def Ob(w:List UInt8):Bool:=!w.isEmpty&&low (w.getD 0 0)&&w.all fun b=>low b||dig b
def Cz(w:List UInt8):Bool:=Ob w&&decide (w.length<=32)&&!Mu w
theorem Bgv(p:UInt8->Bool):∀r:List UInt8,r.take (r.takeWhile p).length=r.takeWhile p
 | []=>rfl
 |c::r=>by
  simp only[List.takeWhile_cons]
  cases p c with
  |false=>rfl
  |true=>simp[Bgv p r]
theorem Wn(p:UInt8->Bool):∀(r:List UInt8) (b:UInt8),b∈r.takeWhile p->p b=true
 | [],_,h=>by simp at h
 |c::r,b,h=>by
  simp only[List.takeWhile_cons] at h
  cases hc:p c with
  |false=>rw[hc] at h;simp at h
  |true =>
   rw[hc] at h
   simp only[if_true,List.mem_cons] at h
   rcases h with rfl | h
   ·exact hc
   ·exact Wn p r b h
def Bn(s:Sm):List Nd:=if s.kd=3 then [s.te,s.nd] else [s.nd]
def BH(n:Nd):List Nd:=n.ki++n.bo.flatMap Bn
mutual
def dpN:Nd->Nat
 |.mk _ _ _ _ _ _ _ ki bo _ _ _=>1+max (dpL ki) (dpB bo)
def dpL:List Nd->Nat
 | []=>0
 |x::r=>max (dpN x) (dpL r)
def dpB:List Sm->Nat
 | []=>0
 |x::r=>max (dpM x) (dpB r)
def dpM:Sm->Nat
 |.mk kd _ _ _ te nd=>if kd=3 then max (dpN te) (dpN nd) else dpN nd
end
mutual
def szN:Nd->Nat
 |.mk _ _ _ _ _ _ _ ki bo _ _ _=>1+szL ki+szB bo
def szL:List Nd->Nat
 | []=>0
 |x::r=>szN x+szL r
def szB:List Sm->Nat
 | []=>0
 |x::r=>szM x+szB r
def szM:Sm->Nat
 |.mk kd _ _ _ te nd=>if kd=3 then szN te+szN nd else szN nd
end
theorem BbG:∀a b:List Nd,dpL (a++b)=max (dpL a) (dpL b)
 | [],b=>by simp only[List.nil_append,dpL];omega
 |x::a,b=>by simp only[List.cons_append,dpL,BbG a b];omega
theorem Tk:∀a b:List Nd,szL (a++b)=szL a+szL b
 | [],b=>by simp only[List.nil_append,szL];omega
 |x::a,b=>by simp only[List.cons_append,szL,Tk a b];omega
theorem Bhe(s:Sm):dpM s=dpL (Bn s):=by
 cases s with
 |mk kd at_ nm sl te nd =>
  have e:Bn (.mk kd at_ nm sl te nd)=if kd=3 then [te,nd] else [nd]:=rfl
  rw[e,dpM]
  split<;>(simp only[dpL];omega)
theorem BhI(s:Sm):szM s=szL (Bn s):=by
 cases s with
 |mk kd at_ nm sl te nd =>
  have e:Bn (.mk kd at_ nm sl te nd)=if kd=3 then [te,nd] else [nd]:=rfl
  rw[e,szM]
  split<;>(simp only[szL];omega)
theorem T4:∀l:List Sm,dpB l=dpL (l.flatMap Bn)
 | []=>by simp only[dpB,List.flatMap_nil,dpL]
 |s::l=>by rw[dpB,List.flatMap_cons,BbG,Bhe,T4 l]
theorem Tx:∀l:List Sm,szB l=szL (l.flatMap Bn)
 | []=>by simp only[szB,List.flatMap_nil,szL]
 |s::l=>by rw[szB,List.flatMap_cons,Tk,BhI,Tx l]
theorem Bae(n:Nd):dpN n=1+dpL (BH n):=by
 cases n
 simp only[dpN,BH,Nd.ki,Nd.bo,BbG,T4]
theorem Tz(n:Nd):szN n=1+szL (BH n):=by
 cases n
 simp only[szN,BH,Nd.ki,Nd.bo,Tk,Tx]
 omega
theorem BgW(n:Nd):1<=dpN n:=by rw[Bae];omega
theorem Bbh(n:Nd):1<=szN n:=by rw[Tz];omega
theorem Bgz:∀ {l:List Nd} {x:Nd},x∈l->dpN x<=dpL l
 |y::l,x,h=>by
  simp only[dpL]
  rcases List.mem_cons.1 h with rfl | h
  ·omega
  ·have:=Bgz h;omega
theorem BgS:∀ {l:List Nd} {x:Nd},x∈l->szN x<=szL l
 |y::l,x,h=>by
  simp only[szL]
  rcases List.mem_cons.1 h with rfl | h
  ·omega
  ·have:=BgS h;omega
def primL : List (List UInt8) := ["", "+", "-", "*", "%", "|", "^", "min", "max", "<", "<=", "=", "~=", ">=", ">", "and", "or", "not", "shape", "reshape", "tally", "depth", ",", "stack", "iota", "take", "drop", "first", "reverse", "rotate", "transpose", "from", "pick", "select", "amend", "up", "down", "sort", "find", "in", "unique", "where", "copy", "expand", "cut", "encode", "decode", "box", "open", "same", "kind", "ord", "chr", "format", "left", "right"].map asc
def opL : List (List UInt8) := ["", "/", "\\", "each", "swap", "outer", "inner", "rank", "power", "stencil", "atop", "over"].map asc
def Ci(p:Int):List UInt8:=if p<1\/56<=p then [] else primL.getD p.toNat []
def opT(p:Int):List UInt8:=if p<1\/12<=p then [] else opL.getD p.toNat []
def Bn7(a:Arr):Bool:=a.k==0&&a.sh.isEmpty&&a.nu.isEmpty&&a.it.isEmpty
def Ug(n:Nd)(k:Int):Bool :=
 n.kd==k&&decide (0<=n.at_)&&decide (0<=n.de)&&decide (0<=n.sl)&&decide (0<=n.ss)&&(n.tx.isEmpty||k==2)&&(n.pr==0||k==9)&&(n.op==0||k==17)&&(Bn7 n.va||k==1)&&(n.bo.isEmpty||k==10)
def Iu(n:Nd):Bool:=n.kd==0&&n.at_==0&&n.cl==0&&n.de==0&&n.sl==0&&n.ss==0&&Ug n 0&&n.ki.isEmpty
def BA(n:Nd)(l:List Int):Bool:=n.ki.map Nd.cl==l
def C9(n:Nd):Bool :=
 n.ki.isEmpty&&(
  if n.kd=1 then n.cl==1&&(BG n.va).1==0&&((n.va.sh.isEmpty&&n.va.k != 3)||(n.va.sh.length==1&&n.va.k==2))
  else if n.kd=2 then decide (1<=n.cl)&&decide (n.cl<=4)&&Cz n.tx
  else if n.kd=6\/n.kd=7\/n.kd=8 then n.cl==1
  else if n.kd=9 then n.cl==2&&!(Ci n.pr).isEmpty
  else if n.kd=11\/n.kd=12\/n.kd=13 then n.cl==2
  else if n.kd=17 then n.cl==(if n.op<=5 then 3 else 4)&&!(opT n.op).isEmpty
  else false)
def On(n:Nd):Int:=if (n.ki.getD 0 default).kd=17/\((n.ki.getD 0 default).op=7\/(n.ki.getD 0 default).op=8\/(n.ki.getD 0 default).op=9) then 1 else 2
def C4(n:Nd):Bool :=
 if n.kd=3 then n.cl==1&&decide (2<=n.ki.length)&&decide (n.ki.length<=1000)&&BA n (List.replicate n.ki.length 1)
 else if n.kd=4 then n.cl==1&&BA n [2,1]
 else if n.kd=5 then n.cl==1&&BA n [2,1,1]
 else if n.kd=14 then n.cl==2&&BA n [3,2]
 else if n.kd=15 then n.cl==2&&BA n [4,2,On n]
 else if n.kd=16 then n.cl==2&&(BA n [2,2]||BA n [2,2,2]||BA n [1,2,2])
 else false
mutual
/-- A kind of leaf occurs outside inner lambdas. -/
def IA(k:Int):Nd->Bool
 |.mk kd _ _ _ _ _ _ ki _ _ _ _=>kd==k||(kd != 10&&Bjh k ki)
def Bjh(k:Int):List Nd->Bool
 | []=>false
 |x::r=>IA k x||Bjh k r
end
def Gb(l:List Sm)(k:Int):Bool:=l.any fun s=>(Bn s).any (IA k)
def Wv(n:Nd):Bool :=
 n.ki.isEmpty&&!n.bo.isEmpty&&(n.bo.getD (n.bo.length-1) default).kd==1 &&
  (if n.cl=2 then !(Gb n.bo 12)&&!(Gb n.bo 13) else if n.cl=3 then Gb n.bo 12&&!(Gb n.bo 13) else if n.cl=4 then Gb n.bo 13 else false)
def CD(k:Nat)(ds:List D)(d:D):Prop:=ACalls Tryz.prog k ds ⟨[],[]⟩ (SpecR (sC ds d) ())
def CS(k:Nat)(ds:List D)(S:St)(d:D):Prop:=ACalls Tryz.prog k ds S (fun r S'=>r=.ret d/\S'=S)
theorem CS.frame{k:Nat}{ds:List D}{S:St}{d:D}(F:St)(h:CS k ds S d):CS k ds (S.add F) d:=by
 refine ((ACalls.frame h F).from fun C F' w H=>H).mono ?_
 rintro r S' ⟨S0,⟨rfl,rfl⟩,rfl⟩
 exact⟨rfl,rfl⟩
theorem CD.at_{k:Nat}{ds:List D}{d:D}(h:CD k ds d)(S:St):CS k ds S d:=ACalls.whole S h
theorem CS.wk{k:Nat}{ds us:List D}{S:St}{d:D}(h:CS k us S d)(hw:wkL ds us):CS k ds S d:=ACalls.wkArgs h hw
theorem CS.cd{k:Nat}{ds:List D}{d:D}(h:CS k ds ⟨[],[]⟩ d):CD k ds d:=ACalls.mono h fun _ _ ⟨h1,h2⟩=>⟨(),trivial,h1,h2⟩
theorem EJ{k : Nat}{β : Type}{ds : List D}{S : St}{d : β -> D}{p : β -> Prop}(h : ∀x, p x -> CS k ds S (d x)) :
  (∀x,(pE ds S d p).pre x->ACalls Tryz.prog k ((pE ds S d p).args x) ((pE ds S d p).st x) (SpecR (pE ds S d p) x))/\(∀x,(pE ds S d p).fit=some x->(pE ds S d p).pre x->Br ds ((pE ds S d p).args x)/\leS ((pE ds S d p).st x) S)/\((pE ds S d p).all=true->∀x,(pE ds S d p).pre x->Br ds ((pE ds S d p).args x)/\(pE ds S d p).st x=S) :=
 ⟨fun x hp=>ACalls.mono (h x hp) fun _ _ ⟨h1,h2⟩=>⟨(),trivial,h1,h2⟩,fun _ e=>(by cases e),fun _ _ _=>⟨Bj ds,rfl⟩⟩
def pA(ds:List D)(S:St)(d:D)(p:Prop):FnSpec:=pE (β:=Unit) ds S (fun _=>d) fun _=>p
theorem Bv{k : Nat}{ds : List D}{S : St}{d : D}{p : Prop}(h : p -> CS k ds S d) :
  (∀x,(pA ds S d p).pre x->ACalls Tryz.prog k ((pA ds S d p).args x) ((pA ds S d p).st x) (SpecR (pA ds S d p) x))/\(∀x,(pA ds S d p).fit=some x->(pA ds S d p).pre x->Br ds ((pA ds S d p).args x)/\leS ((pA ds S d p).st x) S)/\((pA ds S d p).all=true->∀x,(pA ds S d p).pre x->Br ds ((pA ds S d p).args x)/\(pA ds S d p).st x=S) :=
 EJ fun _ hp=>h hp
def sS(ds:List D)(S:St)(d:D):FnSpec where
 β:=Unit
 α:=Unit
 args:=fun _=>ds
 st:=fun _=>S
 pre:=fun _=>True
 post:=fun _ _=>True
 res:=fun _ _=>.ret d
 out:=fun _ _=>S
theorem CS.of{k:Nat}{ds:List D}{S:St}{d:D}(h:ACalls Tryz.prog k ((sS ds S d).args ()) ((sS ds S d).st ()) (SpecR (sS ds S d) ())):CS k ds S d :=
 ACalls.mono h fun _ _ ⟨_,_,h2,h3⟩=>⟨h2,h3⟩
theorem CS.to{k:Nat}{ds:List D}{S S':St}{d:D}(h:CS k ds S' d)(h1:StTo S S')(h2:StTo S' S):CS k ds S d :=
 ACalls.to (ACalls.from h h1) fun r S0 ⟨e1,e2⟩=>⟨S,by rw[e2];exact h2,e1,rfl⟩
theorem CS.front{k:Nat}{ds:List D}{os:List (Nat×Nat×AObj)}{d:D}(o:Nat×Nat×AObj)(h:CS k ds ⟨os,[]⟩ d):CS k ds ⟨o::os,[]⟩ d:=by
 have p:List.Perm (os.map (·.2)++[o.2]) (o.2::os.map (·.2)):=List.perm_append_singleton _ _
 refine CS.to (CS.frame ⟨[o],[]⟩ h) (StTo.perm (r1:=[]) (r2:=[]) ?_ ?_) (StTo.perm (r1:=[]) (r2:=[]) ?_ ?_)
 ·simp[St.add]
 ·simp[St.add]
 ·simpa[St.add] using p.symm
 ·simp[St.add]
def CZ{α:Type}(p:α->Bool):List α->Int->Int
 | [],_=>-1
 |x::r,i=>if p x then i else CZ p r (i+1)
theorem Ec{α:Type}(p:α->Bool):∀(l:List α) (i:Int),0<=i->(decide (0<=CZ p l i))=l.any p
 | [],i,_=>by simp[CZ]
 |x::r,i,h=>by
  rw[CZ]
  by_cases hx:p x=true
  ·rw[if_pos hx];simp[hx,h]
  ·rw[if_neg hx,Ec p r (i+1) (by omega)];simp[hx]
structure IdxG {α:Type} (p:α->Bool) (l:List α) (i:Nat):Prop where
 hi:i<=l.length
 hg:CZ p (l.drop i) i=CZ p l 0
theorem IdxG.step{α:Type}[Inhabited α]{p:α->Bool}{l:List α}{i:Nat}(h:IdxG p l i)(hlt:i<l.length):(p (l.getD i default)=true->CZ p l 0=i)/\(p (l.getD i default)=false->IdxG p l (i+1)):=by
 have hg:=h.hg
 rw[ML hlt,CZ] at hg
 refine⟨fun e=>?_,fun e=>?_⟩
 ·rw[if_pos e] at hg;exact hg.symm
 ·rw[if_neg (by rw[e];exact Bool.false_ne_true)] at hg;exact⟨by omega,hg⟩
theorem IdxG.done{α:Type}{p:α->Bool}{l:List α}{i:Nat}(h:IdxG p l i)(hge:¬(i:Int)<l.length):CZ p l 0 = -1:=by
 have hg:=h.hg
 have:i=l.length:=by have:=h.hi;omega
 rw[this,List.drop_length,CZ] at hg
 exact hg.symm
def isN(b:Nd)(ds:List D)(ex:List D):Prop:=wkL ds (.agg b.row1::ex)
def isN2(b:Nd)(ds:List D)(ex:List D):Prop:=wkL ds (.agg b.row2::ex)
def isS(b:Sm)(ds:List D)(ex:List D):Prop:=wkL ds (.agg b.row1::ex)
theorem CD.wk{k:Nat}{ds us:List D}{d:D}(h:CD k us d)(hw:wkL ds us):CD k ds d:=BqR hw h
theorem BB(n:Nd)(ex:List D):isN n (.agg n.row1::ex) ex:=Bi _
theorem Mg(n:Nd)(ex:List D):isN2 n (.agg n.row2::ex) ex:=Bi _
theorem Ie(s:Sm)(ex:List D):isS s (.agg s.row1::ex) ex:=Bi _
theorem CD.down{k:Nat}{n:Nd}{ex:List D}{d:D}(h:CD k (.agg n.row2::ex) d):CD k (.agg n.row1::ex) d :=
 h.wk (by simp only[wkL,wkD];exact⟨TJ n,Bi _⟩)
theorem CD.isN{k:Nat}{n:Nd}{ds ex:List D}{d:D}(h:CD k (.agg n.row2::ex) d)(hi:isN n ds ex):CD k ds d:=h.down.wk hi
theorem CD.isN2{k:Nat}{n:Nd}{ds ex:List D}{d:D}(h:CD k (.agg n.row2::ex) d)(hi:isN2 n ds ex):CD k ds d:=h.wk hi
theorem CY{l:List Nd}{i:Nat}(h:i<l.length):l.getD i default∈l:=by
 rw[List.getD_eq_getElem?_getD,List.getElem?_eq_getElem h];exact List.getElem_mem h
theorem IR{l:List Sm}{i:Nat}(h:i<l.length):l.getD i default∈l:=by
 rw[List.getD_eq_getElem?_getD,List.getElem?_eq_getElem h];exact List.getElem_mem h
mutual
def BL:Nd->Bool
  | .mk kd at_ cl tx pr op va ki bo de sl ss =>
    Ug (.mk kd at_ cl tx pr op va ki bo de sl ss) kd &&
      (if kd = 10 then Wv (.mk kd at_ cl tx pr op va ki bo de sl ss) && (decide (bo.length <= 1000) && Eh true [] bo)
       else C9 (.mk kd at_ cl tx pr op va ki bo de sl ss) || (C4 (.mk kd at_ cl tx pr op va ki bo de sl ss) && WX ki))
def WX:List Nd->Bool
 | []=>true
 |x::r=>BL x&&WX r
def Eh(g:Bool)(names:List (List UInt8)):List Sm->Bool
 | []=>true
 |x::r=>Bay g names x&&Eh g (if x.kd=2 then names++[x.nm] else names) r
def Bay(g:Bool)(names:List (List UInt8)):Sm->Bool
  | .mk kd at_ nm sl te nd => decide (0 <= at_) && BL nd &&
    (if kd = 1 then nd.cl == 1 && nm.isEmpty && sl == 0 && Iu te
     else if kd = 2 then Cz nm && !(names.contains nm) && (nd.cl == 1 || nd.cl == 2 || nd.kd == 10) && decide (0 <= sl) && Iu te
     else if kd = 3 then g && BL te && te.cl == 1 && nd.cl == 1 && nm.isEmpty && sl == 0
     else false)
end
def CL(g:Bool)(l:List Sm):Bool:=decide (l.length<=1000)&&Eh g [] l
theorem Ea(n:Nd):BL n=(Ug n n.kd&&(if n.kd=10 then Wv n&&CL true n.bo else C9 n||(C4 n&&n.ki.all BL))):=by
 have e:∀l:List Nd,WX l=l.all BL:=by
  intro l
  induction l with
  |nil=>simp only[WX,List.all_nil]
  |cons x r ih=>simp only[WX,List.all_cons,ih]
 cases n
 simp only[BL,e]
 rfl
theorem Iz(g : Bool)(names : List (List UInt8))(s : Sm) : Bay g names s = (decide (0 <= s.at_) && BL s.nd &&
    (if s.kd = 1 then s.nd.cl == 1 && s.nm.isEmpty && s.sl == 0 && Iu s.te
     else if s.kd = 2 then Cz s.nm && !(names.contains s.nm) && (s.nd.cl == 1 || s.nd.cl == 2 || s.nd.kd == 10) && decide (0 <= s.sl) && Iu s.te
     else if s.kd = 3 then g && BL s.te && s.te.cl == 1 && s.nd.cl == 1 && s.nm.isEmpty && s.sl == 0
     else false)) := by
  cases s
  simp only [Bay]
  rfl
def Bcf(l:List Sm):Bool:=[6,7,11,12,13].any fun k=>Gb l k
def Ek(n:Nd):Int:=if 60<dpN n then 8 else if 16384<szN n then 21 else if BL n=true then 0 else 11
def Bpj(n:Nd):Int:=if Ek n≠0 then Ek n else if Bcf [.mk 1 0 [] 0 nd0 n]=true then 11 else 0
def CI(l:List Sm):Int :=
 if 1000<l.length then 2 else if 60<dpB l then 8 else if 16384<szB l then 21
 else if (CL false l&&!Bcf l)=true then 0 else 11
theorem BcQ(p:Int):(Ci p).isEmpty=!(decide (1<=p)&&decide (p<=55)):=by
 have h:∀n,n<56->(primL.getD n []).isEmpty=!(decide (1<=n)):=by decide +kernel
 unfold Ci
 split
 ·rename_i hc
  have:(decide (1<=p)&&decide (p<=55))=false:=by
   rw[Bool.and_eq_false_iff,decide_eq_false_iff_not,decide_eq_false_iff_not];omega
  rw[this];rfl
 ·rename_i hc
  have:(decide (1<=p)&&decide (p<=55))=true:=by
   rw[Bool.and_eq_true,decide_eq_true_eq,decide_eq_true_eq];omega
  rw[this,h _ (by omega)]
  have:(1:Nat)<=p.toNat:=by omega
  simp[this]
theorem BlR(p:Int):(opT p).isEmpty=!(decide (1<=p)&&decide (p<=11)):=by
 have h:∀n,n<12->(opL.getD n []).isEmpty=!(decide (1<=n)):=by decide +kernel
 unfold opT
 split
 ·rename_i hc
  have:(decide (1<=p)&&decide (p<=11))=false:=by
   rw[Bool.and_eq_false_iff,decide_eq_false_iff_not,decide_eq_false_iff_not];omega
  rw[this];rfl
 ·rename_i hc
  have:(decide (1<=p)&&decide (p<=11))=true:=by
   rw[Bool.and_eq_true,decide_eq_true_eq,decide_eq_true_eq];omega
  rw[this,h _ (by omega)]
  have:(1:Nat)<=p.toNat:=by omega
  simp[this]
theorem Bc0(k:Int):∀l:List Nd,Bjh k l=l.any (IA k)
 | []=>by simp only[Bjh,List.any_nil]
 |x::r=>by simp only[Bjh,List.any_cons,Bc0 k r]
theorem BmM(k:Int)(n:Nd):IA k n=(n.kd==k||(n.kd != 10&&n.ki.any (IA k))):=by
 cases n
 simp only[IA,Bc0]
 rfl
theorem Nd.size_kid{n x:Nd}(h:x∈n.ki):SizeOf.sizeOf x<SizeOf.sizeOf n:=by
 cases n with
 |mk kd at_ cl tx pr op va ki bo de sl ss =>
  have:=List.sizeOf_lt_of_mem (show x∈ki from h)
  simp only[Nd.mk.sizeOf_spec]
  omega
theorem Nd.size_stmt{n:Nd}{s:Sm}(h:s∈n.bo):SizeOf.sizeOf s<SizeOf.sizeOf n:=by
 cases n with
 |mk kd at_ cl tx pr op va ki bo de sl ss =>
  have:=List.sizeOf_lt_of_mem (show s∈bo from h)
  simp only[Nd.mk.sizeOf_spec]
  omega
theorem Sm.size_te(s:Sm):SizeOf.sizeOf s.te<SizeOf.sizeOf s:=by
 cases s
 simp only[Sm.te,Sm.mk.sizeOf_spec]
 omega
theorem Sm.size_nd(s:Sm):SizeOf.sizeOf s.nd<SizeOf.sizeOf s:=by
 cases s
 simp only[Sm.nd,Sm.mk.sizeOf_spec]
 omega
theorem GU{n:Nd}(h:BL n=true):(∀x∈n.ki,BL x=true)/\(n.kd=10->n.ki=[]):=by
 rw[Ea,Bool.and_eq_true] at h
 have h:=h.2
 by_cases hk:n.kd=10
 ·rw[if_pos hk,Bool.and_eq_true] at h
  have h1:=h.1
  unfold Wv at h1
  simp only[Bool.and_eq_true,List.isEmpty_iff] at h1
  have e:n.ki=[]:=h1.1.1.1
  exact⟨fun x hx=>by rw[e] at hx;simp at hx,fun _=>e⟩
 ·rw[if_neg hk,Bool.or_eq_true,Bool.and_eq_true] at h
  refine⟨fun x hx=>?_,fun e=>(hk e).elim⟩
  rcases h with h | h
  ·unfold C9 at h
   simp only[Bool.and_eq_true,List.isEmpty_iff] at h
   rw[h.1] at hx
   simp at hx
  ·exact List.all_eq_true.1 h.2 x hx
theorem EQ{g:Bool}:∀ {l:List Sm} {names:List (List UInt8)},Eh g names l=true->∀s∈l,BL s.nd=true/\((s.kd=3/\BL s.te=true/\g=true)\/(s.kd≠3/\Iu s.te=true))
 | [],_,_,s,hs=>by simp at hs
 |x::r,names,h,s,hs=>by
  simp only[Eh,Bool.and_eq_true] at h
  rcases List.mem_cons.1 hs with rfl | hs
  ·have h:=h.1
   rw[Iz] at h
   simp only[Bool.and_eq_true] at h
   refine⟨h.1.2,?_⟩
   have h:=h.2
   by_cases h1:s.kd=1
   ·rw[if_pos h1] at h
    simp only[Bool.and_eq_true] at h
    exact .inr ⟨by omega,h.2⟩
   ·rw[if_neg h1] at h
    by_cases h2:s.kd=2
    ·rw[if_pos h2] at h
     simp only[Bool.and_eq_true] at h
     exact .inr ⟨by omega,h.2⟩
    ·rw[if_neg h2] at h
     by_cases h3:s.kd=3
     ·rw[if_pos h3] at h
      simp only[Bool.and_eq_true] at h
      exact .inl ⟨h3,h.1.1.1.1.2,h.1.1.1.1.1⟩
     ·rw[if_neg h3] at h;cases h
  ·exact EQ h.2 s hs
theorem BkC{α:Type}[Inhabited α]{g:α->List D}{l r:List α}(i:Nat):BW l.length (fun i=>g (l.getD i default)) (fun i=>g (r.getD i default)) i=g ((l++r).getD i default):=by
 unfold BW
 split
 ·rename_i h
  simp[List.getD_eq_getElem?_getD,List.getElem?_append_left h,h]
 ·rename_i h
  simp[List.getD_eq_getElem?_getD,List.getElem?_append_right (Nat.le_of_not_lt h)]
theorem Gz(s:Sm):(Bn s).length<=2:=by
 unfold Bn
 split<;>simp
theorem WV:∀l:List Sm,(l.flatMap Bn).length<=2*l.length
 | []=>by simp
 |s::l=>by
  have:=WV l
  have:=Gz s
  simp only[List.flatMap_cons,List.length_append,List.length_cons]
  omega
theorem BhH(n:Nd):(BH n).length<=n.ki.length+2*n.bo.length:=by
 have:=WV n.bo
 simp only[BH,List.length_append]
 omega
theorem BaN{l:List Sm}{i:Nat}(h:i<l.length):(l.take (i+1)).flatMap Bn=(l.take i).flatMap Bn++Bn (l.getD i default):=by
 rw[CC h,List.flatMap_append]
 simp
noncomputable def Epa:Senv:=EC E5 14 3 [5] (fun _=>([],[]))
noncomputable section
def QE(a:Sm):Nd:=Sm.te a
def X5:Arr:=DA
def JS:Nd:=Nd.mk Z0 Z0 Z0 [] Z0 Z0 X5 [] [] Z0 Z0 Z0
def QF(a:Sm):Nd:=Sm.nd a
def QfR(a:Sm):List (List D):=[(Nd.rowE (QF a))]
def QG(a:Sm)(b:Nat):Nd:=List.getD (Bn a) b JS
def QfV(a:Sm)(b:Nat):List D:=(Nd.rowE (QG a b))
end
theorem BiA(s:Sm):CD 33 [.agg s.row1] (gsl 15 Nd.row1 (Bn s)):=by
 refine Bf (A:=sC _ _) (x:=()) (E:=Epa) (eOk BJ rfl) Tryz.func33 rfl (by kernel_rfl) rfl (by simp[sC,Epa,EC,E0]) ?_
 refine Bk (T :=
  ∀(x:Nat),True->SM x/\ifB (Sm.kd s==3) (SM x/\SM x/\True/\∃(y:Unit),True/\(N2=LN (Bn s)/\(∀(i:Nat),i<N2->List.getD ((Nd.rowE (QE s))::QfR s) i []=QfV s i)/\True)/\True/\True) (SM x/\True/\∃(y:Unit),True/\(N1=LN (Bn s)/\(∀(i:Nat),i<N1->List.getD (QfR s) i []=QfV s i)/\True)/\True/\True)) (by kernel_rfl) ?_
 delta DA GI LN N1 N2 N4 SI SM Z0 ZI QE QF QfR QG QfV X5 JS
 simp only[Bh,beq_iff_eq,beq_eq_false_iff_ne,true_and,and_true,exists_const]
 refine fun x _=>⟨fun h=>?_,fun h=>?_⟩
 ·have e:Bn s=[s.te,s.nd]:=if_pos h
  rw[e]
  refine⟨rfl,fun i hi=>?_⟩
  match i,hi with
  |0,_=>rfl
  |1,_=>rfl
 ·have e:Bn s=[s.nd]:=if_neg h
  rw[e]
  refine⟨rfl,fun i hi=>?_⟩
  match i,hi with
  |0,_=>rfl
def Bll(_n:Nd):Con:=fun k ds S=>match k with
 |33=>some (pE (β:=Sm) ds S (fun s=>gsl 15 Nd.row1 (Bn s)) (fun s=>isS s ds []))
 |_=>none
theorem Bi0(n:Nd):ConOk Tryz.prog (Bll n):=by
 intro k ds S A h
 unfold Bll at h
 split at h
 ·injection h with h;subst h
  exact EJ fun s e=>CD.at_ (CD.wk (BiA s) e) _
 ·cases h
noncomputable def Ein0(n:Nd):Senv:={ EC (Bll n) 26 4 [5,9,10,11,12] (fun id=>match id with | 5=>([0,1,2,3,4,6,5,7,8,9],[5,7,8]) | _=>([],[])) with
 ann:=fun b _ S=>match b with
  |0=>some { slots:=[11,3],keep:=[0,1,9,10],α:=Nat×List Nd,st:=fun y=>([.int .i64 y.1,gsl 15 Nd.row1 y.2],S),inv:=fun y=>y.1<=n.bo.length/\y.2=n.ki++(n.bo.take y.1).flatMap Bn,mu:=fun y=>n.bo.length-y.1 }
  |_=>none }
noncomputable section
def X8(a:Nd):List Sm:=Nd.bo a
def Jv(a:Nd):Nat:=LN (X8 a)
def QaR(a:Nd):List Nd:=Nd.ki a
def QaS(a:Nat)(b:Nd)(c:List Nd):Prop:=a<=Jv b/\c=QaR b++List.flatMap Bn (List.take a (X8 b))
def VN(a:Nd):Nat:=LN (QaR a)
def JT:Arr:=DA
def KH:Nd:=Nd.mk Z0 Z0 Z0 [] Z0 Z0 JT [] [] Z0 Z0 Z0
def QaT(a:Nd)(b:Nat):List D:=Nd.row1 (List.getD (QaR a) b KH)
def X9(a:List Nd)(b:Nat):List D:=Nd.row1 (List.getD a b KH)
def QfW(a:Nd):Int:=Nd.kd a
def QfX(a:Nd):Int:=Nd.at_ a
def QfY(a:Nd):Int:=Nd.cl a
def QfZ(a:Nd):List UInt8:=Nd.tx a
def Qf0(a:Nd):Int:=Nd.pr a
def Qf1(a:Nd):Int:=Nd.op a
def Ya(a:Nd):Arr:=Nd.va a
def Qf2(a:Nd):Int:=Arr.k (Ya a)
def Qf3(a:Nd):List Int:=Arr.sh (Ya a)
def QaU(a:Nd):Nat:=LN (Qf3 a)
def Qf4(a:Nd)(b:Nat):List D:=[ZI (GI (Qf3 a) b)]
def Qf5(a:Nd):List Int:=Arr.nu (Ya a)
def QaV(a:Nd):Nat:=LN (Qf5 a)
def Qf6(a:Nd)(b:Nat):List D:=[ZI (GI (Qf5 a) b)]
def Qf7(a:Nd):List Arr:=Arr.it (Ya a)
def QaW(a:Nd):Nat:=LN (Qf7 a)
def Qf8(a:Nd)(b:Nat):List D:=Arr.row (List.getD (Qf7 a) b JT)
def JU:Sm:=Sm.mk Z0 Z0 [] Z0 KH KH
def JV(a:Nd)(b:Nat):Sm:=List.getD (X8 a) b JU
def Qgf(a:Nd)(b:Nat):List D:=(Sm.row1 (JV a b))
def Qgg(a:Nd):Int:=Nd.de a
def Qgh(a:Nd):Int:=Nd.sl a
def Qgi(a:Nd):Int:=Nd.ss a
def Qgj(a:Nat)(b:Nd):Prop:=(SM a/\(SM (QfW b)/\SM (QfX b)/\SM (QfY b)/\SM (QfZ b)/\SM (Qf0 b)/\SM (Qf1 b)/\SM (Qf2 b)/\(SM (QaU b)/\(∀(i:Nat),i<QaU b->SM (Qf4 b i))/\True)/\(SM (QaV b)/\(∀(i:Nat),i<QaV b->SM (Qf6 b i))/\True)/\(SM (QaW b)/\(∀(i:Nat),i<QaW b->SM (Qf8 b i))/\True)/\(SM (VN b)/\(∀(i:Nat),i<VN b->SM (QaT b i))/\True)/\(SM (Jv b)/\(∀(i:Nat),i<Jv b->SM (Qgf b i))/\True)/\SM (Qgg b)/\SM (Qgh b)/\SM (Qgi b)/\True)/\True)/\True
def QaX(a:Nd):Int:=(NI (Jv a))
def Yd(a:List Nd):Prop:=SM (LI a)
def JW(a:Nd)(b:Nat):Sm:=List.getD (X8 a) (Int.toNat (↑b:Int)) JU
def Qgq(a:Nd)(b:Nat):D:=D.agg (Sm.row1 (JW a b))
def Qgr(a:Sm)(b:Nd)(c:Nat):Prop:=isS a [Qgq b c] []
def Yg(a:List Nd)(b:Sm):Nat:=LN a+LN (Bn b)
def Qgs(a:Nd):D:=D.sl 34 (Jv a) (fun i=>Qgf a i) Mode.any
def Qul(a:Nd):D:=D.agg [ZI (QfW a),ZI (QfX a),ZI (QfY a),D.str (QfZ a),ZI (Qf0 a),ZI (Qf1 a),ZI (Qf2 a),D.sl N1 (QaU a) (fun i=>Qf4 a i) Mode.any,D.sl N1 (QaV a) (fun i=>Qf6 a i) Mode.any,D.sl N4 (QaW a) (fun i=>Qf8 a i) Mode.any,D.sl 15 (VN a) (fun i=>QaT a i) Mode.any,Qgs a,ZI (Qgg a),ZI (Qgh a),ZI (Qgi a)]
def Qgt(a:Nat)(b:List Nd)(c:Sm)(d:Nd)(e f:Nat):Prop:=SM a/\Be (Yg b c*208<=140737488355328/\Yg b c<=9223372036854775807) (∀(_t:Nat),(SM (Qul d)/\SM (D.ref N0 e N0)/\SM (Qgs d)/\SM (ZI (QaX d))/\True)/\∃(y:Nat×List Nd),QaS y.1 d y.2/\Jv d-y.1<Jv d-f/\(IntKind.wrap IntKind.i64 ((↑f:Int)+Z1)=(NI y.1)/\(Yg b c=LN y.2/\(∀(i:Nat),i<Yg b c->BW (LN b) (fun i=>X9 b i) (fun i=>Nd.row1 (List.getD (Bn c) i KH)) i=X9 y.2 i)/\True)/\True)/\Qgj e d)
end
theorem Blz(n:Nd)(h1:n.ki.length<=By)(h2:n.bo.length<=By):CD 61 [.agg n.row2] (gsl 15 Nd.row1 (BH n)):=by
 refine Bf (A:=sC _ _) (x:=()) (E:=Ein0 n) (eOk (Bi0 n) rfl) Tryz.func61 rfl (by kernel_rfl) rfl (by simp[sC,Ein0,EC,E0]) ?_
 refine Bk (T :=
  ∀(x:Nat),True->SM x/\SM x/\(∃(x_1:Nat×List Nd),QaS x_1.1 n x_1.2/\(Z0=(NI x_1.1)/\(VN n=LN x_1.2/\(∀(i:Nat),i<VN n->QaT n i=X9 x_1.2 i)/\True)/\True)/\Qgj x n)/\∀(x_1:Nat×List Nd),QaS x_1.1 n x_1.2->ifB (decide ((NI x_1.1)<QaX n)) (Be (Z0<=(NI x_1.1)/\(NI x_1.1)<QaX n) (∀(x_2:Nat),x≠x_2/\True->SM x_2/\SM x_2/\(Yd x_1.2/\Yd x_1.2/\∀(t:Nat),(SM x_2/\SM (Qgq n x_1.1))/\∃(x_3:Sm),Qgr x_3 n x_1.1/\∀(y:Unit),True->Qgt t x_1.2 x_3 n x x_1.1)/\∃(x_3:Sm),Qgr x_3 n x_1.1/\∀(y:Unit),True->Yd x_1.2/\Yd x_1.2/\∀(t:Nat),Qgt t x_1.2 x_3 n x x_1.1)) (True/\∃(y:Unit),True/\(LN x_1.2=LN (BH n)/\(∀(i:Nat),i<LN x_1.2->X9 x_1.2 i=Nd.row1 (List.getD (BH n) i KH))/\True)/\True/\True)) (by kernel_rfl) ?_
 delta DA GI LI LN N0 N1 N4 NI SI SM Z0 Z1 ZI X8 Jv QaR QaS VN JT KH QaT X9 QfW QfX QfY QfZ Qf0 Qf1 Ya Qf2 Qf3 QaU Qf4 Qf5 QaV Qf6 Qf7 QaW Qf8 JU JV Qgf Qgg Qgh Qgi Qgj QaX Yd JW Qgq Qgr Yg Qgs Qul Qgt
 try simp only[<- dm]
 try simp only[<- dn]
 simp only[ne_eq,implies_true,Int.toNat_natCast,Bh,Bc,decide_eq_true_eq,decide_eq_false_iff_not,true_and,and_true,exists_const,forall_const,Prod.exists]
 intro x
 unfold By at h1 h2
 refine⟨⟨0,n.ki,⟨Nat.zero_le _,by simp⟩,rfl,rfl,fun _ _=>rfl⟩,?_⟩
 rintro ⟨i,l⟩ ⟨hi,hl⟩
 simp only at hi hl ⊢
 refine⟨fun hlt=>⟨⟨by omega,hlt⟩,fun _ _=>?_⟩,fun hge=>?_⟩
 ·have hlt':i<n.bo.length:=by omega
  have hf:=WV (n.bo.take i)
  have hlen:l.length=n.ki.length+((n.bo.take i).flatMap Bn).length:=by rw[hl,List.length_append]
  have ht:(n.bo.take i).length=i:=by rw[List.length_take];omega
  have h2p:=Gz (n.bo.getD i default)
  have w:IntKind.i64.wrap ((i:Int)+1)=((i+1:Nat):Int):=by rw[Bb (by omega) (by omega)];rfl
  refine⟨⟨n.bo.getD i default,Ie _ _,⟨by omega,by omega⟩,i+1,l++Bn (n.bo.getD i default),⟨hlt',by rw[BaN hlt',hl,List.append_assoc]⟩,by omega,w,by rw[List.length_append],fun j _=>BkC j⟩,n.bo.getD i default,Ie _ _,⟨by omega,by omega⟩,i+1,l++Bn (n.bo.getD i default),⟨hlt',by rw[BaN hlt',hl,List.append_assoc]⟩,by omega,w,by rw[List.length_append],fun j _=>BkC j⟩
 ·have e:i=n.bo.length:=by omega
  rw[e,List.take_length] at hl
  have e2:l=BH n:=hl
  rw[e2]
  first
   |exact⟨rfl,fun _ _=>rfl⟩
   |trivial
end Go.Proofs.YtaagdbcaeokjkaaGreatDoor
