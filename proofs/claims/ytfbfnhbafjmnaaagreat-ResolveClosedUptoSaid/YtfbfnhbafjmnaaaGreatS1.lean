/- Functions of the given program and what each of them computes: lemmas towards the statement, their conditions stated with each of them. -/
import Derived.Test.YtfbfnhbafjmnaaaGreatAb3
import Derived.Test.YtfbfnhbafjmnaaaGreatProg
import Derived.KernelRfl
import Derived.Shelf.Sort.Plain
import Derived.Shelf.Bits.Mul64
import Derived.Shelf.Slices.CompactS
import Derived.Shelf.Slices.Cells
import Derived.Shelf.Slices.In.SortNone
import Derived.Test.YtfbfnhbafjmnaaaGreatRows
import Derived.RangeFuncFrom
import Derived.RangeFuncLeaves
import Derived.Shelf.Abstract
import Derived.OwnWalkIn
import Derived.TacticsInMore
import Derived.LoopNIn
import Derived.LoopIn
import Derived.Deep.DeepHandedRow
import Derived.Sort.Walk0
import Derived.Sort.OwnSorted
namespace Go.Proofs.YtfbfnhbafjmnaaaGreat
open Go Go.Ab
noncomputable def tab:List (Nat×TI):=[
 (0,⟨TypeDesc.tuple #[],1,0,[.unk]⟩),
 (1,⟨TypeDesc.func #[] #[] false,1,8,[.nilf]⟩),
 (2,⟨TypeDesc.int .i64,1,8,[.int .i64 0]⟩),
 (3,⟨TypeDesc.int .i64,1,8,[.int .i64 0]⟩),
 (4,⟨TypeDesc.bool,1,1,[.bool false]⟩),
 (5,⟨TypeDesc.int .u8,1,1,[.int .u8 0]⟩),
 (9,⟨TypeDesc.string,1,16,[.str []]⟩),
 (20,⟨TypeDesc.interface #[],1,16,[.nili]⟩),
 (21,⟨TypeDesc.int .i32,1,4,[.int .i32 0]⟩),
 (22,⟨TypeDesc.slice 55,1,24,[.sl 1 0 (fun _=>[]) .nil]⟩),
 (23,⟨Tryz.t23.desc,1,24,[.sl 1 0 (fun _=>[]) .nil]⟩),
 (24,⟨Tryz.t23.desc,1,24,[.sl 1 0 (fun _=>[]) .nil]⟩),
 (25,⟨Tryz.t25.desc,2,32,[.sl 1 0 (fun _=>[]) .nil,.int .i64 0]⟩),
 (26,⟨Tryz.t25.desc,2,32,[.sl 1 0 (fun _=>[]) .nil,.int .i64 0]⟩),
 (27,⟨TypeDesc.int .i64,1,8,[.int .i64 0]⟩),
 (28,⟨TypeDesc.slice 3,1,24,[.sl 1 0 (fun _=>[]) .nil]⟩),
 (29,⟨Tryz.t29.desc,5,80,[.int .i64 0,.int .i64 0,.sl 1 0 (fun _=>[]) .nil,.sl 1 0 (fun _=>[]) .nil,.str []]⟩),
 (30,⟨Tryz.t29.desc,5,80,[.int .i64 0,.int .i64 0,.sl 1 0 (fun _=>[]) .nil,.sl 1 0 (fun _=>[]) .nil,.str []]⟩),
 (31,⟨TypeDesc.tuple #[26,30],1,0,[.unk]⟩),
 (32,⟨TypeDesc.func #[24] #[26,30] false,1,8,[.nilf]⟩),
 (33,⟨TypeDesc.func #[30,30] #[4] false,1,8,[.nilf]⟩),
 (34,⟨TypeDesc.func #[26,26] #[4] false,1,8,[.nilf]⟩),
 (35,⟨TypeDesc.func #[] #[4] false,1,8,[.nilf]⟩),
 (36,⟨TypeDesc.func #[24] #[4] false,1,8,[.nilf]⟩),
 (37,⟨TypeDesc.func #[26] #[27] false,1,8,[.nilf]⟩),
 (38,⟨TypeDesc.int .i64,1,8,[.int .i64 0]⟩),
 (39,⟨TypeDesc.int .i64,1,8,[.int .i64 0]⟩),
 (40,⟨TypeDesc.int .i64,1,8,[.int .i64 0]⟩),
 (41,⟨TypeDesc.int .i64,1,8,[.int .i64 0]⟩),
 (42,⟨TypeDesc.int .i64,1,8,[.int .i64 0]⟩),
 (43,⟨TypeDesc.slice 45,1,24,[.sl 1 0 (fun _=>[]) .nil]⟩),
 (44,⟨Tryz.t44.desc,4,80,[.int .i64 0,.sl 1 0 (fun _=>[]) .nil,.sl 1 0 (fun _=>[]) .nil,.sl 1 0 (fun _=>[]) .nil]⟩),
 (45,⟨Tryz.t44.desc,4,80,[.int .i64 0,.sl 1 0 (fun _=>[]) .nil,.sl 1 0 (fun _=>[]) .nil,.sl 1 0 (fun _=>[]) .nil]⟩),
 (46,⟨TypeDesc.slice 48,1,24,[.sl 1 0 (fun _=>[]) .nil]⟩),
 (47,⟨Tryz.t47.desc,15,208,[.int .i64 0,.int .i64 0,.int .i64 0,.str [],.int .i64 0,.int .i64 0,.int .i64 0,.sl 1 0 (fun _=>[]) .nil,.sl 1 0 (fun _=>[]) .nil,.sl 1 0 (fun _=>[]) .nil,.sl 1 0 (fun _=>[]) .nil,.sl 1 0 (fun _=>[]) .nil,.int .i64 0,.int .i64 0,.int .i64 0]⟩),
 (48,⟨Tryz.t47.desc,15,208,[.int .i64 0,.int .i64 0,.int .i64 0,.str [],.int .i64 0,.int .i64 0,.int .i64 0,.sl 1 0 (fun _=>[]) .nil,.sl 1 0 (fun _=>[]) .nil,.sl 1 0 (fun _=>[]) .nil,.sl 1 0 (fun _=>[]) .nil,.sl 1 0 (fun _=>[]) .nil,.int .i64 0,.int .i64 0,.int .i64 0]⟩),
 (49,⟨TypeDesc.slice 9,1,24,[.sl 1 0 (fun _=>[]) .nil]⟩),
 (50,⟨TypeDesc.func #[48] #[49] false,1,8,[.nilf]⟩),
 (51,⟨TypeDesc.func #[48] #[4] false,1,8,[.nilf]⟩),
 (52,⟨TypeDesc.func #[49,49] #[4] false,1,8,[.nilf]⟩),
 (53,⟨TypeDesc.int .i64,1,8,[.int .i64 0]⟩),
 (54,⟨Tryz.t54.desc,34,456,[.int .i64 0,.int .i64 0,.str [],.int .i64 0,.int .i64 0,.int .i64 0,.int .i64 0,.str [],.int .i64 0,.int .i64 0,.int .i64 0,.sl 1 0 (fun _=>[]) .nil,.sl 1 0 (fun _=>[]) .nil,.sl 1 0 (fun _=>[]) .nil,.sl 1 0 (fun _=>[]) .nil,.sl 1 0 (fun _=>[]) .nil,.int .i64 0,.int .i64 0,.int .i64 0,.int .i64 0,.int .i64 0,.int .i64 0,.str [],.int .i64 0,.int .i64 0,.int .i64 0,.sl 1 0 (fun _=>[]) .nil,.sl 1 0 (fun _=>[]) .nil,.sl 1 0 (fun _=>[]) .nil,.sl 1 0 (fun _=>[]) .nil,.sl 1 0 (fun _=>[]) .nil,.int .i64 0,.int .i64 0,.int .i64 0]⟩),
 (55,⟨Tryz.t54.desc,34,456,[.int .i64 0,.int .i64 0,.str [],.int .i64 0,.int .i64 0,.int .i64 0,.int .i64 0,.str [],.int .i64 0,.int .i64 0,.int .i64 0,.sl 1 0 (fun _=>[]) .nil,.sl 1 0 (fun _=>[]) .nil,.sl 1 0 (fun _=>[]) .nil,.sl 1 0 (fun _=>[]) .nil,.sl 1 0 (fun _=>[]) .nil,.int .i64 0,.int .i64 0,.int .i64 0,.int .i64 0,.int .i64 0,.int .i64 0,.str [],.int .i64 0,.int .i64 0,.int .i64 0,.sl 1 0 (fun _=>[]) .nil,.sl 1 0 (fun _=>[]) .nil,.sl 1 0 (fun _=>[]) .nil,.sl 1 0 (fun _=>[]) .nil,.sl 1 0 (fun _=>[]) .nil,.int .i64 0,.int .i64 0,.int .i64 0]⟩),
 (56,⟨TypeDesc.func #[24,24] #[4] false,1,8,[.nilf]⟩),
 (57,⟨TypeDesc.func #[24] #[27] false,1,8,[.nilf]⟩),
 (58,⟨TypeDesc.tuple #[30,4],1,0,[.unk]⟩),
 (59,⟨TypeDesc.pointer 64,1,8,[.nilp]⟩),
 (60,⟨TypeDesc.slice 39,1,24,[.sl 1 0 (fun _=>[]) .nil]⟩),
 (61,⟨Tryz.t61.desc,2,48,[.sl 1 0 (fun _=>[]) .nil,.sl 1 0 (fun _=>[]) .nil]⟩),
 (62,⟨Tryz.t61.desc,2,48,[.sl 1 0 (fun _=>[]) .nil,.sl 1 0 (fun _=>[]) .nil]⟩),
 (63,⟨Tryz.t63.desc,3,56,[.sl 1 0 (fun _=>[]) .nil,.sl 1 0 (fun _=>[]) .nil,.nilp]⟩),
 (64,⟨Tryz.t63.desc,3,56,[.sl 1 0 (fun _=>[]) .nil,.sl 1 0 (fun _=>[]) .nil,.nilp]⟩),
 (65,⟨TypeDesc.func #[22] #[22] false,1,8,[.nilf]⟩),
 (66,⟨TypeDesc.tuple #[22,3,30],1,0,[.unk]⟩),
 (67,⟨TypeDesc.func #[71,22] #[22,3,30] false,1,8,[.nilf]⟩),
 (68,⟨TypeDesc.slice 49,1,24,[.sl 1 0 (fun _=>[]) .nil]⟩),
 (69,⟨TypeDesc.slice 60,1,24,[.sl 1 0 (fun _=>[]) .nil]⟩),
 (70,⟨Tryz.t70.desc,2,48,[.sl 1 0 (fun _=>[]) .nil,.sl 1 0 (fun _=>[]) .nil]⟩),
 (71,⟨Tryz.t70.desc,2,48,[.sl 1 0 (fun _=>[]) .nil,.sl 1 0 (fun _=>[]) .nil]⟩),
 (72,⟨TypeDesc.func #[71] #[71] false,1,8,[.nilf]⟩),
 (73,⟨TypeDesc.func #[28,28] #[4] false,1,8,[.nilf]⟩),
 (74,⟨TypeDesc.func #[22,22] #[4] false,1,8,[.nilf]⟩),
 (75,⟨TypeDesc.func #[] #[24] false,1,8,[.nilf]⟩),
 (76,⟨TypeDesc.func #[22,22,77] #[4] false,1,8,[.nilf]⟩),
 (77,⟨TypeDesc.func #[55,55] #[4] false,1,8,[.nilf]⟩),
 (78,⟨TypeDesc.func #[48,3] #[4] false,1,8,[.nilf]⟩),
 (79,⟨TypeDesc.func #[48,49] #[49] false,1,8,[.nilf]⟩),
 (80,⟨TypeDesc.func #[49] #[] false,1,8,[.nilf]⟩),
 (81,⟨TypeDesc.func #[49] #[49] false,1,8,[.nilf]⟩),
 (82,⟨TypeDesc.func #[48,3] #[3] false,1,8,[.nilf]⟩),
 (83,⟨TypeDesc.func #[71,48,49] #[49] false,1,8,[.nilf]⟩),
 (84,⟨TypeDesc.func #[55] #[46] false,1,8,[.nilf]⟩),
 (85,⟨TypeDesc.func #[48] #[3] false,1,8,[.nilf]⟩),
 (86,⟨TypeDesc.func #[22,4] #[4] false,1,8,[.nilf]⟩),
 (87,⟨TypeDesc.func #[22] #[4] false,1,8,[.nilf]⟩),
 (88,⟨TypeDesc.func #[48] #[48] false,1,8,[.nilf]⟩),
 (89,⟨TypeDesc.func #[9,39] #[3] false,1,8,[.nilf]⟩),
 (90,⟨TypeDesc.func #[22,3] #[3] false,1,8,[.nilf]⟩),
 (91,⟨TypeDesc.tuple #[48,30],1,0,[.unk]⟩),
 (92,⟨TypeDesc.func #[71,48] #[48,30] false,1,8,[.nilf]⟩),
 (93,⟨TypeDesc.func #[71,9,39] #[71] false,1,8,[.nilf]⟩),
 (94,⟨TypeDesc.func #[48,48] #[4] false,1,8,[.nilf]⟩),
 (95,⟨TypeDesc.func #[9,39] #[48] false,1,8,[.nilf]⟩),
 (96,⟨TypeDesc.func #[46,51] #[4] false,1,8,[.nilf]⟩),
 (97,⟨TypeDesc.func #[22,98] #[4] false,1,8,[.nilf]⟩),
 (98,⟨TypeDesc.func #[55] #[4] false,1,8,[.nilf]⟩),
 (99,⟨TypeDesc.tuple #[59,3],1,0,[.unk]⟩),
 (100,⟨TypeDesc.func #[9] #[59,3] false,1,8,[.nilf]⟩),
 (101,⟨TypeDesc.func #[49,3,3,3] #[] false,1,8,[.nilf]⟩),
 (102,⟨TypeDesc.func #[103] #[3] false,1,8,[.nilf]⟩),
 (103,⟨TypeDesc.int .u64,1,8,[.int .u64 0]⟩),
 (104,⟨TypeDesc.tuple #[3,3,39,4],1,0,[.unk]⟩),
 (105,⟨TypeDesc.func #[71,9] #[3,3,39,4] false,1,8,[.nilf]⟩),
 (106,⟨TypeDesc.func #[49,9] #[49] false,1,8,[.nilf]⟩),
 (107,⟨TypeDesc.func #[48] #[46] false,1,8,[.nilf]⟩),
 (108,⟨TypeDesc.func #[48] #[] false,1,8,[.nilf]⟩),
 (109,⟨TypeDesc.map 9 3,1,8,[.nmap]⟩),
 (110,⟨TypeDesc.func #[9] #[4] false,1,8,[.nilf]⟩),
 (111,⟨TypeDesc.func #[112,114] #[4] false,1,8,[.nilf]⟩),
 (112,⟨TypeDesc.slice 38,1,24,[.sl 1 0 (fun _=>[]) .nil]⟩),
 (113,⟨TypeDesc.func #[22,38] #[4] false,1,8,[.nilf]⟩),
 (114,⟨TypeDesc.func #[38] #[4] false,1,8,[.nilf]⟩),
 (115,⟨TypeDesc.func #[45] #[45] false,1,8,[.nilf]⟩),
 (116,⟨TypeDesc.func #[46] #[46] false,1,8,[.nilf]⟩),
 (117,⟨TypeDesc.func #[9] #[3] false,1,8,[.nilf]⟩),
 (118,⟨TypeDesc.pointer 62,1,8,[.nilp]⟩),
 (119,⟨TypeDesc.func #[45,45] #[4] false,1,8,[.nilf]⟩),
 (120,⟨TypeDesc.func #[46,46,94] #[4] false,1,8,[.nilf]⟩),
 (121,⟨TypeDesc.func #[46,51] #[3] false,1,8,[.nilf]⟩),
 (122,⟨TypeDesc.func #[22,98] #[3] false,1,8,[.nilf]⟩),
 (123,⟨TypeDesc.func #[49,3,3] #[] false,1,8,[.nilf]⟩),
 (124,⟨TypeDesc.int .i64,1,8,[.int .i64 0]⟩),
 (125,⟨TypeDesc.tuple #[3,124],1,0,[.unk]⟩),
 (126,⟨TypeDesc.func #[49,3,3] #[3,124] false,1,8,[.nilf]⟩),
 (127,⟨TypeDesc.func #[49,3,3] #[4] false,1,8,[.nilf]⟩),
 (128,⟨TypeDesc.func #[9,9] #[4] false,1,8,[.nilf]⟩),
 (129,⟨TypeDesc.func #[49,3,3,3] #[3] false,1,8,[.nilf]⟩),
 (130,⟨TypeDesc.tuple #[3,4],1,0,[.unk]⟩),
 (131,⟨TypeDesc.func #[49,3,3,3] #[3,4] false,1,8,[.nilf]⟩),
 (132,⟨TypeDesc.func #[133] #[3] false,1,8,[.nilf]⟩),
 (133,⟨TypeDesc.int .u32,1,4,[.int .u32 0]⟩),
 (134,⟨TypeDesc.func #[135] #[3] false,1,8,[.nilf]⟩),
 (135,⟨TypeDesc.int .u64,1,8,[.int .u64 0]⟩),
 (136,⟨TypeDesc.func #[48,38] #[4] false,1,8,[.nilf]⟩),
 (137,⟨TypeDesc.func #[40] #[9] false,1,8,[.nilf]⟩),
 (138,⟨TypeDesc.func #[41] #[9] false,1,8,[.nilf]⟩),
 (139,⟨TypeDesc.func #[112,114] #[3] false,1,8,[.nilf]⟩),
 (140,⟨TypeDesc.func #[156] #[] false,1,8,[.nilf]⟩),
 (141,⟨TypeDesc.func #[156] #[] false,1,8,[.nilf]⟩),
 (142,⟨TypeDesc.func #[49] #[141] false,1,8,[.nilf]⟩),
 (143,⟨TypeDesc.func #[43,43,119] #[4] false,1,8,[.nilf]⟩),
 (144,⟨TypeDesc.int .u64,1,8,[.int .u64 0]⟩),
 (145,⟨TypeDesc.func #[3] #[103] false,1,8,[.nilf]⟩),
 (146,⟨TypeDesc.func #[] #[135] false,1,8,[.nilf]⟩),
 (147,⟨TypeDesc.func #[49,3,148] #[3] false,1,8,[.nilf]⟩),
 (148,⟨TypeDesc.pointer 3,1,8,[.nilp]⟩),
 (149,⟨TypeDesc.func #[49,3,3,3,148] #[3] false,1,8,[.nilf]⟩),
 (150,⟨TypeDesc.func #[45] #[4] false,1,8,[.nilf]⟩),
 (151,⟨TypeDesc.func #[45] #[27] false,1,8,[.nilf]⟩),
 (152,⟨TypeDesc.func #[48,60] #[4] true,1,8,[.nilf]⟩),
 (153,⟨TypeDesc.func #[60,3] #[60] false,1,8,[.nilf]⟩),
 (154,⟨TypeDesc.array 56 9,56,896,[.str [],.str [],.str [],.str [],.str [],.str [],.str [],.str [],.str [],.str [],.str [],.str [],.str [],.str [],.str [],.str [],.str [],.str [],.str [],.str [],.str [],.str [],.str [],.str [],.str [],.str [],.str [],.str [],.str [],.str [],.str [],.str [],.str [],.str [],.str [],.str [],.str [],.str [],.str [],.str [],.str [],.str [],.str [],.str [],.str [],.str [],.str [],.str [],.str [],.str [],.str [],.str [],.str [],.str [],.str [],.str []]⟩),
 (155,⟨TypeDesc.array 12 9,12,192,[.str [],.str [],.str [],.str [],.str [],.str [],.str [],.str [],.str [],.str [],.str [],.str []]⟩),
 (156,⟨TypeDesc.func #[3,9] #[4] false,1,8,[.nilf]⟩),
 (157,⟨TypeDesc.func #[48,4,4,4,4,4,4] #[4] false,1,8,[.nilf]⟩),
 (158,⟨TypeDesc.func #[41] #[39] false,1,8,[.nilf]⟩),
 (159,⟨TypeDesc.pointer 144,1,8,[.nilp]⟩),
 (160,⟨TypeDesc.tuple #[3,3],1,0,[.unk]⟩),
 (161,⟨TypeDesc.func #[49,3,3,148] #[3,3] false,1,8,[.nilf]⟩),
 (162,⟨TypeDesc.func #[45] #[27,3,3] false,1,8,[.nilf]⟩),
 (163,⟨TypeDesc.func #[3] #[4] false,1,8,[.nilf]⟩),
 (164,⟨TypeDesc.tuple #[27,3,3],1,0,[.unk]⟩),
 (165,⟨TypeDesc.func #[46,60,166] #[4] false,1,8,[.nilf]⟩),
 (166,⟨TypeDesc.func #[48,39] #[4] false,1,8,[.nilf]⟩),
 (167,⟨TypeDesc.tuple #[103,103],1,0,[.unk]⟩),
 (168,⟨TypeDesc.func #[103,103] #[103,103] false,1,8,[.nilf]⟩),
 (169,⟨TypeDesc.tuple #[27,3],1,0,[.unk]⟩),
 (170,⟨TypeDesc.func #[45] #[27,3] false,1,8,[.nilf]⟩),
 (171,⟨TypeDesc.func #[28,163] #[4] false,1,8,[.nilf]⟩),
 (172,⟨TypeDesc.func #[28] #[4] false,1,8,[.nilf]⟩),
 (173,⟨TypeDesc.func #[28] #[3] false,1,8,[.nilf]⟩),
 (174,⟨TypeDesc.tuple #[133,133],1,0,[.unk]⟩),
 (175,⟨TypeDesc.func #[133,133] #[133,133] false,1,8,[.nilf]⟩),
 (176,⟨TypeDesc.tuple #[135,135],1,0,[.unk]⟩),
 (177,⟨TypeDesc.func #[135,135] #[135,135] false,1,8,[.nilf]⟩),
 (178,⟨TypeDesc.func #[28] #[27] false,1,8,[.nilf]⟩),
 (179,⟨TypeDesc.func #[45] #[3] false,1,8,[.nilf]⟩),
 (180,⟨TypeDesc.func #[28,163] #[3] false,1,8,[.nilf]⟩),
 (181,⟨TypeDesc.func #[28,3] #[4] false,1,8,[.nilf]⟩),
 (182,⟨TypeDesc.func #[28,3] #[3] false,1,8,[.nilf]⟩),
 (183,⟨TypeDesc.func #[] #[9] false,1,8,[.nilf]⟩),
 (189,⟨TypeDesc.func #[] #[3] false,1,8,[.nilf]⟩),
 (192,⟨TypeDesc.func #[198,198] #[4] false,1,8,[.nilf]⟩),
 (193,⟨TypeDesc.pointer 5,1,8,[.nilp]⟩),
 (198,⟨TypeDesc.unsafePointer,1,8,[.nilp]⟩)]
theorem tc{P:Program}{l:List (Nat×TI)}{t:Nat}{d:TypeDesc}{a b:Nat}{z:List D}(h1:P.underlying t=some d)(h:TabOk P (GZ l))(h2:(P.info? t).map (fun i=>(i.size,i.bytes,i.zero.map fun z=>(z.cells.size,z.cells.toList.map OU)))=some (a,b,some (a,z)):=by kernel_rfl):TabOk P (GZ ((t,⟨d,a,b,z⟩)::l)):=TabOk.cons (ti:=⟨d,a,b,z⟩) h1 h2 h
theorem Gn:TabOk Tryz.prog (GZ tab) :=
 tc Tryz.underlying0 <|
 tc Tryz.underlying1 <|
 tc Tryz.underlying2 <|
 tc Tryz.underlying3 <|
 tc Tryz.underlying4 <|
 tc Tryz.underlying5 <|
 tc Tryz.underlying9 <|
 tc Tryz.underlying20 <|
 tc Tryz.underlying21 <|
 tc Tryz.underlying22 <|
 tc Tryz.underlying23 <|
 tc Tryz.underlying24 <|
 tc Tryz.underlying25 <|
 tc Tryz.underlying26 <|
 tc Tryz.underlying27 <|
 tc Tryz.underlying28 <|
 tc Tryz.underlying29 <|
 tc Tryz.underlying30 <|
 tc Tryz.underlying31 <|
 tc Tryz.underlying32 <|
 tc Tryz.underlying33 <|
 tc Tryz.underlying34 <|
 tc Tryz.underlying35 <|
 tc Tryz.underlying36 <|
 tc Tryz.underlying37 <|
 tc Tryz.underlying38 <|
 tc Tryz.underlying39 <|
 tc Tryz.underlying40 <|
 tc Tryz.underlying41 <|
 tc Tryz.underlying42 <|
 tc Tryz.underlying43 <|
 tc Tryz.underlying44 <|
 tc Tryz.underlying45 <|
 tc Tryz.underlying46 <|
 tc Tryz.underlying47 <|
 tc Tryz.underlying48 <|
 tc Tryz.underlying49 <|
 tc Tryz.underlying50 <|
 tc Tryz.underlying51 <|
 tc Tryz.underlying52 <|
 tc Tryz.underlying53 <|
 tc Tryz.underlying54 <|
 tc Tryz.underlying55 <|
 tc Tryz.underlying56 <|
 tc Tryz.underlying57 <|
 tc Tryz.underlying58 <|
 tc Tryz.underlying59 <|
 tc Tryz.underlying60 <|
 tc Tryz.underlying61 <|
 tc Tryz.underlying62 <|
 tc Tryz.underlying63 <|
 tc Tryz.underlying64 <|
 tc Tryz.underlying65 <|
 tc Tryz.underlying66 <|
 tc Tryz.underlying67 <|
 tc Tryz.underlying68 <|
 tc Tryz.underlying69 <|
 tc Tryz.underlying70 <|
 tc Tryz.underlying71 <|
 tc Tryz.underlying72 <|
 tc Tryz.underlying73 <|
 tc Tryz.underlying74 <|
 tc Tryz.underlying75 <|
 tc Tryz.underlying76 <|
 tc Tryz.underlying77 <|
 tc Tryz.underlying78 <|
 tc Tryz.underlying79 <|
 tc Tryz.underlying80 <|
 tc Tryz.underlying81 <|
 tc Tryz.underlying82 <|
 tc Tryz.underlying83 <|
 tc Tryz.underlying84 <|
 tc Tryz.underlying85 <|
 tc Tryz.underlying86 <|
 tc Tryz.underlying87 <|
 tc Tryz.underlying88 <|
 tc Tryz.underlying89 <|
 tc Tryz.underlying90 <|
 tc Tryz.underlying91 <|
 tc Tryz.underlying92 <|
 tc Tryz.underlying93 <|
 tc Tryz.underlying94 <|
 tc Tryz.underlying95 <|
 tc Tryz.underlying96 <|
 tc Tryz.underlying97 <|
 tc Tryz.underlying98 <|
 tc Tryz.underlying99 <|
 tc Tryz.underlying100 <|
 tc Tryz.underlying101 <|
 tc Tryz.underlying102 <|
 tc Tryz.underlying103 <|
 tc Tryz.underlying104 <|
 tc Tryz.underlying105 <|
 tc Tryz.underlying106 <|
 tc Tryz.underlying107 <|
 tc Tryz.underlying108 <|
 tc Tryz.underlying109 <|
 tc Tryz.underlying110 <|
 tc Tryz.underlying111 <|
 tc Tryz.underlying112 <|
 tc Tryz.underlying113 <|
 tc Tryz.underlying114 <|
 tc Tryz.underlying115 <|
 tc Tryz.underlying116 <|
 tc Tryz.underlying117 <|
 tc Tryz.underlying118 <|
 tc Tryz.underlying119 <|
 tc Tryz.underlying120 <|
 tc Tryz.underlying121 <|
 tc Tryz.underlying122 <|
 tc Tryz.underlying123 <|
 tc Tryz.underlying124 <|
 tc Tryz.underlying125 <|
 tc Tryz.underlying126 <|
 tc Tryz.underlying127 <|
 tc Tryz.underlying128 <|
 tc Tryz.underlying129 <|
 tc Tryz.underlying130 <|
 tc Tryz.underlying131 <|
 tc Tryz.underlying132 <|
 tc Tryz.underlying133 <|
 tc Tryz.underlying134 <|
 tc Tryz.underlying135 <|
 tc Tryz.underlying136 <|
 tc Tryz.underlying137 <|
 tc Tryz.underlying138 <|
 tc Tryz.underlying139 <|
 tc Tryz.underlying140 <|
 tc Tryz.underlying141 <|
 tc Tryz.underlying142 <|
 tc Tryz.underlying143 <|
 tc Tryz.underlying144 <|
 tc Tryz.underlying145 <|
 tc Tryz.underlying146 <|
 tc Tryz.underlying147 <|
 tc Tryz.underlying148 <|
 tc Tryz.underlying149 <|
 tc Tryz.underlying150 <|
 tc Tryz.underlying151 <|
 tc Tryz.underlying152 <|
 tc Tryz.underlying153 <|
 tc Tryz.underlying154 <|
 tc Tryz.underlying155 <|
 tc Tryz.underlying156 <|
 tc Tryz.underlying157 <|
 tc Tryz.underlying158 <|
 tc Tryz.underlying159 <|
 tc Tryz.underlying160 <|
 tc Tryz.underlying161 <|
 tc Tryz.underlying162 <|
 tc Tryz.underlying163 <|
 tc Tryz.underlying164 <|
 tc Tryz.underlying165 <|
 tc Tryz.underlying166 <|
 tc Tryz.underlying167 <|
 tc Tryz.underlying168 <|
 tc Tryz.underlying169 <|
 tc Tryz.underlying170 <|
 tc Tryz.underlying171 <|
 tc Tryz.underlying172 <|
 tc Tryz.underlying173 <|
 tc Tryz.underlying174 <|
 tc Tryz.underlying175 <|
 tc Tryz.underlying176 <|
 tc Tryz.underlying177 <|
 tc Tryz.underlying178 <|
 tc Tryz.underlying179 <|
 tc Tryz.underlying180 <|
 tc Tryz.underlying181 <|
 tc Tryz.underlying182 <|
 tc Tryz.underlying183 <|
 tc Tryz.underlying189 <|
 tc Tryz.underlying192 <|
 tc Tryz.underlying193 <|
 tc Tryz.underlying198 <|
 TabOk.nil _
noncomputable def G3:List (Nat×Frm):=[
 (3,{ fn:=Tryz.f3,n:=28,V:=7,cross:=[],ord:=fun _=>([],[]) }),
 (4,{ fn:=Tryz.f4,n:=31,V:=5,cross:=[],ord:=fun id=>match id with | 1=>([0,2,1,3,4,5,6,7,9,10,8,11,12,13,14,15,16,18,19,17,20,21,22,23,24,25,26],[1,3,8,11,17,20,24]) | _=>([],[]) }),
 (5,{ fn:=Tryz.f5,n:=31,V:=6,cross:=[14,18,29],ord:=fun id=>match id with | 1=>([0,2,1,3,4,5],[1,3]) | 7=>([0,1,2,3,4,5,6,7,8],[]) | _=>([],[]) }),
 (6,{ fn:=Tryz.f6,n:=65,V:=3,cross:=[4,5,6,7,20,26,47],ord:=fun _=>([],[]) }),
 (7,{ fn:=Tryz.f7,n:=46,V:=8,cross:=[15],ord:=fun _=>([],[]) }),
 (8,{ fn:=Tryz.f8,n:=30,V:=6,cross:=[9],ord:=fun _=>([],[]) }),
 (9,{ fn:=Tryz.f9,n:=33,V:=8,cross:=[11,26],ord:=fun id=>match id with | 4=>([0,2,3,1,4,5,6,7,8,9,10,11,12],[1,4,9,12]) | 6=>([0,1,2,3],[2,3]) | _=>([],[]) }),
 (10,{ fn:=Tryz.f10,n:=38,V:=5,cross:=[],ord:=fun _=>([],[]) }),
 (11,{ fn:=Tryz.f11,n:=26,V:=5,cross:=[],ord:=fun _=>([],[]) }),
 (12,{ fn:=Tryz.f12,n:=141,V:=5,cross:=[6,7,54],ord:=fun id=>match id with | 4=>([0,1,2,3,4,5,6,7,8,9,10,11,12,13,14,15,16,17,18,19,20],[17,18,19,20]) | _=>([],[]) }),
 (13,{ fn:=Tryz.f13,n:=29,V:=7,cross:=[13,28],ord:=fun _=>([],[]) }),
 (14,{ fn:=Tryz.f14,n:=29,V:=6,cross:=[11,28],ord:=fun _=>([],[]) }),
 (15,{ fn:=Tryz.f15,n:=17,V:=5,cross:=[],ord:=fun _=>([],[]) }),
 (16,{ fn:=Tryz.f16,n:=14,V:=5,cross:=[6],ord:=fun _=>([],[]) }),
 (17,{ fn:=Tryz.f17,n:=10,V:=3,cross:=[5],ord:=fun id=>match id with | 3=>([0,2,1,3,4],[1,3]) | _=>([],[]) }),
 (18,{ fn:=Tryz.f18,n:=34,V:=2,cross:=[4,5,6,7,11,17,33],ord:=fun id=>match id with | 8=>([0,1,2,3,4,5,6,7,8,9,10,11,12],[]) | _=>([],[]) }),
 (19,{ fn:=Tryz.f19,n:=10,V:=5,cross:=[],ord:=fun _=>([],[]) }),
 (20,{ fn:=Tryz.f20,n:=72,V:=5,cross:=[6,8,10,12,16,18,19,20,21,25,26,27,28,38,40,41,42,43,47,48,49,50,59,62],ord:=fun _=>([],[]) }),
 (21,{ fn:=Tryz.f21,n:=18,V:=5,cross:=[7,14],ord:=fun id=>match id with | 5=>([0,1,2,3],[2,3]) | _=>([],[]) }),
 (22,{ fn:=Tryz.f22,n:=50,V:=2,cross:=[4,5,6,7,10,11,12,13,20,33],ord:=fun id=>match id with | 10=>([0,1,2,3,4,5,6,7,8,9,10],[8,10]) | _=>([],[]) }),
 (23,{ fn:=Tryz.f23,n:=56,V:=4,cross:=[7,12,41,45,55],ord:=fun _=>([],[]) }),
 (24,{ fn:=Tryz.f24,n:=75,V:=3,cross:=[4,5,6,7,8,9,10,11,12,13,14,18,28,38,51,57],ord:=fun id=>match id with | 11=>([0,1,2,3],[3]) | 15=>([0,1,2,3],[3]) | _=>([],[]) }),
 (25,{ fn:=Tryz.f25,n:=21,V:=4,cross:=[],ord:=fun _=>([],[]) }),
 (26,{ fn:=Tryz.f26,n:=26,V:=2,cross:=[4,5,10,14,25],ord:=fun id=>match id with | 6=>([0,1,2,3,4,5,6,7,8],[]) | _=>([],[]) }),
 (27,{ fn:=Tryz.f27,n:=77,V:=2,cross:=[4,5,9,76],ord:=fun id=>match id with | 4=>([0,1,2,3,4,5,6,7,8,9,10,11,12,13,14,15,16,17,18,19,20,21,22,23,24,25,26,27,28,29,30,31,32,33,34,35,36,37,38,39,40,41,42,43,44,45,46,47,48,49,50,51,52,53,54,55,56,57,58,59,60,61,62,63,64],[48,62]) | _=>([],[]) }),
 (28,{ fn:=Tryz.f28,n:=23,V:=4,cross:=[],ord:=fun _=>([],[]) }),
 (29,{ fn:=Tryz.f29,n:=32,V:=3,cross:=[6,7,8,9,14,15,16,17,18,30],ord:=fun _=>([],[]) }),
 (30,{ fn:=Tryz.f30,n:=38,V:=5,cross:=[],ord:=fun _=>([],[]) }),
 (31,{ fn:=Tryz.f31,n:=19,V:=6,cross:=[7],ord:=fun _=>([],[]) }),
 (32,{ fn:=Tryz.f32,n:=84,V:=3,cross:=[4,6,7,8,10,11,13,16,25,32,33,34,35,46,51,52,53,54,59,72],ord:=fun id=>match id with | 19=>([0,1,2,3,4,5,6,7,8],[8]) | _=>([],[]) }),
 (33,{ fn:=Tryz.f33,n:=11,V:=1,cross:=[2],ord:=fun _=>([],[]) }),
 (34,{ fn:=Tryz.f34,n:=61,V:=1,cross:=[2,3,4,5,8,13,25,32,44],ord:=fun id=>match id with | 6=>([0,1,2,3,4,5,6,7,8,9],[]) | 11=>([0,1,2,3,4,5,6,7,8,9],[]) | _=>([],[]) }),
 (35,{ fn:=Tryz.f35,n:=65,V:=3,cross:=[4,5,6,7,9,14,31,51],ord:=fun _=>([],[]) }),
 (36,{ fn:=Tryz.f36,n:=104,V:=5,cross:=[6,7,8,9,10,11,12,13,16,27,36,53,62,87],ord:=fun id=>match id with | 8=>([0,1,2,3,4,5,6,7,8],[7]) | 14=>([0,1,2,3,4,5,6,7,8,9],[8]) | 15=>([0,1,2,3,4,5,6,7,8,9],[8]) | 17=>([0,1,2,3,4,5,6,7,8,9,10,11,12,13,14,15],[14,15]) | _=>([],[]) }),
 (37,{ fn:=Tryz.f37,n:=31,V:=5,cross:=[],ord:=fun _=>([],[]) }),
 (38,{ fn:=Tryz.f38,n:=14,V:=3,cross:=[5],ord:=fun _=>([],[]) }),
 (39,{ fn:=Tryz.f39,n:=13,V:=5,cross:=[],ord:=fun _=>([],[]) }),
 (40,{ fn:=Tryz.f40,n:=11,V:=5,cross:=[],ord:=fun _=>([],[]) }),
 (41,{ fn:=Tryz.f41,n:=128,V:=2,cross:=[4,5,6,8,9,14,15,16,17,32,37,38,57,98],ord:=fun _=>([],[]) }),
 (42,{ fn:=Tryz.f42,n:=6,V:=3,cross:=[],ord:=fun _=>([],[]) }),
 (43,{ fn:=Tryz.f43,n:=8,V:=1,cross:=[2,4],ord:=fun _=>([],[]) }),
 (44,{ fn:=Tryz.f44,n:=101,V:=2,cross:=[3,4,5,6,7,8,9,22,23,24,25,38,39,49,76,83],ord:=fun id=>match id with | 7=>([0,1,2,3,4,5,6,7],[5,7]) | 14=>([0,1,2,3,4,5,7,6,8,9,10],[6,8,10]) | 15=>([0,1,2,3,4,5,6,7,8,9,10,11],[]) | _=>([],[]) }),
 (45,{ fn:=Tryz.f45,n:=33,V:=3,cross:=[6],ord:=fun _=>([],[]) }),
 (46,{ fn:=Tryz.f46,n:=56,V:=2,cross:=[4,5,6,15,39],ord:=fun _=>([],[]) }),
 (47,{ fn:=Tryz.f47,n:=130,V:=1,cross:=[2,3,4,5,8,12,27,29,30,51,52,56,74,101,102,129],ord:=fun id=>match id with | 18=>([0,1,2,3,4,5,6,7,8,9,10,11,12,13,14,15],[]) | _=>([],[]) }),
 (48,{ fn:=Tryz.f48,n:=39,V:=1,cross:=[2,3,7,15],ord:=fun _=>([],[]) }),
 (49,{ fn:=Tryz.f49,n:=104,V:=17,cross:=[22,33,43,58,78,93],ord:=fun id=>match id with | 7=>([0,1,2,3,4,5,6,7],[6,7]) | 9=>([0,1,2,3,4,5,6,7],[6,7]) | 14=>([0,2,3,1,4,5,6,7,8,9,10,11,12],[1,4,9,12]) | 17=>([0,1,2,3],[2,3]) | 22=>([0,1,2,3,4,5,6,7,8,9,10,11,12,13],[6,10,11,12,13]) | 24=>([0,1,2,3],[2,3]) | _=>([],[]) }),
 (50,{ fn:=Tryz.f50,n:=54,V:=4,cross:=[6,7,8],ord:=fun id=>match id with | 3=>([0,1,2,3,4,5,8,9,10,11,12,14,6,7,13,15,16,17,18,19,20],[6,7,13,15,16,17,18,20]) | 4=>([0,1,2,3,4,5,8,9,10,11,12,14,6,7,13,15,16,17,18,19,20],[6,7,13,15,16,17,18,20]) | _=>([],[]) }),
 (51,{ fn:=Tryz.f51,n:=110,V:=6,cross:=[85,90,104],ord:=fun id=>match id with | 6=>([0,1,2,3,4,5,6,7,8,9,10,11],[10]) | _=>([],[]) }),
 (52,{ fn:=Tryz.f52,n:=8,V:=2,cross:=[4],ord:=fun _=>([],[]) }),
 (53,{ fn:=Tryz.f53,n:=80,V:=5,cross:=[],ord:=fun _=>([],[]) }),
 (54,{ fn:=Tryz.f54,n:=8,V:=4,cross:=[],ord:=fun _=>([],[]) }),
 (55,{ fn:=Tryz.f55,n:=9,V:=2,cross:=[4],ord:=fun _=>([],[]) }),
 (56,{ fn:=Tryz.f56,n:=9,V:=2,cross:=[4],ord:=fun _=>([],[]) }),
 (57,{ fn:=Tryz.f57,n:=19,V:=4,cross:=[],ord:=fun _=>([],[]) }),
 (58,{ fn:=Tryz.f58,n:=25,V:=2,cross:=[4,5,6,16],ord:=fun _=>([],[]) }),
 (59,{ fn:=Tryz.f59,n:=134,V:=4,cross:=[8,9,10,11,12,13,14,15,16,17,18,23,29,35,50,68,72,87,113],ord:=fun id=>match id with | 17=>([0,1,2,3,4,5,6,7,8,9,10,11,12,13,14],[12]) | _=>([],[]) }),
 (60,{ fn:=Tryz.f60,n:=8,V:=1,cross:=[2],ord:=fun _=>([],[]) }),
 (61,{ fn:=Tryz.f61,n:=55,V:=3,cross:=[4,5,6,7,8,9,10,15,31,39],ord:=fun id=>match id with | 9=>([0,1,2,3,4,5,6,7,8,9,10,11,12,13,14,15,16,17,18],[]) | _=>([],[]) }),
 (62,{ fn:=Tryz.f62,n:=47,V:=2,cross:=[4,5,6,18,32],ord:=fun _=>([],[]) }),
 (63,{ fn:=Tryz.f63,n:=59,V:=5,cross:=[],ord:=fun _=>([],[]) }),
 (64,{ fn:=Tryz.f64,n:=26,V:=4,cross:=[5,9,10,11,12],ord:=fun id=>match id with | 5=>([0,1,2,3,4,6,5,7,8,9],[5,7,8]) | _=>([],[]) }),
 (65,{ fn:=Tryz.f65,n:=8,V:=4,cross:=[],ord:=fun _=>([],[]) }),
 (66,{ fn:=Tryz.f66,n:=21,V:=4,cross:=[5,9,10,11,12,16],ord:=fun _=>([],[]) }),
 (67,{ fn:=Tryz.f67,n:=25,V:=3,cross:=[7,10],ord:=fun _=>([],[]) }),
 (68,{ fn:=Tryz.f68,n:=41,V:=3,cross:=[],ord:=fun _=>([],[]) }),
 (69,{ fn:=Tryz.f69,n:=75,V:=1,cross:=[2,3,4,5,30,32,33,34,57,60,66,68,74],ord:=fun _=>([],[]) }),
 (70,{ fn:=Tryz.f70,n:=9,V:=2,cross:=[4],ord:=fun _=>([],[]) }),
 (71,{ fn:=Tryz.f71,n:=7,V:=2,cross:=[3],ord:=fun _=>([],[]) }),
 (72,{ fn:=Tryz.f72,n:=10,V:=2,cross:=[3,4,5],ord:=fun _=>([],[]) }),
 (73,{ fn:=Tryz.f73,n:=47,V:=6,cross:=[32,33,34,35],ord:=fun id=>match id with | 1=>([0,1,2,3,4,6,7,8,10,11,12,5,9,13,14,15,16],[5,9,13,15,16]) | 7=>([0,1,2,3,4,5,6],[4,6]) | _=>([],[]) }),
 (74,{ fn:=Tryz.f74,n:=8,V:=1,cross:=[2,4],ord:=fun _=>([],[]) }),
 (75,{ fn:=Tryz.f75,n:=18,V:=2,cross:=[4],ord:=fun _=>([],[]) }),
 (76,{ fn:=Tryz.f76,n:=41,V:=3,cross:=[4,5,6,16],ord:=fun _=>([],[]) }),
 (77,{ fn:=Tryz.f77,n:=46,V:=4,cross:=[21,24,28,31,36,45],ord:=fun _=>([],[]) }),
 (78,{ fn:=Tryz.f78,n:=26,V:=3,cross:=[],ord:=fun _=>([],[]) }),
 (79,{ fn:=Tryz.f79,n:=47,V:=1,cross:=[2,3,14,18,46],ord:=fun _=>([],[]) }),
 (80,{ fn:=Tryz.f80,n:=28,V:=2,cross:=[4,5,9,27],ord:=fun _=>([],[]) }),
 (81,{ fn:=Tryz.f81,n:=55,V:=6,cross:=[35,40,54],ord:=fun id=>match id with | 6=>([0,1,2,3,4,5,6,7,8,9,10,11],[10]) | _=>([],[]) }),
 (82,{ fn:=Tryz.f82,n:=31,V:=5,cross:=[],ord:=fun _=>([],[]) }),
 (83,{ fn:=Tryz.f83,n:=32,V:=3,cross:=[6,7,8,9,14,15,16,17,18,30],ord:=fun _=>([],[]) }),
 (84,{ fn:=Tryz.f84,n:=19,V:=2,cross:=[4,5,7,8,9,16],ord:=fun _=>([],[]) }),
 (85,{ fn:=Tryz.f85,n:=19,V:=2,cross:=[4,5,7,8,9,16],ord:=fun _=>([],[]) }),
 (86,{ fn:=Tryz.f86,n:=49,V:=3,cross:=[6,7,12,30],ord:=fun id=>match id with | 4=>([0,1,2,3,4,5,6,7,8,9,10,11,12,13,14],[13]) | 6=>([0,1,2,3,4,5,6,7,8,9,10,11,12,13,14,15,16,17],[15,17]) | _=>([],[]) }),
 (87,{ fn:=Tryz.f87,n:=56,V:=3,cross:=[6,7,8,9,10,19,30],ord:=fun id=>match id with | 10=>([0,1,2,3,4,5,6,7,8,9,10,11,12,13,14,15,16,17,18,19],[17,19]) | _=>([],[]) }),
 (88,{ fn:=Tryz.f88,n:=65,V:=3,cross:=[6,7,8,9,10,15,33,43],ord:=fun id=>match id with | 10=>([0,1,2,3,4,5,6,7,8,9,10,11,12,13,14,15,16,17,18,19],[17,19]) | _=>([],[]) }),
 (89,{ fn:=Tryz.f89,n:=57,V:=3,cross:=[6,7,8,9,10,11,12,32,34,49,51,54],ord:=fun _=>([],[]) }),
 (90,{ fn:=Tryz.f90,n:=32,V:=3,cross:=[6,7,13],ord:=fun id=>match id with | 3=>([0,1,2,3,4,5,6,7,8,9,10,11,12,13,14,15],[13,15]) | _=>([],[]) }),
 (91,{ fn:=Tryz.f91,n:=133,V:=3,cross:=[6,7,8,9,10,14,32,37,41,61,65,78,98,103,116],ord:=fun id=>match id with | 5=>([0,1,2,3,4,5,6,7,8,9,10,11,12,13,14,15],[13]) | 11=>([0,1,2,3,4,5,6,7,8,9,10,11,12,13,14,15,16,17],[15,17]) | 16=>([0,1,2,3,4,5,6,7,8,9,10],[9]) | 17=>([0,1,2,3,4,5,6,7,8,9,10,11,12,13,14,15,16,17],[15,17]) | 22=>([0,1,2,3,4,5,6,7,8,9,10],[9]) | 23=>([0,1,2,3,4,5,6,7,8,9,10,11,12,13,14,15,16,17],[15,17]) | _=>([],[]) }),
 (92,{ fn:=Tryz.f92,n:=17,V:=2,cross:=[4],ord:=fun _=>([],[]) }),
 (93,{ fn:=Tryz.f93,n:=84,V:=4,cross:=[8,9,10,43,59,64],ord:=fun id=>match id with | 1=>([0,1,2,3,4,5,6,7,8,9,10,11,12,13,14,15],[13,15]) | 3=>([0,1,2,3,4,5,6,7,8,9,10,11,12,13,14],[12]) | 5=>([0,1,2,3,4,5,6,7,8,9,10,11,12,13],[12]) | 8=>([0,1,2,3,4,5,6,7,8,9,10,11,12,13,14,15],[13,15]) | _=>([],[]) }),
 (94,{ fn:=Tryz.f94,n:=168,V:=4,cross:=[8,9,10,11,43,60,65,112,129,134],ord:=fun id=>match id with | 1=>([0,1,2,3,4,5,6,7,8,9,10,11,12,13,14,15],[13,15]) | 3=>([0,1,2,3,4,5,6,7,8,9,10,11,12,13],[12]) | 5=>([0,1,2,3,4,5,6,7,8,9,10,11,12,13,14],[12]) | 8=>([0,1,2,3,4,5,6,7,8,9,10,11,12,13,14,15],[13,15]) | 10=>([0,1,2,3,4,5,6,7,8,9,10,11,12,13,14,15],[13,15]) | 13=>([0,1,2,3,4,5,6,7,8,9,10,11,12,13],[12]) | 15=>([0,1,2,3,4,5,6,7,8,9,10,11,12,13,14],[12]) | 18=>([0,1,2,3,4,5,6,7,8,9,10,11,12,13,14,15],[13,15]) | 21=>([0,1,2,3,4,5,6,7,8,9,10,11,12,13,14,15],[13,15]) | _=>([],[]) }),
 (95,{ fn:=Tryz.f95,n:=19,V:=1,cross:=[2,4,8],ord:=fun _=>([],[]) }),
 (96,{ fn:=Tryz.f96,n:=25,V:=1,cross:=[2,4,8,14],ord:=fun _=>([],[]) }),
 (97,{ fn:=Tryz.f97,n:=75,V:=3,cross:=[4],ord:=fun _=>([],[]) }),
 (98,{ fn:=Tryz.f98,n:=55,V:=5,cross:=[26,34,35,40,41,47,48,51],ord:=fun id=>match id with | 3=>([0,1,3,4,2,5,6,7],[2,5]) | _=>([],[]) }),
 (99,{ fn:=Tryz.f99,n:=104,V:=7,cross:=[10,12,13,49,64,71,82,89,93],ord:=fun _=>([],[]) }),
 (100,{ fn:=Tryz.f100,n:=146,V:=7,cross:=[8,9,37,50,64,76,87,110,117],ord:=fun id=>match id with | 4=>([0,1,2,3,4,5,6,7,8,9,10,11,12,13,14,15,16,17,18,20,21,22,19,23,24,25,26],[19,23,24]) | _=>([],[]) }),
 (101,{ fn:=Tryz.f101,n:=6,V:=3,cross:=[],ord:=fun _=>([],[]) }),
 (102,{ fn:=Tryz.f102,n:=14,V:=1,cross:=[2,3,10],ord:=fun _=>([],[]) }),
 (103,{ fn:=Tryz.f103,n:=14,V:=1,cross:=[2,3,10],ord:=fun _=>([],[]) }),
 (104,{ fn:=Tryz.f104,n:=19,V:=2,cross:=[4,5,7,8,9,16],ord:=fun _=>([],[]) }),
 (105,{ fn:=Tryz.f105,n:=20,V:=5,cross:=[],ord:=fun _=>([],[]) }),
 (106,{ fn:=Tryz.f106,n:=8,V:=4,cross:=[],ord:=fun id=>match id with | 1=>([0,2,1,3,4],[1,3]) | _=>([],[]) }),
 (107,{ fn:=Tryz.f107,n:=4,V:=3,cross:=[],ord:=fun _=>([],[]) }),
 (108,{ fn:=Tryz.f108,n:=49,V:=5,cross:=[31,38,42],ord:=fun id=>match id with | 3=>([0,1,3,4,2,5,6,7],[2,5]) | _=>([],[]) }),
 (109,{ fn:=Tryz.f109,n:=122,V:=4,cross:=[5,6,44,63,74,93,104],ord:=fun id=>match id with | 19=>([0,1,2,3,4,5,6,7,8,9,10,11,12,13,14,15,16],[1,5,13]) | _=>([],[]) }),
 (110,{ fn:=Tryz.f110,n:=119,V:=4,cross:=[6,8,9,15,24,40,50,60,70,82,99],ord:=fun _=>([],[]) }),
 (111,{ fn:=Tryz.f111,n:=89,V:=6,cross:=[64,69,83],ord:=fun id=>match id with | 6=>([0,1,2,3,4,5,6,7,8,9,10,11],[10]) | _=>([],[]) }),
 (112,{ fn:=Tryz.f112,n:=9,V:=1,cross:=[2],ord:=fun _=>([],[]) }),
 (113,{ fn:=Tryz.f113,n:=24,V:=3,cross:=[4,5,9,14,23],ord:=fun _=>([],[]) }),
 (114,{ fn:=Tryz.f114,n:=26,V:=2,cross:=[4,5,10,14,25],ord:=fun id=>match id with | 6=>([0,1,2,3,4,5,6,7,8],[]) | _=>([],[]) }),
 (115,{ fn:=Tryz.f115,n:=26,V:=2,cross:=[4,5,10,12,13,14,24],ord:=fun id=>match id with | 6=>([0,1,2,3,4,5,6,7,8],[]) | _=>([],[]) }),
 (116,{ fn:=Tryz.f116,n:=32,V:=3,cross:=[6,7,8,9,14,15,16,17,18,30],ord:=fun _=>([],[]) }),
 (117,{ fn:=Tryz.f117,n:=76,V:=4,cross:=[8,9,16,36,52],ord:=fun id=>match id with | 3=>([0,1,2,3,4,5,6,7,8,9,10,11,12,13,14,15,16,17,18,19],[18]) | 5=>([0,1,2,3,4,5,6,7,8,9,10,11,12,13],[12]) | 6=>([0,1,2,3,4,5,6,7,8,9,10,11,12,13,14,15,16,17,18,19,20,21,22,23],[21,23]) | _=>([],[]) }),
 (118,{ fn:=Tryz.f118,n:=7,V:=1,cross:=[2],ord:=fun _=>([],[]) }),
 (119,{ fn:=Tryz.f119,n:=33,V:=1,cross:=[2],ord:=fun id=>match id with | 1=>([0,1,2,3,4,5,6,7,8,9],[9]) | 2=>([0,1,2,3,4,5,6,7,8,9],[9]) | 3=>([0,1,2,3,4,5,6,7,8,9],[9]) | _=>([],[]) }),
 (120,{ fn:=Tryz.f120,n:=15,V:=3,cross:=[6],ord:=fun _=>([],[]) }),
 (121,{ fn:=Tryz.f121,n:=36,V:=5,cross:=[10],ord:=fun _=>([],[]) }),
 (122,{ fn:=Tryz.f122,n:=6,V:=1,cross:=[2],ord:=fun _=>([],[]) }),
 (123,{ fn:=Tryz.f123,n:=24,V:=3,cross:=[],ord:=fun _=>([],[]) }),
 (124,{ fn:=Tryz.f124,n:=16,V:=7,cross:=[],ord:=fun _=>([],[]) }),
 (125,{ fn:=Tryz.f125,n:=9,V:=3,cross:=[4],ord:=fun _=>([],[]) }),
 (126,{ fn:=Tryz.f126,n:=48,V:=2,cross:=[4,5,6,7,8,10,26,37],ord:=fun id=>match id with | 9=>([0,1,2,3,4,5,6,7,8,9],[7]) | _=>([],[]) }),
 (127,{ fn:=Tryz.f127,n:=19,V:=2,cross:=[3,8,18],ord:=fun _=>([],[]) }),
 (128,{ fn:=Tryz.f128,n:=64,V:=8,cross:=[14],ord:=fun _=>([],[]) }),
 (129,{ fn:=Tryz.f129,n:=11,V:=5,cross:=[],ord:=fun _=>([],[]) }),
 (130,{ fn:=Tryz.f130,n:=11,V:=1,cross:=[2,8,10],ord:=fun _=>([],[]) }),
 (131,{ fn:=Tryz.f131,n:=29,V:=3,cross:=[4,5,11,15,28],ord:=fun id=>match id with | 6=>([0,1,2,3,4,5,6,7,8,9,10],[]) | _=>([],[]) }),
 (132,{ fn:=Tryz.f132,n:=21,V:=3,cross:=[],ord:=fun _=>([],[]) }),
 (133,{ fn:=Tryz.f133,n:=64,V:=2,cross:=[4,5,9,63],ord:=fun id=>match id with | 4=>([0,1,2,3,4,5,6,7,8,9,10,11,12,13,14,15,16,17,18,19,20,21,22,23,24,25,26,27,28,29,30,31,32,33,34,35,36,37,38,39,40,41,42,43,44,45,46,47,48,49,50,51],[35,49]) | _=>([],[]) }),
 (134,{ fn:=Tryz.f134,n:=57,V:=2,cross:=[4,5,6,9,13,19,27,56],ord:=fun _=>([],[]) }),
 (135,{ fn:=Tryz.f135,n:=28,V:=4,cross:=[8,9,18],ord:=fun id=>match id with | 1=>([0,1,2,3,4,5,6,7,8],[8]) | _=>([],[]) }),
 (136,{ fn:=Tryz.f136,n:=87,V:=7,cross:=[8,9,10,12,13,14,15,19,22,23,24,25,45,55,56,57,58,69,84],ord:=fun id=>match id with | 10=>([0,1,2,3,4,5,6,7,8],[]) | _=>([],[]) }),
 (137,{ fn:=Tryz.f137,n:=44,V:=5,cross:=[12,13,16,20,25,29,34],ord:=fun id=>match id with | 1=>([0,1,2,3,4,5,6,7],[]) | _=>([],[]) }),
 (138,{ fn:=Tryz.f138,n:=9,V:=1,cross:=[2],ord:=fun _=>([],[]) }),
 (139,{ fn:=Tryz.f139,n:=17,V:=1,cross:=[2],ord:=fun _=>([],[]) }),
 (140,{ fn:=Tryz.f140,n:=32,V:=3,cross:=[6,7,8,9,14,15,16,17,18,30],ord:=fun _=>([],[]) }),
 (141,{ fn:=Tryz.f141,n:=9,V:=3,cross:=[4],ord:=fun _=>([],[]) }),
 (142,{ fn:=Tryz.f142,n:=30,V:=2,cross:=[4,5,6,7,8,9],ord:=fun _=>([],[]) }),
 (143,{ fn:=Tryz.f143,n:=107,V:=11,cross:=[18,23,30,43,48,76,81,94,105],ord:=fun id=>match id with | 9=>([0,2,3,1,4,5,6,7,8,9],[1,4]) | _=>([],[]) }),
 (144,{ fn:=Tryz.f144,n:=9,V:=2,cross:=[4],ord:=fun _=>([],[]) }),
 (145,{ fn:=Tryz.f145,n:=5,V:=1,cross:=[2],ord:=fun _=>([],[]) }),
 (146,{ fn:=Tryz.f146,n:=31,V:=1,cross:=[2,3,5,8,9,10,11,12,15,22,29],ord:=fun _=>([],[]) }),
 (147,{ fn:=Tryz.f147,n:=8,V:=1,cross:=[2,5],ord:=fun _=>([],[]) }),
 (148,{ fn:=Tryz.f148,n:=17,V:=2,cross:=[4,5,6],ord:=fun _=>([],[]) }),
 (149,{ fn:=Tryz.f149,n:=51,V:=2,cross:=[4,5,6,7,8,9,10,11,12,13],ord:=fun _=>([],[]) }),
 (150,{ fn:=Tryz.f150,n:=21,V:=1,cross:=[2,3,6,10,17,20],ord:=fun _=>([],[]) }),
 (151,{ fn:=Tryz.f151,n:=16,V:=3,cross:=[4,5,11],ord:=fun _=>([],[]) }),
 (152,{ fn:=Tryz.f152,n:=17,V:=1,cross:=[2,3,7,14],ord:=fun _=>([],[]) }),
 (153,{ fn:=Tryz.f153,n:=9,V:=1,cross:=[2],ord:=fun _=>([],[]) }),
 (154,{ fn:=Tryz.f154,n:=17,V:=1,cross:=[2],ord:=fun _=>([],[]) }),
 (155,{ fn:=Tryz.f155,n:=33,V:=5,cross:=[20],ord:=fun _=>([],[]) }),
 (156,{ fn:=Tryz.f156,n:=19,V:=2,cross:=[4,5,7,8,9,16],ord:=fun _=>([],[]) }),
 (157,{ fn:=Tryz.f157,n:=19,V:=1,cross:=[2,3,5,7,8,9,10,11],ord:=fun _=>([],[]) }),
 (158,{ fn:=Tryz.f158,n:=30,V:=1,cross:=[2,3,4,8,15,20,28],ord:=fun _=>([],[]) }),
 (159,{ fn:=Tryz.f159,n:=9,V:=2,cross:=[4],ord:=fun _=>([],[]) }),
 (160,{ fn:=Tryz.f160,n:=19,V:=2,cross:=[4,5,7,8,9,16],ord:=fun _=>([],[]) })]
abbrev eqs:List Nat:=[]
theorem Gx:∀t,eqs.contains t=true->Tryz.prog.eqGuardType Tryz.prog.depth t=false/\Tryz.prog.stoodInHeld t=false:=by
 intro t h
 exact absurd h (by simp[eqs])
theorem CR:FrmOk Tryz.prog (Ee G3) :=
 FrmOk.cons Tryz.func3 rfl (by decide) <|
 FrmOk.cons Tryz.func4 rfl (by decide) <|
 FrmOk.cons Tryz.func5 rfl (by decide) <|
 FrmOk.cons Tryz.func6 rfl (by decide) <|
 FrmOk.cons Tryz.func7 rfl (by decide) <|
 FrmOk.cons Tryz.func8 rfl (by decide) <|
 FrmOk.cons Tryz.func9 rfl (by decide) <|
 FrmOk.cons Tryz.func10 rfl (by decide) <|
 FrmOk.cons Tryz.func11 rfl (by decide) <|
 FrmOk.cons Tryz.func12 rfl (by decide) <|
 FrmOk.cons Tryz.func13 rfl (by decide) <|
 FrmOk.cons Tryz.func14 rfl (by decide) <|
 FrmOk.cons Tryz.func15 rfl (by decide) <|
 FrmOk.cons Tryz.func16 rfl (by decide) <|
 FrmOk.cons Tryz.func17 rfl (by decide) <|
 FrmOk.cons Tryz.func18 rfl (by decide) <|
 FrmOk.cons Tryz.func19 rfl (by decide) <|
 FrmOk.cons Tryz.func20 rfl (by decide) <|
 FrmOk.cons Tryz.func21 rfl (by decide) <|
 FrmOk.cons Tryz.func22 rfl (by decide) <|
 FrmOk.cons Tryz.func23 rfl (by decide) <|
 FrmOk.cons Tryz.func24 rfl (by decide) <|
 FrmOk.cons Tryz.func25 rfl (by decide) <|
 FrmOk.cons Tryz.func26 rfl (by decide) <|
 FrmOk.cons Tryz.func27 rfl (by decide) <|
 FrmOk.cons Tryz.func28 rfl (by decide) <|
 FrmOk.cons Tryz.func29 rfl (by decide) <|
 FrmOk.cons Tryz.func30 rfl (by decide) <|
 FrmOk.cons Tryz.func31 rfl (by decide) <|
 FrmOk.cons Tryz.func32 rfl (by decide) <|
 FrmOk.cons Tryz.func33 rfl (by decide) <|
 FrmOk.cons Tryz.func34 rfl (by decide) <|
 FrmOk.cons Tryz.func35 rfl (by decide) <|
 FrmOk.cons Tryz.func36 rfl (by decide) <|
 FrmOk.cons Tryz.func37 rfl (by decide) <|
 FrmOk.cons Tryz.func38 rfl (by decide) <|
 FrmOk.cons Tryz.func39 rfl (by decide) <|
 FrmOk.cons Tryz.func40 rfl (by decide) <|
 FrmOk.cons Tryz.func41 rfl (by decide) <|
 FrmOk.cons Tryz.func42 rfl (by decide) <|
 FrmOk.cons Tryz.func43 rfl (by decide) <|
 FrmOk.cons Tryz.func44 rfl (by decide) <|
 FrmOk.cons Tryz.func45 rfl (by decide) <|
 FrmOk.cons Tryz.func46 rfl (by decide) <|
 FrmOk.cons Tryz.func47 rfl (by decide) <|
 FrmOk.cons Tryz.func48 rfl (by decide) <|
 FrmOk.cons Tryz.func49 rfl (by decide) <|
 FrmOk.cons Tryz.func50 rfl (by decide) <|
 FrmOk.cons Tryz.func51 rfl (by decide) <|
 FrmOk.cons Tryz.func52 rfl (by decide) <|
 FrmOk.cons Tryz.func53 rfl (by decide) <|
 FrmOk.cons Tryz.func54 rfl (by decide) <|
 FrmOk.cons Tryz.func55 rfl (by decide) <|
 FrmOk.cons Tryz.func56 rfl (by decide) <|
 FrmOk.cons Tryz.func57 rfl (by decide) <|
 FrmOk.cons Tryz.func58 rfl (by decide) <|
 FrmOk.cons Tryz.func59 rfl (by decide) <|
 FrmOk.cons Tryz.func60 rfl (by decide) <|
 FrmOk.cons Tryz.func61 rfl (by decide) <|
 FrmOk.cons Tryz.func62 rfl (by decide) <|
 FrmOk.cons Tryz.func63 rfl (by decide) <|
 FrmOk.cons Tryz.func64 rfl (by decide) <|
 FrmOk.cons Tryz.func65 rfl (by decide) <|
 FrmOk.cons Tryz.func66 rfl (by decide) <|
 FrmOk.cons Tryz.func67 rfl (by decide) <|
 FrmOk.cons Tryz.func68 rfl (by decide) <|
 FrmOk.cons Tryz.func69 rfl (by decide) <|
 FrmOk.cons Tryz.func70 rfl (by decide) <|
 FrmOk.cons Tryz.func71 rfl (by decide) <|
 FrmOk.cons Tryz.func72 rfl (by decide) <|
 FrmOk.cons Tryz.func73 rfl (by decide) <|
 FrmOk.cons Tryz.func74 rfl (by decide) <|
 FrmOk.cons Tryz.func75 rfl (by decide) <|
 FrmOk.cons Tryz.func76 rfl (by decide) <|
 FrmOk.cons Tryz.func77 rfl (by decide) <|
 FrmOk.cons Tryz.func78 rfl (by decide) <|
 FrmOk.cons Tryz.func79 rfl (by decide) <|
 FrmOk.cons Tryz.func80 rfl (by decide) <|
 FrmOk.cons Tryz.func81 rfl (by decide) <|
 FrmOk.cons Tryz.func82 rfl (by decide) <|
 FrmOk.cons Tryz.func83 rfl (by decide) <|
 FrmOk.cons Tryz.func84 rfl (by decide) <|
 FrmOk.cons Tryz.func85 rfl (by decide) <|
 FrmOk.cons Tryz.func86 rfl (by decide) <|
 FrmOk.cons Tryz.func87 rfl (by decide) <|
 FrmOk.cons Tryz.func88 rfl (by decide) <|
 FrmOk.cons Tryz.func89 rfl (by decide) <|
 FrmOk.cons Tryz.func90 rfl (by decide) <|
 FrmOk.cons Tryz.func91 rfl (by decide) <|
 FrmOk.cons Tryz.func92 rfl (by decide) <|
 FrmOk.cons Tryz.func93 rfl (by decide) <|
 FrmOk.cons Tryz.func94 rfl (by decide) <|
 FrmOk.cons Tryz.func95 rfl (by decide) <|
 FrmOk.cons Tryz.func96 rfl (by decide) <|
 FrmOk.cons Tryz.func97 rfl (by decide) <|
 FrmOk.cons Tryz.func98 rfl (by decide) <|
 FrmOk.cons Tryz.func99 rfl (by decide) <|
 FrmOk.cons Tryz.func100 rfl (by decide) <|
 FrmOk.cons Tryz.func101 rfl (by decide) <|
 FrmOk.cons Tryz.func102 rfl (by decide) <|
 FrmOk.cons Tryz.func103 rfl (by decide) <|
 FrmOk.cons Tryz.func104 rfl (by decide) <|
 FrmOk.cons Tryz.func105 rfl (by decide) <|
 FrmOk.cons Tryz.func106 rfl (by decide) <|
 FrmOk.cons Tryz.func107 rfl (by decide) <|
 FrmOk.cons Tryz.func108 rfl (by decide) <|
 FrmOk.cons Tryz.func109 rfl (by decide) <|
 FrmOk.cons Tryz.func110 rfl (by decide) <|
 FrmOk.cons Tryz.func111 rfl (by decide) <|
 FrmOk.cons Tryz.func112 rfl (by decide) <|
 FrmOk.cons Tryz.func113 rfl (by decide) <|
 FrmOk.cons Tryz.func114 rfl (by decide) <|
 FrmOk.cons Tryz.func115 rfl (by decide) <|
 FrmOk.cons Tryz.func116 rfl (by decide) <|
 FrmOk.cons Tryz.func117 rfl (by decide) <|
 FrmOk.cons Tryz.func118 rfl (by decide) <|
 FrmOk.cons Tryz.func119 rfl (by decide) <|
 FrmOk.cons Tryz.func120 rfl (by decide) <|
 FrmOk.cons Tryz.func121 rfl (by decide) <|
 FrmOk.cons Tryz.func122 rfl (by decide) <|
 FrmOk.cons Tryz.func123 rfl (by decide) <|
 FrmOk.cons Tryz.func124 rfl (by decide) <|
 FrmOk.cons Tryz.func125 rfl (by decide) <|
 FrmOk.cons Tryz.func126 rfl (by decide) <|
 FrmOk.cons Tryz.func127 rfl (by decide) <|
 FrmOk.cons Tryz.func128 rfl (by decide) <|
 FrmOk.cons Tryz.func129 rfl (by decide) <|
 FrmOk.cons Tryz.func130 rfl (by decide) <|
 FrmOk.cons Tryz.func131 rfl (by decide) <|
 FrmOk.cons Tryz.func132 rfl (by decide) <|
 FrmOk.cons Tryz.func133 rfl (by decide) <|
 FrmOk.cons Tryz.func134 rfl (by decide) <|
 FrmOk.cons Tryz.func135 rfl (by decide) <|
 FrmOk.cons Tryz.func136 rfl (by decide) <|
 FrmOk.cons Tryz.func137 rfl (by decide) <|
 FrmOk.cons Tryz.func138 rfl (by decide) <|
 FrmOk.cons Tryz.func139 rfl (by decide) <|
 FrmOk.cons Tryz.func140 rfl (by decide) <|
 FrmOk.cons Tryz.func141 rfl (by decide) <|
 FrmOk.cons Tryz.func142 rfl (by decide) <|
 FrmOk.cons Tryz.func143 rfl (by decide) <|
 FrmOk.cons Tryz.func144 rfl (by decide) <|
 FrmOk.cons Tryz.func145 rfl (by decide) <|
 FrmOk.cons Tryz.func146 rfl (by decide) <|
 FrmOk.cons Tryz.func147 rfl (by decide) <|
 FrmOk.cons Tryz.func148 rfl (by decide) <|
 FrmOk.cons Tryz.func149 rfl (by decide) <|
 FrmOk.cons Tryz.func150 rfl (by decide) <|
 FrmOk.cons Tryz.func151 rfl (by decide) <|
 FrmOk.cons Tryz.func152 rfl (by decide) <|
 FrmOk.cons Tryz.func153 rfl (by decide) <|
 FrmOk.cons Tryz.func154 rfl (by decide) <|
 FrmOk.cons Tryz.func155 rfl (by decide) <|
 FrmOk.cons Tryz.func156 rfl (by decide) <|
 FrmOk.cons Tryz.func157 rfl (by decide) <|
 FrmOk.cons Tryz.func158 rfl (by decide) <|
 FrmOk.cons Tryz.func159 rfl (by decide) <|
 FrmOk.cons Tryz.func160 rfl (by decide) <|
 FrmOk.nil _
end Go.Proofs.YtfbfnhbafjmnaaaGreat
namespace Go.Proofs
open Go.Shelf
def Tryz.lays190_ren:Go.Shelf.Ren:=⟨fun | 190=>33 | 125=>60 | 258=>59 | 128=>95 | 129=>96 | 302=>86 | 303=>87 | 304=>88 | 305=>89 | 306=>90 | 307=>91 | 308=>92 | 309=>93 | 310=>94 | 333=>117 | 329=>118 | 330=>119 | 334=>120 | 335=>121 | 336=>122 | 344=>135 | n=>n,fun | 31=>49 | 9=>9 | 3=>3 | 46=>103 | 0=>0 | 51=>133 | 53=>135 | 4=>4 | 183=>125 | 182=>124 | 131=>130 | 5=>5 | 218=>144 | 222=>148 | 228=>159 | 229=>160 | n=>n,fun | n=>n⟩
theorem Tryz.lays190:Go.Proofs.Lays.n190 Tryz.prog Tryz.lays190_ren:={
 mixed:=by kernel_rfl
 f125:=Tryz.func60.trans (congrArg some (by kernel_rfl))
 f128:=Tryz.func95.trans (congrArg some (by kernel_rfl))
 f129:=Tryz.func96.trans (congrArg some (by kernel_rfl))
 f190:=Tryz.func33.trans (congrArg some (by kernel_rfl))
 f258:=Tryz.func59.trans (congrArg some (by kernel_rfl))
 f302:=Tryz.func86.trans (congrArg some (by kernel_rfl))
 f303:=Tryz.func87.trans (congrArg some (by kernel_rfl))
 f304:=Tryz.func88.trans (congrArg some (by kernel_rfl))
 f305:=Tryz.func89.trans (congrArg some (by kernel_rfl))
 f306:=Tryz.func90.trans (congrArg some (by kernel_rfl))
 f307:=Tryz.func91.trans (congrArg some (by kernel_rfl))
 f308:=Tryz.func92.trans (congrArg some (by kernel_rfl))
 f309:=Tryz.func93.trans (congrArg some (by kernel_rfl))
 f310:=Tryz.func94.trans (congrArg some (by kernel_rfl))
 f329:=Tryz.func118.trans (congrArg some (by kernel_rfl))
 f330:=Tryz.func119.trans (congrArg some (by kernel_rfl))
 f333:=Tryz.func117.trans (congrArg some (by kernel_rfl))
 f334:=Tryz.func120.trans (congrArg some (by kernel_rfl))
 f335:=Tryz.func121.trans (congrArg some (by kernel_rfl))
 f336:=Tryz.func122.trans (congrArg some (by kernel_rfl))
 f344:=Tryz.func135.trans (congrArg some (by kernel_rfl))
 t0:=Tryz.underlying0
 a0:=Tryz.isAgg0
 z0:=Tryz.sizeOf0
 v0:=Tryz.zeroValue0
 t3:=Tryz.underlying3
 a3:=Tryz.isAgg3
 z3:=Tryz.sizeOf3
 v3:=Tryz.zeroValue3
 t4:=Tryz.underlying4
 a4:=Tryz.isAgg4
 z4:=Tryz.sizeOf4
 v4:=Tryz.zeroValue4
 t5:=Tryz.underlying5
 a5:=Tryz.isAgg5
 z5:=Tryz.sizeOf5
 v5:=Tryz.zeroValue5
 t9:=Tryz.underlying9
 a9:=Tryz.isAgg9
 z9:=Tryz.sizeOf9
 v9:=Tryz.zeroValue9
 t31:=Tryz.underlying49
 a31:=Tryz.isAgg49
 z31:=Tryz.sizeOf49
 v31:=Tryz.zeroValue49
 t46:=Tryz.underlying103
 a46:=Tryz.isAgg103
 z46:=Tryz.sizeOf103
 v46:=Tryz.zeroValue103
 t51:=Tryz.underlying133
 a51:=Tryz.isAgg133
 z51:=Tryz.sizeOf133
 v51:=Tryz.zeroValue133
 t53:=Tryz.underlying135
 a53:=Tryz.isAgg135
 z53:=Tryz.sizeOf135
 v53:=Tryz.zeroValue135
 t131:=Tryz.underlying130
 a131:=Tryz.isAgg130
 z131:=Tryz.sizeOf130
 v131:=Tryz.zeroValue130
 t182:=Tryz.underlying124
 a182:=Tryz.isAgg124
 z182:=Tryz.sizeOf124
 v182:=Tryz.zeroValue124
 t183:=Tryz.underlying125
 a183:=Tryz.isAgg125
 z183:=Tryz.sizeOf125
 v183:=Tryz.zeroValue125
 t218:=Tryz.underlying144
 a218:=Tryz.isAgg144
 z218:=Tryz.sizeOf144
 v218:=Tryz.zeroValue144
 t222:=Tryz.underlying148
 a222:=Tryz.isAgg148
 z222:=Tryz.sizeOf148
 v222:=Tryz.zeroValue148
 t228:=Tryz.underlying159
 a228:=Tryz.isAgg159
 z228:=Tryz.sizeOf159
 v228:=Tryz.zeroValue159
 t229:=Tryz.underlying160
 a229:=Tryz.isAgg160
 z229:=Tryz.sizeOf160
 v229:=Tryz.zeroValue160 }
open Go.Sort Go.RowKit in
theorem Tryz.slices_Sort_string(blk off cap : Nat)(ss : List (List UInt8))(w : World)(hH : Holds encStr w blk off ss.toArray)(hblk : blk<w.heap.size)(hsz : ss.length<4611686018427387904) :
  Calls Tryz.prog 33 #[.slice (some ⟨blk,off,none⟩) ss.length cap] w fun e w' =>
   e=.returned (.tuple #[])/\∃n os,w'=grow (putRow encStr (Sort.ahead w n) blk off (ss.mergeSort fun x y=>decide (x<=y)).toArray) os:=Any.slices_Sort_string Tryz.lays190 blk off cap ss w hH hblk hsz
def Tryz.lays212_ren:Go.Shelf.Ren:=⟨fun | 212=>142 | 263=>148 | 264=>149 | n=>n,fun | 46=>103 | 51=>133 | 146=>174 | 53=>135 | 148=>176 | n=>n,fun | n=>n⟩
theorem Tryz.lays212:Go.Proofs.Lays.n212 Tryz.prog Tryz.lays212_ren:={
 mixed:=by kernel_rfl
 f212:=Tryz.func142.trans (congrArg some (by kernel_rfl))
 f263:=Tryz.func148.trans (congrArg some (by kernel_rfl))
 f264:=Tryz.func149.trans (congrArg some (by kernel_rfl))
 t46:=Tryz.underlying103
 a46:=Tryz.isAgg103
 z46:=Tryz.sizeOf103
 v46:=Tryz.zeroValue103
 t51:=Tryz.underlying133
 a51:=Tryz.isAgg133
 z51:=Tryz.sizeOf133
 v51:=Tryz.zeroValue133
 t53:=Tryz.underlying135
 a53:=Tryz.isAgg135
 z53:=Tryz.sizeOf135
 v53:=Tryz.zeroValue135
 t146:=Tryz.underlying174
 a146:=Tryz.isAgg174
 z146:=Tryz.sizeOf174
 v146:=Tryz.zeroValue174
 t148:=Tryz.underlying176
 a148:=Tryz.isAgg176
 z148:=Tryz.sizeOf176
 v148:=Tryz.zeroValue176 }
open Go.RowKit Go.Lib in
theorem Tryz.bits_Mul(x y : Nat)(hx : x<18446744073709551616)(hy : y<18446744073709551616)(w : World) :
  Calls Tryz.prog 142 #[.int .u64 x,.int .u64 y] w fun e w'=>e=.returned (.tuple #[.int .u64 ((x*y / 18446744073709551616:Nat):Int),.int .u64 ((x*y % 18446744073709551616:Nat):Int)])/\w'=w:=Any.bits_Mul Tryz.lays212 x y hx hy w
def Tryz.lays194_ren:Go.Shelf.Ren:=⟨fun | 194=>34 | n=>n,fun | 31=>49 | 9=>9 | 3=>3 | 4=>4 | 0=>0 | n=>n,fun | n=>n⟩
theorem Tryz.lays194:Go.Proofs.Lays.n194 Tryz.prog Tryz.lays194_ren:={
 mixed:=by kernel_rfl
 f194:=Tryz.func34.trans (congrArg some (by kernel_rfl))
 t0:=Tryz.underlying0
 a0:=Tryz.isAgg0
 z0:=Tryz.sizeOf0
 v0:=Tryz.zeroValue0
 t3:=Tryz.underlying3
 a3:=Tryz.isAgg3
 z3:=Tryz.sizeOf3
 v3:=Tryz.zeroValue3
 t4:=Tryz.underlying4
 a4:=Tryz.isAgg4
 z4:=Tryz.sizeOf4
 v4:=Tryz.zeroValue4
 t9:=Tryz.underlying9
 a9:=Tryz.isAgg9
 z9:=Tryz.sizeOf9
 v9:=Tryz.zeroValue9
 t31:=Tryz.underlying49
 a31:=Tryz.isAgg49
 z31:=Tryz.sizeOf49
 v31:=Tryz.zeroValue49 }
open Go.RowKit Go.Lib Go.Sort in
theorem Tryz.slices_Compact_string(blk off cap : Nat)(zs : List (List UInt8))(w : World)(hH : Holds encStr w blk off zs.toArray)(hsz : zs.length<=9223372036854775807)(hcap : zs.length<=cap) :
  Calls Tryz.prog 34 #[.slice (some ⟨blk,off,none⟩) zs.length cap] w fun e w'=>e=.returned (.slice (some ⟨blk,off,none⟩) (Lib.compact zs).length cap)/\∃q,w'=putRow encStr (Sort.ahead w q) blk off (Lib.compact zs++List.replicate (zs.length-(Lib.compact zs).length) []).toArray:=Any.slices_Compact_string Tryz.lays194 blk off cap zs w hH hsz hcap
open Go.RowKit Go.Lib Go.Sort in
theorem Tryz.slices_Compact_string_empty(a : Option Addr)(cap : Nat)(w : World) :
  Calls Tryz.prog 34 #[.slice a 0 cap] w fun e w'=>e=.returned (.slice a 0 cap)/\w'=w:=Any.slices_Compact_string_empty Tryz.lays194 a cap w
open Go.RowKit Go.Sort in
theorem Tryz.slices_Sort_string_none(p : Option Addr)(cap : Nat)(w : World) :
  Calls Tryz.prog 33 #[.slice p 0 cap] w fun e w'=>e=.returned (.tuple #[])/\w'=w:=Any.slices_Sort_string_none Tryz.lays190 p cap w
end Go.Proofs
namespace Go.Proofs.YtfbfnhbafjmnaaaGreat
open Go Go.Ab
theorem mix:Tryz.prog.follows .mixedOrders=true:=by kernel_rfl
def SM{α:Type}(x:α):Prop:=x=x
def Z0:Int:=0
def Z1:Int:=1
def N0:Nat:=0
def N1:Nat:=1
def N2:Nat:=2
def N4:Nat:=4
def N6:Nat:=6
def U0:UInt8:=0
def LN{α:Type}(l:List α):Nat:=List.length l
def LI{α:Type}(l:List α):Int:=(↑(List.length l):Int)
def BI(l:List UInt8)(i:Nat):Int:=(↑(UInt8.toNat (List.getD l i (0:UInt8))):Int)
def NI(x:Nat):Int:=(↑x:Int)
def TN(x:Nat):Nat:=Int.toNat (↑x:Int)
def GI(l:List Int)(i:Nat):Int:=List.getD l i (0:Int)
def ZI(a:Int):D:=D.int IntKind.i64 a
def SI(l:List Int):D:=D.sl 1 (List.length l) (fun i=>[D.int IntKind.i64 (List.getD l i (0:Int))]) Mode.any
abbrev Con:=Nat->List D->St->Option FnSpec
noncomputable def E0(con:Con)(n V:Nat)(cross:List Nat)(ord:Nat->List Nat×List Nat):Senv where
 P:=Tryz.prog
 tt:=GZ tab
 n:=n
 dfs:=[]
 V:=V
 cross:=cross
 gh:=fun _=>[]
 gr:=[]
 unr:=fun _=>0
 cut:=fun _ _ _=>none
 ann:=fun _ _ _=>none
 ord:=ord
 con:=con
 eqs:=eqs
noncomputable def EC(con:Con)(n V:Nat)(cross:List Nat)(ord:Nat->List Nat×List Nat):Senv :=
 { E0 con n V cross ord with auto:=true,inl:=MS { E0 con 0 0 [] (fun _=>([],[])) with auto:=true } (Ee G3) 9 }
abbrev CM:Con:=fun _ _ _=>none
theorem BE:ConOk Tryz.prog CM:=fun _ _ _ _ h=>nomatch h
theorem eOk{con:Con}(hc:ConOk Tryz.prog con){E:Senv}(h:E={ EC con E.n E.V E.cross E.ord with gh:=E.gh,gr:=E.gr,unr:=E.unr,cut:=E.cut,ann:=E.ann,cut2:=E.cut2,ann2:=E.ann2,own:=E.own,gz:=E.gz,mg:=E.mg,pvt:=E.pvt,bcut:=E.bcut,bd:=E.bd }):EnvOk E:=by
 rw[h]
 exact⟨Gn,hc,mix,fun k ds S R h=>E9 (E:={ E0 con 0 0 [] (fun _=>([],[])) with auto:=true }) Gn hc mix CR Gx 9 k ds S R h,Gx⟩
def pC(ds:List D)(d:D)(p:Prop):FnSpec where
 β:=Unit
 α:=Unit
 args:=fun _=>ds
 st:=fun _=>⟨[],[]⟩
 pre:=fun _=>p
 post:=fun _ _=>True
 res:=fun _ _=>.ret d
 out:=fun _ _=>⟨[],[]⟩
 fit:=some ()
theorem Bap(S:St):leS ⟨[],[]⟩ S:=by simp[leS,Ba,Go.Ab.nodupB,leO,leT]
theorem EG{k : Nat}{ds : List D}{S : St}{us : List D}{d : D}{p : Prop}(h : p -> Bz ds us /\ ACalls Tryz.prog k us ⟨[], []⟩ (SpecR (sC us d) ())) :
  (∀x,(pC us d p).pre x->ACalls Tryz.prog k ((pC us d p).args x) ((pC us d p).st x) (SpecR (pC us d p) x))/\(∀x,(pC us d p).fit=some x->(pC us d p).pre x->Bz ds ((pC us d p).args x)/\leS ((pC us d p).st x) S)/\((pC us d p).all=true->∀x,(pC us d p).pre x->Bz ds ((pC us d p).args x)/\(pC us d p).st x=S) :=
 ⟨fun _ hp=>(h hp).2.mono fun _ _ ⟨_,_h1,h2,h3⟩=>⟨(),trivial,h2,h3⟩,fun _ _ hp=>⟨(h hp).1,Bap S⟩,fun e=>nomatch e⟩
theorem Bt{α:Type}[Inhabited α]{l:List α}{i:Nat}(h:i<l.length):l.drop i=l.getD i default::l.drop (i+1):=by
 rw[List.drop_eq_getElem_cons h]
 simp[List.getD_eq_getElem?_getD,h]
theorem CE{α:Type}[Inhabited α]{l:List α}{i:Nat}(h:i<l.length):l.take (i+1)=l.take i++[l.getD i default]:=by
 rw[List.take_add_one]
 simp[List.getD_eq_getElem?_getD,h]
def RT(p:Prop):Prop:=True/\∃(y:Unit),True/\p/\True/\True
def isl(l:List Int)(m:Ab.Mode):D:=.sl 1 l.length (fun i=>[.int .i64 (l.getD i 0)]) m
inductive Arr where
 |mk (kind:Int) (shape nums:List Int) (items:List Arr)
def BY(z:Int):Prop:=-9223372036854775808<=z/\z<=9223372036854775807
mutual
def Arr.row:Arr->List D
 |.mk k s n is=>[.int .i64 k,isl s .any,isl n .any,.sl 4 (IU is).length (fun i=>(IU is).getD i []) .any]
def IU:List Arr->List (List D)
 | []=>[]
 |a::r=>a.row::IU r
end
mutual
def Arr.ok:Arr->Prop
 |.mk k s n is=>BY k/\(∀z∈s,BY z)/\(∀z∈n,BY z)/\s.length<=maxLen/\n.length<=maxLen/\is.length<=maxLen/\okL is
def okL:List Arr->Prop
 | []=>True
 |a::r=>a.ok/\okL r
end
mutual
/-- Nothing in it is longer than a machine's memory. -/
def Arr.sm:Arr->Prop
 |.mk _ s n is=>s.length<=BU/\n.length<=BU/\is.length<=BU/\smL is
def smL:List Arr->Prop
 | []=>True
 |a::r=>a.sm/\smL r
end
theorem Bel:∀(l:List Arr),smL l↔∀a∈l,a.sm
 | []=>by simp[smL]
 |a::l=>by simp only[smL,List.forall_mem_cons,Bel l]
theorem Ci{n:Nat}(h:n<=BU):n<=maxLen:=Nat.le_trans h (by decide)
theorem Gh:∀(l:List Arr),IU l=l.map Arr.row
 | []=>rfl
 |a::l=>by simp only[IU,List.map_cons,Gh l]
theorem Od:∀(l:List Arr),okL l↔∀a∈l,a.ok
 | []=>by simp[okL]
 |a::l=>by simp only[okL,List.forall_mem_cons,Od l]
def RInts:List D->Prop:=fun ds=>∃l:List Int,(∀z∈l,BY z)/\l.length<=BU/\ds=[isl l .any]
def RArr:List D->Prop:=fun ds=>∃a:Arr,(a.ok/\a.sm)/\ds=a.row
theorem CU:∀x,RInt .i64 x->∃z,BY z/\x=[.int .i64 z]:=by
 rintro x ⟨n,rfl,h1,h2⟩
 simp only[IntKind.min,IntKind.max,IntKind.signed,IntKind.bits] at h1 h2
 exact⟨n,⟨by simpa using h1,by simp at h2;omega⟩,rfl⟩
theorem Rm(W:World)(n:Nat):ReadAt Tryz.prog W n 28 RInts:=by
 cases n with
 |zero=>exact .zero _ _
 |succ n =>
  refine (EQ (w:=1) Tryz.underlying28 (by kernel_rfl) (by decide) (by decide +kernel) (G9 Tryz.underlying3 W n)).weak ?_
  rintro _ ds vs ⟨l,h1,h2,rfl⟩ h
  obtain ⟨l',q,rfl⟩:=MA CU l h1
  refine⟨_,⟨l',q,by simpa using h2,rfl⟩,Ca _ _ ?_ _ _ h⟩
  simp only[isl,Bz,Bk,Ba]
  refine⟨⟨by simp,by simp,fun i hi=>?_,by simp[BB]⟩,trivial⟩
  have hi:i<l'.length:=by simpa using hi
  simp[List.getD_eq_getElem?_getD,hi]
theorem Bb7(W:World):∀n,ReadAt Tryz.prog W n 45 RArr
 |0=>.zero _ _
 |n+1=>by
  have hi:ReadAt Tryz.prog W n 43 (RSliceA 4 RArr):=by
   cases n with
   |zero=>exact .zero _ _
   |succ m=>exact EQ (w:=4) Tryz.underlying43 (by kernel_rfl) (by decide) (by decide +kernel) (Bb7 W m)
  refine (GU Tryz.underlying45 (by kernel_rfl) (Rs:=[RInt .i64,RInts,RInts,RSliceA 4 RArr]) ⟨G9 (by kernel_rfl) W n,Rm W n,Rm W n,hi,trivial⟩).mono ?_
  rintro ds ⟨_,_,h1,⟨_,_,h2,⟨_,_,h3,⟨_,_,h4,h5,rfl⟩,rfl⟩,rfl⟩,rfl⟩
  obtain rfl:_=[]:=h5
  obtain ⟨k,hk,rfl⟩:=CU _ h1
  obtain ⟨s,s1,s2,rfl⟩:=h2
  obtain ⟨m,m1,m2,rfl⟩:=h3
  obtain ⟨l,l1,l2,rfl⟩:=h4
  obtain ⟨is,q,rfl⟩:=MA (g:=Arr.row) (Q:=fun a=>a.ok/\a.sm) (fun x hx=>hx) l l1
  have l2:is.length<=BU:=by simpa using l2
  refine⟨.mk k s m is,⟨?_,?_⟩,?_⟩
  ·simp only[Arr.ok]
   exact⟨hk,s1,m1,Ci s2,Ci m2,Ci l2,(Od _).2 fun a ha=>(q a ha).1⟩
  ·simp only[Arr.sm]
   exact⟨s2,m2,l2,(Bel _).2 fun a ha=>(q a ha).2⟩
  ·simp only[Arr.row,Gh,List.cons_append,List.nil_append]
def gsl{α:Type}[Inhabited α](w:Nat)(g:α->List D)(l:List α):D:=.sl w l.length (fun i=>g (l.getD i default)) .any
instance:Inhabited Arr:=⟨.mk 0 [] [] []⟩
def DA:Arr:=Arr.mk (0:Int) [] [] []
def GA(l:List Arr)(i:Nat):Arr:=List.getD l i (Arr.mk (0:Int) [] [] [])
set_option maxRecDepth 100000
def UF(P:Program)(TS:List Nat)(t:Nat):Bool :=
 match P.underlying t with
 |some (.slice e)=>TS.contains e&&decide (P.bytesOf e<=4096)
 |some (.struct fs)=>fs.toList.all fun f=>TS.contains f.type
 |some (.pointer e)=>TS.contains e
 |some (.array _ e)=>TS.contains e
 |some (.map k e)=>TS.contains e&&decide (P.bytesOf k+P.bytesOf e<=4096)
 |_=>true
theorem Ux{H:Type}(d:DataW H):1<=Rows.uptoBulk d:=by
 cases d with
 |lit l=>cases l<;>simp[Rows.uptoBulk]
 |nil=>simp[Rows.uptoBulk]
 |ptr d=>simp[Rows.uptoBulk]
 |slice elems spare=>simp[Rows.uptoBulk]
 |agg parts=>simp[Rows.uptoBulk]
 |iface t d=>simp[Rows.uptoBulk]
 |map entries=>simp[Rows.uptoBulk]
 |held h=>simp[Rows.uptoBulk]
theorem Uz{H:Type}:∀l:List (DataW H),l.length<=Rows.uptoBulkAll l
 | []=>by simp[Rows.uptoBulkAll]
 |x::r=>by
  have:=Ux x
  have:=Uz r
  simp only[Rows.uptoBulkAll,List.length_cons]
  omega
theorem Bcg{H:Type}:∀l:List (Go.Lit×DataW H),l.length<=Rows.uptoBulkEntries l
 | []=>by simp[Rows.uptoBulkEntries]
 |(k,d)::r=>by
  have:=Ux d
  have:=Bcg r
  have h:1<=Rows.uptoBulkEntry (k,d):=by cases k<;>simp[Rows.uptoBulkEntry]
  simp only[Rows.uptoBulkEntries,List.length_cons]
  omega
theorem BbQ{a b c:Nat}(h1:a<=c)(h2:b<=4096):a*b<=8192*c:=by
 calc a*b<=c*4096:=Nat.mul_le_mul h1 h2
  _<=8192*c:=by omega
mutual
theorem BgI{P:Program}{TS:List Nat}(hT:∀t∈TS,UF P TS t=true){H:Type}:∀(d:DataW H) (t:Nat),t∈TS->∀x∈d.weights P t,x<=8192*Rows.uptoBulk d
 |.lit l,t,_,x,hx=>by
  cases l with
  |string bytes =>
   simp only[DataW.weights,List.mem_singleton] at hx
   simp only[Rows.uptoBulk]
   omega
  |_=>simp[DataW.weights] at hx
 |.nil,t,_,x,hx=>by simp[DataW.weights] at hx
 |.ptr d,t,ht,x,hx=>by
  have ho:=hT t ht
  simp only[DataW.weights] at hx
  unfold UF at ho
  split at hx
  ·rename_i e hu
   rw[hu] at ho
   have:=BgI hT d e (by simpa using ho) x hx
   simp only[Rows.uptoBulk]
   omega
  ·simp at hx
 |.slice elems spare,t,ht,x,hx=>by
  have ho:=hT t ht
  simp only[DataW.weights] at hx
  unfold UF at ho
  split at hx
  ·rename_i e hu
   rw[hu] at ho
   simp only[Bool.and_eq_true,decide_eq_true_eq] at ho
   have he:e∈TS:=by simpa using ho.1
   simp only[Rows.uptoBulk]
   rcases List.mem_cons.1 hx with rfl | hx
   ·exact Nat.le_trans (BbQ (Nat.add_le_add (Uz elems) (Uz spare)) ho.2) (by omega)
   ·rcases List.mem_append.1 hx with hx | hx
    ·have:=T7 hT elems e he x hx
     omega
    ·have:=T7 hT spare e he x hx
     omega
  ·simp at hx
 |.agg parts,t,ht,x,hx=>by
  have ho:=hT t ht
  simp only[DataW.weights] at hx
  unfold UF at ho
  split at hx
  ·rename_i fs hu
   rw[hu] at ho
   have:=Up hT (fs.toList.map (·.type)) parts (fun t h=>by
    obtain ⟨f,hf,rfl⟩:=List.mem_map.1 h
    simpa using List.all_eq_true.1 ho f hf) x hx
   simp only[Rows.uptoBulk]
   omega
  ·rename_i e hu
   rw[hu] at ho
   have:=T7 hT parts e (by simpa using ho) x hx
   simp only[Rows.uptoBulk]
   omega
  ·simp at hx
 |.iface _ _,t,_,x,hx=>by simp[DataW.weights] at hx
 |.map entries,t,ht,x,hx=>by
  have ho:=hT t ht
  simp only[DataW.weights] at hx
  unfold UF at ho
  split at hx
  ·rename_i k e hu
   rw[hu] at ho
   simp only[Bool.and_eq_true,decide_eq_true_eq] at ho
   simp only[Rows.uptoBulk]
   rcases List.mem_cons.1 hx with rfl | hx
   ·exact Nat.le_trans (BbQ (Bcg entries) ho.2) (by omega)
   ·have:=BdW hT entries e (by simpa using ho.1) x hx
    omega
  ·simp at hx
 |.held _,t,_,x,hx=>by simp[DataW.weights] at hx
theorem T7{P:Program}{TS:List Nat}(hT:∀t∈TS,UF P TS t=true){H:Type}:∀(l:List (DataW H)) (e:Nat),e∈TS->∀x∈DataW.weightsAll P e l,x<=8192*Rows.uptoBulkAll l
 | [],e,_,x,hx=>by simp[DataW.weightsAll] at hx
 |d::r,e,he,x,hx=>by
  simp only[DataW.weightsAll] at hx
  simp only[Rows.uptoBulkAll]
  rcases List.mem_append.1 hx with hx | hx
  ·have:=BgI hT d e he x hx;omega
  ·have:=T7 hT r e he x hx;omega
theorem Up{P:Program}{TS:List Nat}(hT:∀t∈TS,UF P TS t=true){H:Type}:∀(ts:List Nat) (l:List (DataW H)),(∀t∈ts,t∈TS)->∀x∈DataW.weightsEach P ts l,x<=8192*Rows.uptoBulkAll l
 | [],l,_,x,hx=>by simp[DataW.weightsEach] at hx
 |t::ts,[],_,x,hx=>by simp[DataW.weightsEach] at hx
 |t::ts,d::r,ht,x,hx=>by
  simp only[DataW.weightsEach] at hx
  simp only[Rows.uptoBulkAll]
  rcases List.mem_append.1 hx with hx | hx
  ·have:=BgI hT d t (ht t (by simp)) x hx;omega
  ·have:=Up hT ts r (fun u hu=>ht u (by simp[hu])) x hx;omega
theorem BdW{P:Program}{TS:List Nat}(hT:∀t∈TS,UF P TS t=true){H:Type}:∀(l:List (Go.Lit×DataW H)) (e:Nat),e∈TS->∀x∈DataW.weightsEntries P e l,x<=8192*Rows.uptoBulkEntries l
 | [],e,_,x,hx=>by simp[DataW.weightsEntries] at hx
 |(k,d)::r,e,he,x,hx=>by
  simp only[DataW.weightsEntries] at hx
  simp only[Rows.uptoBulkEntries]
  rcases List.mem_append.1 hx with hx | hx
  ·cases k with
   |string bytes =>
    simp only[DataW.weightsEntry] at hx
    simp only[Rows.uptoBulkEntry]
    rcases List.mem_cons.1 hx with rfl | hx
    ·omega
    ·have:=BgI hT d e he x hx;omega
   |_ =>
    simp only[DataW.weightsEntry] at hx
    simp only[Rows.uptoBulkEntry]
    have:=BgI hT d e he x hx;omega
  ·have:=BdW hT r e he x hx;omega
end
theorem Bd7{P:Program}{TS:List Nat}(hT:∀t∈TS,UF P TS t=true){H:Type}{ts:List Nat}(hts:∀t∈ts,t∈TS){ds:List (DataW H)}(hk:Rows.uptoSmall H ds=true):(DataW.weightsEach P ts ds).all (·<=BU)=true:=by
 have hb:Rows.uptoBulkAll ds<=1048576:=of_decide_eq_true hk
 refine List.all_eq_true.2 fun x hx=>?_
 have:=Up hT ts ds hts x hx
 unfold BU
 simp only[decide_eq_true_eq]
 omega
def Bf0:List D->Int
 | [.int _ z]=>z
 |_=>0
def BH(n:Nat)(f:Nat->List D):List Int:=(List.range n).map fun i=>Bf0 (f i)
theorem Eg(l:List Int):BH l.length (fun i=>[D.int .i64 (l.getD i 0)])=l:=by
 apply List.ext_getElem
 ·simp[BH]
 ·intro i h1 h2
  simp[BH,Bf0,List.getD_eq_getElem?_getD,h2]
def IntsP(n:Nat)(f:Nat->List D):Prop:=∀i,i<n->f i=[.int .i64 (Bf0 (f i))]
theorem C6{n:Nat}{f:Nat->List D}{m:Ab.Mode}(h:IntsP n f):Bz [.sl 1 n f m] [isl (BH n f) .any]:=by
 simp only[isl,Bz,Bk,Ba]
 refine⟨⟨by simp,by simp[BH],fun i hi=>?_,by simp[BB]⟩,trivial⟩
 have e:(BH n f).getD i 0=Bf0 (f i):=by simp[BH,List.getD_eq_getElem?_getD,hi]
 rw[e]
 exact h i hi
def goO:List Int->Int->Option Int
 | [],p=>some p
 |d::r,p=>if d<0\/65536<d then none else if d=0 then goO r p else if 65536<p*d then none else goO r (p*d)
def Es(s:List Int):Bool:=decide (s.length<=8)&&(goO s 1).isSome
def EP(s:List Int):Int:=if s.contains 0 then 0 else (goO s 1).getD 0
structure GoHead (l:List Int) (i:Nat) (p:Int):Prop where
 hi:i<=l.length
 h1:1<=p
 h2:p<=65536
 hg:goO (l.drop i) p=goO l 1
theorem GoHead.init(l:List Int):GoHead l 0 1:=⟨Nat.zero_le _,by omega,by omega,by simp⟩
theorem Uf{l:List Int}{i:Nat}(h:i<l.length):l.drop i=l.getD i 0::l.drop (i+1):=Bt h
theorem GoHead.step{l : List Int}{i : Nat}{p : Int}(h : GoHead l i p)(hlt : i<l.length) :
  (l.getD i 0<0->goO l 1=none)/\(65536<l.getD i 0->goO l 1=none)/\(l.getD i 0=0->GoHead l (i+1) p) /\
  (¬l.getD i 0<0->¬65536<l.getD i 0->0<=p*l.getD i 0/\p*l.getD i 0<=4294967296/\(65536<p*l.getD i 0->l.getD i 0≠0->goO l 1=none)/\(¬65536<p*l.getD i 0->l.getD i 0≠0->GoHead l (i+1) (p*l.getD i 0))):=by
 have hg:=h.hg
 rw[Uf hlt,goO] at hg
 generalize l.getD i 0=d at *
 refine⟨fun h0=>?_,fun h0=>?_,fun h0=>?_,fun h0 h3=>?_⟩
 ·rw[if_pos (.inl h0)] at hg;exact hg.symm
 ·rw[if_pos (.inr h0)] at hg;exact hg.symm
 ·subst h0
  simp at hg
  exact⟨by omega,h.h1,h.h2,hg⟩
 ·have b1:0<=p*d:=Int.mul_nonneg (by have:=h.h1;omega) (by omega)
  have b2:p*d<=65536*65536:=Int.mul_le_mul h.h2 (by omega) (by omega) (by omega)
  refine⟨b1,by omega,fun h4 h5=>?_,fun h4 h5=>?_⟩
  ·rw[if_neg (by omega),if_neg h5,if_pos h4] at hg;exact hg.symm
  ·rw[if_neg (by omega),if_neg h5,if_neg h4] at hg
   refine⟨by omega,?_,by omega,hg⟩
   have:0<p*d:=Int.mul_pos (by have:=h.h1;omega) (by omega)
   omega
theorem GoHead.done{l:List Int}{i:Nat}{p:Int}(h:GoHead l i p)(hge:¬(i:Int)<l.length):goO l 1=some p:=by
 have hg:=h.hg
 have:i=l.length:=by have:=h.hi;omega
 rw[this,List.drop_length,goO] at hg
 exact hg.symm
noncomputable def Eright(l:List Int):Senv:={ EC CM 31 1 [2,3,5,8,9,10,11,12,15,22,29] (fun _=>([],[])) with
 ann:=fun b _ _=>match b with
  |0=>some { slots:=[11,3],keep:=[9,10],α:=Nat×Int,st:=fun y=>([.int .i64 y.1,.int .i64 y.2],⟨[],[]⟩),inv:=fun y=>GoHead l y.1 y.2,mu:=fun y=>l.length-y.1 }
  |_=>none }
noncomputable section
def QaO(a:List Int):Prop:=True/\∃(_y:Unit),True/\false=Es a/\True/\True
def Vn(a:List Int)(b:Nat):Int:=GI a (Int.toNat (↑b:Int))
def QaP(a:List Int)(b:Nat):Bool:=bif decide (Vn a b<Z0) then true else decide ((65536:Int)<Vn a b)
def Qqz(a:List Int):D:=SI a
def Qed(a:List Int):Prop:=SM (Qqz a)/\SM (ZI (LI a))/\True
end
theorem BgM(l:List Int):ACalls Tryz.prog 146 [isl l .any] ⟨[],[]⟩ (SpecR (sC [isl l .any] (.bool (Es l))) ()):=by
 refine Bi (A:=sC _ _) (x:=()) (E:=Eright l) (eOk BE rfl) Tryz.func146 rfl (by kernel_rfl) rfl (by simp[sC,Eright,EC,E0]) ?_
 refine Bj (T :=
  ifB (decide ((8:Int)<(LI l))) (QaO l) ((∃(x:Nat×Int),GoHead l x.1 x.2/\(Z0=(NI x.1)/\Z1=x.2/\True)/\True/\True)/\∀(x:Nat×Int),GoHead l x.1 x.2->ifB (decide ((NI x.1)<(LI l))) (Bd (Z0<=(NI x.1)/\(NI x.1)<(LI l)) (ifB (decide (Vn l x.1<Z0)) (true=QaP l x.1/\True) (decide ((65536:Int)<Vn l x.1)=QaP l x.1/\True)/\ifB (QaP l x.1) (QaO l) (ifB (Vn l x.1==Z0) (Qed l/\∃(y:Nat×Int),GoHead l y.1 y.2/\LN l-y.1<LN l-x.1/\(IntKind.wrap IntKind.i64 ((NI x.1)+Z1)=(NI y.1)/\x.2=y.2/\True)/\True/\True) (ifB (decide ((65536:Int)<IntKind.wrap IntKind.i64 (x.2*Vn l x.1))) (QaO l) (Qed l/\∃(y:Nat×Int),GoHead l y.1 y.2/\LN l-y.1<LN l-x.1/\(IntKind.wrap IntKind.i64 ((NI x.1)+Z1)=(NI y.1)/\IntKind.wrap IntKind.i64 (x.2*Vn l x.1)=y.2/\True)/\True/\True))))) (RT (true=Es l)))) (by kernel_rfl) ?_
 delta GI LI LN N1 NI SI SM Z0 Z1 ZI QaO Vn QaP Qqz Qed RT
 simp only[Int.toNat_natCast,Bh,Bf,decide_eq_true_eq,decide_eq_false_iff_not,true_and,and_true,beq_iff_eq,Bool.cond_true_left,beq_eq_false_iff_ne,ne_eq,exists_const]
 have no:goO l 1=none->false=Es l:=fun h=>by simp[Es,h]
 refine⟨fun h=>?_,fun h8=>⟨⟨(0,1),GoHead.init l,rfl,rfl⟩,?_⟩⟩
 ·have:¬l.length<=8:=by omega
  simp[Es,this]
 rintro ⟨i,p⟩ hh
 simp only at hh ⊢
 refine⟨fun hlt=>?_,fun hge=>?_⟩
 rotate_left
 ·have:l.length<=8:=by omega
  simp[Es,hh.done hge,this]
 have hlt':i<l.length:=by omega
 obtain ⟨s1,s2,s3,s4⟩:=hh.step hlt'
 refine⟨by omega,⟨fun h=>by rw[decide_eq_true h];rfl,fun h=>by rw[decide_eq_false h];rfl⟩,fun h=>no ?_,fun h=>?_⟩
 ·rw[Bool.or_eq_true,decide_eq_true_eq,decide_eq_true_eq] at h
  exact h.elim s1 s2
 ·rw[Bool.or_eq_false_iff,decide_eq_false_iff_not,decide_eq_false_iff_not] at h
  obtain ⟨b1,b2,s5,s6⟩:=s4 h.1 h.2
  have hw:IntKind.i64.wrap (p*l.getD i 0)=p*l.getD i 0:=Be (by omega) (by omega)
  rw[hw]
  exact⟨fun hd=>⟨(i+1,p),s3 hd,by simp only;omega,Be (by omega) (by omega),rfl⟩,fun hd=>⟨fun h4=>no (s5 h4 hd),fun h4=>⟨(i+1,p*l.getD i 0),s6 h4 hd,by simp only;omega,Be (by omega) (by omega),rfl⟩⟩⟩
noncomputable def Erprod(l:List Int):Senv:={ EC CM 30 1 [2,3,4,8,15,20,28] (fun _=>([],[])) with
 ann:=fun b _ _=>match b with
  |0=>some { slots:=[4,3],keep:=[0],α:=Nat×Int,st:=fun y=>([.int .i64 y.1,.int .i64 y.2],⟨[],[]⟩),inv:=fun y=>GoHead l y.1 y.2,mu:=fun y=>l.length-y.1 }
  |_=>none }
noncomputable section
def QaQ(a:List Int):Prop:=True/\∃(_y:Unit),True/\(65537:Int)=Option.getD (goO a Z1) (65537:Int)/\True/\True
def QqA(a:List Int):D:=SI a
def Qee(a:List Int):Prop:=SM (QqA a)/\True
end
theorem Bgm(l:List Int)(h0:∀z∈l,0<=z)(hl:l.length<=maxLen):ACalls Tryz.prog 158 [isl l .any] ⟨[],[]⟩ (SpecR (sC [isl l .any] (.int .i64 ((goO l 1).getD 65537))) ()):=by
 refine Bi (A:=sC _ _) (x:=()) (E:=Erprod l) (eOk BE rfl) Tryz.func158 rfl (by kernel_rfl) rfl (by simp[sC,Erprod,EC,E0]) ?_
 refine Bj (T :=
  (∃(x:Nat×Int),GoHead l x.1 x.2/\(Z0=(NI x.1)/\Z1=x.2/\True)/\True/\True)/\∀(x:Nat×Int),GoHead l x.1 x.2->ifB (decide ((NI x.1)<(LI l))) (Bd (Z0<=(NI x.1)/\(NI x.1)<(LI l)) (ifB (decide ((65536:Int)<GI l (TN x.1))) (QaQ l) (Bd (Z0<=(NI x.1)/\(NI x.1)<(LI l)) (ifB (decide (Z0<GI l (TN x.1))) (Bd (Z0<=(NI x.1)/\(NI x.1)<(LI l)) (ifB (decide ((65536:Int)<IntKind.wrap IntKind.i64 (x.2*GI l (TN x.1)))) (QaQ l) (Qee l/\∃(y:Nat×Int),GoHead l y.1 y.2/\LN l-y.1<LN l-x.1/\(IntKind.wrap IntKind.i64 ((NI x.1)+Z1)=(NI y.1)/\IntKind.wrap IntKind.i64 (x.2*GI l (TN x.1))=y.2/\True)/\True/\True))) (ifB (decide ((65536:Int)<x.2)) (QaQ l) (Qee l/\∃(y:Nat×Int),GoHead l y.1 y.2/\LN l-y.1<LN l-x.1/\(IntKind.wrap IntKind.i64 ((NI x.1)+Z1)=(NI y.1)/\x.2=y.2/\True)/\True/\True)))))) (RT (x.2=Option.getD (goO l Z1) (65537:Int)))) (by kernel_rfl) ?_
 delta GI LI LN N1 NI SI SM TN Z0 Z1 ZI QaQ QqA Qee RT
 simp only[Int.toNat_natCast,Bh,Bf,decide_eq_true_eq,decide_eq_false_iff_not,true_and,and_true,exists_const]
 have no:goO l 1=none->(65537:Int)=(goO l 1).getD 65537:=fun h=>by simp[h]
 refine⟨⟨(0,1),GoHead.init l,rfl,rfl⟩,?_⟩
 rintro ⟨i,p⟩ hh
 simp only at hh ⊢
 refine⟨fun hlt=>?_,fun hge=>by simp[hh.done hge]⟩
 have hlt':i<l.length:=by omega
 obtain ⟨s1,s2,s3,s4⟩:=hh.step hlt'
 have hd0:0<=l.getD i 0:=h0 _ (by rw[List.getD_eq_getElem?_getD,List.getElem?_eq_getElem hlt'];exact List.getElem_mem hlt')
 simp only[maxLen] at hl
 refine⟨by omega,fun h=>no (s2 h),fun h=>⟨by omega,?_⟩⟩
 obtain ⟨b1,b2,s5,s6⟩:=s4 (by omega) h
 have hw:IntKind.i64.wrap (p*l.getD i 0)=p*l.getD i 0:=Be (by omega) (by omega)
 rw[hw]
 refine⟨fun hd=>⟨by omega,fun h4=>no (s5 h4 (by omega)),fun h4=>⟨(i+1,p*l.getD i 0),s6 h4 (by omega),by simp only;omega,Be (by omega) (by omega),rfl⟩⟩,fun hd=>⟨fun h4=>absurd h4 (by have:=hh.h2;omega),fun _=>⟨(i+1,p),s3 (by omega),by simp only;omega,Be (by omega) (by omega),rfl⟩⟩⟩
def conR:Con:=CM
theorem BjJ:ConOk Tryz.prog conR:=BE
def ID(p:Int->Bool):List Int->Nat->Int
 | [],_=>-1
 |d::r,i=>if p d then (i:Int) else ID p r (i+1)
theorem U6(p:Int->Bool):∀(l:List Int) (i:Nat),decide (0<=ID p l i)=l.any p
 | [],i=>rfl
 |d::r,i=>by
  rw[ID,List.any_cons]
  split
  ·rename_i h;rw[h];simp
  ·rename_i h
   rw[U6 p r (i+1)]
   simp[h]
structure IdxHead (p:Int->Bool) (l:List Int) (i:Nat):Prop where
 hi:i<=l.length
 hg:ID p (l.drop i) i=ID p l 0
theorem IdxHead.step{p:Int->Bool}{l:List Int}{i:Nat}(h:IdxHead p l i)(hlt:i<l.length):(p (l.getD i 0)=true->ID p l 0=i)/\(p (l.getD i 0)=false->IdxHead p l (i+1)):=by
 have hg:=h.hg
 rw[Uf hlt,ID] at hg
 refine⟨fun e=>?_,fun e=>?_⟩
 ·rw[if_pos e] at hg;exact hg.symm
 ·rw[if_neg (by rw[e];exact Bool.false_ne_true)] at hg;exact⟨by omega,hg⟩
theorem IdxHead.done{p:Int->Bool}{l:List Int}{i:Nat}(h:IdxHead p l i)(hge:¬(i:Int)<l.length):ID p l 0 = -1:=by
 have hg:=h.hg
 have:i=l.length:=by have:=h.hi;omega
 rw[this,List.drop_length,ID] at hg
 exact hg.symm
def annI(p:Int->Bool)(l:List Int)(keep:List Nat):LoopAnn:={ slots:=[8],keep:=keep,α:=Nat,st:=fun i=>([.int .i64 i],⟨[],[]⟩),inv:=fun i=>IdxHead p l i,mu:=fun i=>l.length-i }
noncomputable def Eidx(l:List Int)(v:Int):Senv:={ EC CM 19 2 [4,5,7,8,9,16] (fun _=>([],[])) with
 ann:=fun b _ _=>match b with
  |0=>some (annI (fun d=>v==d) l [0,1,6,7])
  |_=>none }
noncomputable section
def QaR(a:Int)(b:List Int)(c:Nat):Prop:=IdxHead (fun (d:Int)=>a==d) b c
def QqB(a:List Int):D:=SI a
end
theorem Bk2(l:List Int)(v:Int)(hl:l.length<=maxLen):ACalls Tryz.prog 160 [isl l .any,.int .i64 v] ⟨[],[]⟩ (SpecR (sC [isl l .any,.int .i64 v] (.int .i64 (ID (fun d=>v==d) l 0))) ()):=by
 refine Bi (A:=sC _ _) (x:=()) (E:=Eidx l v) (eOk BE rfl) Tryz.func160 rfl (by kernel_rfl) rfl (by simp[sC,Eidx,EC,E0]) ?_
 refine Bj (T :=
  (∃(x:Nat),QaR v l x/\(Z0=(↑x:Int)/\True)/\True/\True)/\∀(x:Nat),QaR v l x->ifB (decide ((↑x:Int)<(LI l))) (Bd (Z0<=(↑x:Int)/\(↑x:Int)<(LI l)) (ifB (v==GI l (Int.toNat (↑x:Int))) (RT ((↑x:Int)=ID (fun (d:Int)=>v==d) l N0)) ((SM (QqB l)/\SM (ZI v)/\SM D.unk/\SM (ZI (LI l))/\True)/\∃(y:Nat),QaR v l y/\LN l-y<LN l-x/\(IntKind.wrap IntKind.i64 ((↑x:Int)+Z1)=(↑y:Int)/\True)/\True/\True))) (RT ((-1:Int)=ID (fun (d:Int)=>v==d) l N0))) (by kernel_rfl) ?_
 delta GI LI LN N0 N1 SI SM Z0 Z1 ZI QaR QqB RT
 simp only[Int.toNat_natCast,Bh,Bf,decide_eq_true_eq,decide_eq_false_iff_not,true_and,and_true,exists_const]
 simp only[maxLen] at hl
 refine⟨⟨0,⟨Nat.zero_le _,by simp⟩,rfl⟩,fun i hh=>⟨fun hlt=>?_,fun hge=>(hh.done hge).symm⟩⟩
 have hlt':i<l.length:=by omega
 obtain ⟨s1,s2⟩:=hh.step hlt'
 exact⟨by omega,fun h=>(s1 h).symm,fun h=>⟨i+1,s2 h,by omega,Be (by omega) (by omega)⟩⟩
noncomputable def Eneg(l:List Int):Senv:={ EC CM 19 2 [4,5,7,8,9,16] (fun _=>([],[])) with
 ann:=fun b _ _=>match b with
  |0=>some (annI (fun d=>decide (d<0)) l [0,1,6,7])
  |_=>none }
noncomputable section
def QaS(a:List Int)(b:Nat):Prop:=IdxHead (fun (d:Int)=>decide (d<Z0)) a b
def Qef(a:List Int):Int:=ID (fun (d:Int)=>decide (d<Z0)) a N0
def QqC(a:List Int):D:=SI a
end
theorem Blj(l:List Int)(hl:l.length<=maxLen):ACalls Tryz.prog 156 [isl l .any,.fn (.func 145) [] []] ⟨[],[]⟩ (SpecR (sC [isl l .any,.fn (.func 145) [] []] (.int .i64 (ID (fun d=>decide (d<0)) l 0))) ()):=by
 refine Bi (A:=sC _ _) (x:=()) (E:=Eneg l) (eOk BE rfl) Tryz.func156 rfl (by kernel_rfl) rfl (by simp[sC,Eneg,EC,E0]) ?_
 refine Bj (T :=
  (∃(x:Nat),QaS l x/\(Z0=(↑x:Int)/\True)/\True/\True)/\∀(x:Nat),QaS l x->ifB (decide ((↑x:Int)<(LI l))) (Bd (Z0<=(↑x:Int)/\(↑x:Int)<(LI l)) (True/\ifB (decide (GI l (Int.toNat (↑x:Int))<Z0)) (RT ((↑x:Int)=Qef l)) ((SM (QqC l)/\SM (D.fn (Fn.func (145:Nat)) [] [])/\SM D.unk/\SM (ZI (LI l))/\True)/\∃(y:Nat),QaS l y/\LN l-y<LN l-x/\(IntKind.wrap IntKind.i64 ((↑x:Int)+Z1)=(↑y:Int)/\True)/\True/\True))) (RT ((-1:Int)=Qef l))) (by kernel_rfl) ?_
 delta GI LI LN N0 N1 SI SM Z0 Z1 ZI QaS Qef QqC RT
 simp only[Int.toNat_natCast,Bh,Bf,decide_eq_true_eq,decide_eq_false_iff_not,true_and,and_true,exists_const]
 simp only[maxLen] at hl
 refine⟨⟨0,⟨Nat.zero_le _,by simp⟩,rfl⟩,fun i hh=>⟨fun hlt=>?_,fun hge=>(hh.done hge).symm⟩⟩
 have hlt':i<l.length:=by omega
 obtain ⟨s1,s2⟩:=hh.step hlt'
 exact⟨by omega,fun h=>(s1 (decide_eq_true h)).symm,fun h=>⟨i+1,s2 (decide_eq_false h),by omega,Be (by omega) (by omega)⟩⟩
theorem CF(l:List Int):IntsP l.length (fun i=>[D.int .i64 (l.getD i 0)]):=fun _ _=>rfl
def WQ:Con:=fun k ds S=>match k with
 |160=>match ds with
  | [.sl 1 n f _,.int .i64 v]=>some (pC ds (.int .i64 (ID (fun d=>v==d) (BH n f) 0)) (IntsP n f/\n<=maxLen))
  |_=>none
 |156=>match ds with
  | [.sl 1 n f _,.fn (.func 145) [] []]=>some (pC ds (.int .i64 (ID (fun d=>decide (d<0)) (BH n f) 0)) (IntsP n f/\n<=maxLen))
  |_=>none
 |146=>match ds with
  | [.sl 1 n f _]=>some (pC ds (.bool (Es (BH n f))) (IntsP n f))
  |_=>none
 |158=>match ds with
  | [.sl 1 n f _]=>some (pC ds (.int .i64 ((goO (BH n f) 1).getD 65537)) (IntsP n f/\(∀z∈BH n f,0<=z)/\n<=maxLen))
  |_=>none
 |k=>conR k ds S
theorem CT(n:Nat)(f:Nat->List D):(BH n f).length=n:=by simp[BH]
theorem C9{k:Nat}{ds us:List D}{d:D}(hw:Bz ds us)(h:ACalls Tryz.prog k us ⟨[],[]⟩ (SpecR (sC us d) ())):ACalls Tryz.prog k ds ⟨[],[]⟩ (SpecR (sC ds d) ()) :=
 (ACalls.weakArgs h hw).mono fun _ _ ⟨_,_h1,h2,h3⟩=>⟨(),trivial,h2,h3⟩
theorem Oq:ConOk Tryz.prog WQ:=by
 intro k ds S A h
 unfold WQ at h
 split at h
 ·split at h
  ·injection h with h;subst h
   exact EG fun ⟨h1,h2⟩=>⟨Bm _,C9 (us:=[isl (BH _ _) .any,_]) ⟨(C6 h1).1,BM _,trivial⟩ (Bk2 _ _ (by rw[CT];exact h2))⟩
  ·cases h
 ·split at h
  ·injection h with h;subst h
   exact EG fun ⟨h1,h2⟩=>⟨Bm _,C9 (us:=[isl (BH _ _) .any,_]) ⟨(C6 h1).1,BM _,trivial⟩ (Blj _ (by rw[CT];exact h2))⟩
  ·cases h
 ·split at h
  ·injection h with h;subst h
   exact EG fun h1=>⟨Bm _,C9 (C6 h1) (BgM _)⟩
  ·cases h
 ·split at h
  ·injection h with h;subst h
   exact EG fun ⟨h1,h2,h3⟩=>⟨Bm _,C9 (C6 h1) (Bgm _ h2 (by rw[CT];exact h3))⟩
  ·cases h
 ·exact BjJ _ _ _ _ h
noncomputable def Eprod(l:List Int):Senv:={ EC WQ 19 1 [2,3,5,7,8,9,10,11] (fun _=>([],[])) with
 ann:=fun b _ _=>match b with
  |0=>some { slots:=[10,3],keep:=[8,9],α:=Nat×Int,st:=fun y=>([.int .i64 y.1,.int .i64 y.2],⟨[],[]⟩),inv:=fun y=>GoHead l y.1 y.2,mu:=fun y=>l.length-y.1 }
  |_=>none }
noncomputable section
def QqD(a:List Int):D:=SI a
end
theorem Bjb(l:List Int)(h:Es l=true):ACalls Tryz.prog 157 [isl l .any] ⟨[],[]⟩ (SpecR (sC [isl l .any] (.int .i64 (EP l))) ()):=by
 refine Bi (A:=sC _ _) (x:=()) (E:=Eprod l) (eOk Oq rfl) Tryz.func157 rfl (by kernel_rfl) rfl (by simp[sC,Eprod,EC,E0]) ?_
 refine Bj (T :=
  ((IntsP (LN l) fun i=>[ZI (GI l i)])/\LN l<=9223372036854775807)/\∀(y:Unit),True->True/\ifB (decide (Z0<=ID (fun (d:Int)=>Z0==d) (BH (LN l) fun i=>[ZI (GI l i)]) N0)) (RT (Z0=EP l)) ((∃(x:Nat×Int),GoHead l x.1 x.2/\(Z0=(NI x.1)/\Z1=x.2/\True)/\True/\True)/\∀(x:Nat×Int),GoHead l x.1 x.2->ifB (decide ((NI x.1)<(LI l))) (Bd (Z0<=(NI x.1)/\(NI x.1)<(LI l)) ((SM (QqD l)/\SM (ZI (LI l))/\True)/\∃(y:Nat×Int),GoHead l y.1 y.2/\LN l-y.1<LN l-x.1/\(IntKind.wrap IntKind.i64 ((NI x.1)+Z1)=(NI y.1)/\IntKind.wrap IntKind.i64 (x.2*GI l (TN x.1))=y.2/\True)/\True/\True)) (RT (x.2=EP l)))) (by kernel_rfl) ?_
 delta GI LI LN N0 N1 NI SI SM TN Z0 Z1 ZI QqD RT
 simp only[Eg,U6,Int.toNat_natCast,Bh,Bf,decide_eq_true_eq,decide_eq_false_iff_not,true_and,and_true,exists_const]
 simp only[Es,Bool.and_eq_true,decide_eq_true_eq] at h
 have hcon:(l.any fun d=>0==d)=l.contains 0:=by
  rw[Bool.eq_iff_iff,List.contains_iff_mem,List.any_eq_true]
  constructor
  ·rintro ⟨z,hz,e⟩
   have e:0=z:=by simpa using e
   rw[e];exact hz
  ·exact fun hm=>⟨0,hm,rfl⟩
 rw[hcon]
 refine⟨⟨CF l,by omega⟩,fun _ _=>⟨fun hz=>by rw[EP,if_pos hz],fun hz=>⟨⟨(0,1),GoHead.init l,rfl,rfl⟩,?_⟩⟩⟩
 rintro ⟨i,p⟩ hh
 simp only at hh ⊢
 refine⟨fun hlt=>?_,fun hge=>by rw[EP,if_neg (by rw[hz];exact Bool.false_ne_true),hh.done hge];rfl⟩
 have hlt':i<l.length:=by omega
 obtain ⟨s1,s2,s3,s4⟩:=hh.step hlt'
 have hne:l.getD i 0≠0:=by
  intro e
  have:l.contains 0=true:=by
   rw[List.contains_iff_mem,<- e,List.getD_eq_getElem?_getD,List.getElem?_eq_getElem hlt'];exact List.getElem_mem hlt'
  rw[this] at hz;cases hz
 have n1:¬l.getD i 0<0:=fun e=>by rw[s1 e] at h;exact absurd h.2 (by simp)
 have n2:¬65536<l.getD i 0:=fun e=>by rw[s2 e] at h;exact absurd h.2 (by simp)
 obtain ⟨b1,b2,s5,s6⟩:=s4 n1 n2
 have n3:¬65536<p*l.getD i 0:=fun e=>by rw[s5 e hne] at h;exact absurd h.2 (by simp)
 exact⟨by omega,(i+1,p*l.getD i 0),s6 n3 hne,by simp only;omega,Be (by omega) (by omega),Be (by omega) (by omega)⟩
noncomputable def Edims(l:List Int):Senv:={ EC WQ 21 1 [2,3,6,10,17,20] (fun _=>([],[])) with
 ann:=fun b _ _=>match b with
  |0=>some { slots:=[3],keep:=[0],α:=Nat,st:=fun i=>([.int .i64 i],⟨[],[]⟩),inv:=fun i=>i<=l.length/\∀z∈l.take i,0<=z,mu:=fun i=>l.length-i }
  |_=>none }
theorem RX:∀(l:List Int) (p:Int),p<=65536->∀q,goO l p=some q->q<=65536
 | [],p,hp,q,h=>by rw[goO] at h;injection h with h;omega
 |d::r,p,hp,q,h=>by
  rw[goO] at h
  split at h
  ·cases h
  ·split at h
   ·exact RX r p hp q h
   ·split at h
    ·cases h
    ·exact RX r _ (by omega) q h
def Et(s:List Int):Int:=if 8<s.length then 15 else if s.any (fun d=>decide (d<0)) then 16 else if (goO s 1).isSome then 0 else 21
noncomputable section
def YJ(a:List Int):Int:=Et a
def QaT(a:Nat)(b:List Int):Prop:=a<=LN b/\∀(z:Int),z∈List.take a b->Z0<=z
def QqE(a:List Int):D:=SI a
def Qeg(a:List Int):List Int:=BH (LN a) fun i=>[ZI (GI a i)]
end
theorem BjT(l:List Int):ACalls Tryz.prog 150 [isl l .any] ⟨[],[]⟩ (SpecR (sC [isl l .any] (.int .i64 (Et l))) ()):=by
 refine Bi (A:=sC _ _) (x:=()) (E:=Edims l) (eOk Oq rfl) Tryz.func150 rfl (by kernel_rfl) rfl (by simp[sC,Edims,EC,E0]) ?_
 refine Bj (T :=
  ifB (decide ((8:Int)<(LI l))) (RT ((15:Int)=YJ l)) ((∃(x:Nat),QaT x l/\(Z0=(↑x:Int)/\True)/\True/\True)/\∀(x:Nat),QaT x l->ifB (decide ((↑x:Int)<(LI l))) (Bd (Z0<=(↑x:Int)/\(↑x:Int)<(LI l)) (ifB (decide (GI l (Int.toNat (↑x:Int))<Z0)) (RT ((16:Int)=YJ l)) ((SM (QqE l)/\True)/\∃(y:Nat),QaT y l/\LN l-y<LN l-x/\(IntKind.wrap IntKind.i64 ((↑x:Int)+Z1)=(↑y:Int)/\True)/\True/\True))) (((IntsP (LN l) fun i=>[ZI (GI l i)])/\(∀(z:Int),z∈Qeg l->Z0<=z)/\LN l<=9223372036854775807)/\∀(y:Unit),True->ifB (decide ((65536:Int)<Option.getD (goO (Qeg l) Z1) (65537:Int))) (RT ((21:Int)=YJ l)) (RT (Z0=YJ l))))) (by kernel_rfl) ?_
 delta GI LI LN N1 SI SM Z0 Z1 ZI YJ QaT QqE Qeg RT
 simp only[Eg,Int.toNat_natCast,Bh,Bf,decide_eq_true_eq,decide_eq_false_iff_not,true_and,and_true,exists_const]
 have tk:∀i,i<l.length->∀P:Int->Prop,(∀z∈l.take i,P z)->P (l.getD i 0)->∀z∈l.take (i+1),P z:=fun i hi P h1 h2 z hz=>by
  rw[List.take_add_one,List.mem_append] at hz
  rcases hz with hz | hz
  ·exact h1 z hz
  ·rw[List.getElem?_eq_getElem hi] at hz
   simp at hz
   rw[hz]
   simpa[List.getD_eq_getElem?_getD,hi] using h2
 refine⟨fun h=>?_,fun h8=>⟨⟨0,⟨Nat.zero_le _,by simp⟩,rfl⟩,fun i hh=>⟨fun hlt=>?_,fun hge=>?_⟩⟩⟩
 ·have:8<l.length:=by omega
  simp[Et,this]
 ·have hlt':i<l.length:=by omega
  have h8':¬8<l.length:=by omega
  refine⟨by omega,fun h=>?_,fun h=>⟨i+1,⟨by omega,tk i hlt' _ hh.2 (by omega)⟩,by omega,Be (by omega) (by omega)⟩⟩
  have:l.any (fun d=>decide (d<0))=true:=by
   rw[List.any_eq_true]
   refine⟨l.getD i 0,?_,decide_eq_true h⟩
   rw[List.getD_eq_getElem?_getD,List.getElem?_eq_getElem hlt'];exact List.getElem_mem hlt'
  rw[Et,if_neg h8',if_pos this]
 ·have hi:i=l.length:=by omega
  rw[hi,List.take_length] at hh
  have h8':¬8<l.length:=by omega
  have hnn:¬l.any (fun d=>decide (d<0))=true:=by
   rw[List.any_eq_true]
   rintro ⟨z,hz,h⟩
   have:=hh.2 z hz
   simp at h
   omega
  refine⟨⟨CF l,hh.2,by omega⟩,fun _ _=>?_⟩
  rw[Et,if_neg h8',if_neg hnn]
  have hb:=RX l 1 (by omega)
  cases hg:goO l 1 with
  |none=>simp
  |some p=>have:=hb p hg;simp;omega
noncomputable def Ecount(l:List Int):Senv:={ EC WQ 17 1 [2,3,7,14] (fun _=>([],[])) with
 ann:=fun b _ _=>match b with
  |0=>some { slots:=[3],keep:=[0],α:=Nat,st:=fun i=>([.int .i64 i],⟨[],[]⟩),inv:=fun i=>i<=l.length/\∀z∈l.take i,z≠0,mu:=fun i=>l.length-i }
  |_=>none }
noncomputable section
def QaU(a:Nat)(b:List Int):Prop:=a<=LN b/\∀(z:Int),z∈List.take a b->z≠Z0
def QqF(a:List Int):D:=SI a
def Qeh(a:List Int):List Int:=BH (LN a) fun i=>[ZI (GI a i)]
end
theorem Bgn(l:List Int)(h:Et l=0):ACalls Tryz.prog 152 [isl l .any] ⟨[],[]⟩ (SpecR (sC [isl l .any] (.int .i64 (EP l))) ()):=by
 refine Bi (A:=sC _ _) (x:=()) (E:=Ecount l) (eOk Oq rfl) Tryz.func152 rfl (by kernel_rfl) rfl (by simp[sC,Ecount,EC,E0]) ?_
 refine Bj (T :=
  (∃(x:Nat),QaU x l/\(Z0=(↑x:Int)/\True)/\True/\True)/\∀(x:Nat),QaU x l->ifB (decide ((↑x:Int)<(LI l))) (Bd (Z0<=(↑x:Int)/\(↑x:Int)<(LI l)) (ifB (GI l (Int.toNat (↑x:Int))==Z0) (RT (Z0=EP l)) ((SM (QqF l)/\True)/\∃(y:Nat),QaU y l/\LN l-y<LN l-x/\(IntKind.wrap IntKind.i64 ((↑x:Int)+Z1)=(↑y:Int)/\True)/\True/\True))) (((IntsP (LN l) fun i=>[ZI (GI l i)])/\(∀(z:Int),z∈Qeh l->Z0<=z)/\LN l<=9223372036854775807)/\∀(y:Unit),True->RT (Option.getD (goO (Qeh l) Z1) (65537:Int)=EP l))) (by kernel_rfl) ?_
 delta GI LI LN N1 SI SM Z0 Z1 ZI QaU QqF Qeh RT
 simp only[Eg,Int.toNat_natCast,Bh,Bf,decide_eq_true_eq,decide_eq_false_iff_not,true_and,and_true,exists_const]
 have tk:∀i,i<l.length->∀P:Int->Prop,(∀z∈l.take i,P z)->P (l.getD i 0)->∀z∈l.take (i+1),P z:=fun i hi P h1 h2 z hz=>by
  rw[List.take_add_one,List.mem_append] at hz
  rcases hz with hz | hz
  ·exact h1 z hz
  ·rw[List.getElem?_eq_getElem hi] at hz
   simp at hz
   rw[hz]
   simpa[List.getD_eq_getElem?_getD,hi] using h2
 have hl8:l.length<=8:=by
  unfold Et at h
  split at h
  ·cases h
  ·omega
 have hnn:∀z∈l,0<=z:=by
  intro z hz
  unfold Et at h
  split at h
  ·cases h
  ·split at h
   ·cases h
   ·rename_i hn
    rw[List.any_eq_true] at hn
    by_cases h0:z<0
    ·exact (hn ⟨z,hz,decide_eq_true h0⟩).elim
    ·omega
 have hg:(goO l 1).isSome=true:=by
  unfold Et at h
  (repeat' split at h)<;>first | assumption | (cases h;done)
 refine⟨⟨0,⟨Nat.zero_le _,by simp⟩,rfl⟩,fun i hh=>⟨fun hlt=>?_,fun hge=>?_⟩⟩
 ·have hlt':i<l.length:=by omega
  refine⟨by omega,fun h=>?_,fun h=>⟨i+1,⟨by omega,tk i hlt' _ hh.2 (by simpa using h)⟩,by omega,Be (by omega) (by omega)⟩⟩
  have h0:l.getD i 0=0:=by simpa using h
  have:l.contains 0=true:=by
   rw[List.contains_iff_mem,<- h0,List.getD_eq_getElem?_getD,List.getElem?_eq_getElem hlt'];exact List.getElem_mem hlt'
  rw[EP,if_pos this]
 ·have hi:i=l.length:=by omega
  rw[hi,List.take_length] at hh
  refine⟨⟨CF l,hnn,by omega⟩,fun _ _=>?_⟩
  have:¬l.contains 0=true:=by
   rw[List.contains_iff_mem]
   exact fun hm=>hh.2 0 hm rfl
  rw[EP,if_neg this]
  cases hgo:goO l 1 with
  |none=>rw[hgo] at hg;cases hg
  |some p=>rfl
def EE(k:Int)(s:List Int)(nn ni:Nat):Int :=
 if k=1\/k=2\/k=3 then
  if Et s≠0 then Et s
  else if ((if k=3 then (ni:Int) else nn)≠EP s)\/((if k=3 then (nn:Int) else ni)≠0) then 16 else 0
 else 14
def Bex:Con:=fun k ds S=>match k with
 |157=>match ds with
  | [.sl 1 n f _]=>some (pC ds (.int .i64 (EP (BH n f))) (IntsP n f/\Es (BH n f)=true))
  |_=>none
 |150=>match ds with
  | [.sl 1 n f _]=>some (pC ds (.int .i64 (Et (BH n f))) (IntsP n f))
  |_=>none
 |152=>match ds with
  | [.sl 1 n f _]=>some (pC ds (.int .i64 (EP (BH n f))) (IntsP n f/\Et (BH n f)=0))
  |_=>none
 |k=>WQ k ds S
theorem BaA:ConOk Tryz.prog Bex:=by
 intro k ds S A h
 unfold Bex at h
 split at h
 ·split at h
  ·injection h with h;subst h
   exact EG fun ⟨h1,h2⟩=>⟨Bm _,C9 (C6 h1) (Bjb _ h2)⟩
  ·cases h
 ·split at h
  ·injection h with h;subst h
   exact EG fun h1=>⟨Bm _,C9 (C6 h1) (BjT _)⟩
  ·cases h
 ·split at h
  ·injection h with h;subst h
   exact EG fun ⟨h1,h2⟩=>⟨Bm _,C9 (C6 h1) (Bgn _ h2)⟩
  ·cases h
 ·exact Oq _ _ _ _ h
noncomputable def Eform:Senv:=EC Bex 44 5 [12,13,16,20,25,29,34] (fun id=>match id with | 1=>([0,1,2,3,4,5,6,7],[]) | _=>([],[]))
noncomputable section
def J8(a:Int)(b:List Int)(c d:Nat):Int:=EE a b c d
def VQ(a:List Int):Prop:=IntsP (LN a) fun i=>[ZI (GI a i)]
def Qei(a:List Int):Prop:=VQ a/\LN a<=9223372036854775807
def QaV(a:List Int):List Int:=BH (LN a) fun i=>[ZI (GI a i)]
def Qej(a:List Int):Bool:=decide (Z0<=ID (fun (d:Int)=>decide (d<Z0)) (QaV a) N0)
def Vo(a:Int)(b:List Int)(c d:Nat):Prop:=RT ((16:Int)=J8 a b c d)
def Qek(a:List Int):Bool:=Es (QaV a)
def YK(a:List Int):Bool:=!Qek a
def Qel(a:Int)(b:List Int)(c d:Nat):Prop:=True/\Vo a b c d
def Qem(a:List Int):Prop:=VQ a/\Qek a=true
def Qen(a:Nat)(b:List Int):Bool:=(↑a:Int) != EP (QaV b)
def Qeo(a:Nat)(b:List Int)(c:Int)(d e:Nat):Prop:=SM a/\ifB (decide ((8:Int)<(LI b))) (RT ((15:Int)=J8 c b d e)) (SM a/\Qei b/\∀(y:Unit),True->True/\ifB (Qej b) (Vo c b d e) (SM a/\VQ b/\∀(y:Unit),True->ifB (YK b) (RT ((21:Int)=J8 c b d e)) (SM a/\VQ b/\∀(y:Unit),True->ifB (YK b) (Qel c b d e) (Qem b/\∀(y:Unit),True->True/\ifB (Qen d b) (Vo c b d e) (ifB ((↑e:Int) != Z0) (Vo c b d e) (RT (Z0=J8 c b d e)))))))
def Qep(a:Int)(b:Nat)(c:List Int)(d e:Nat):Prop:=ifB (a==3) (SM b/\ifB (decide ((8:Int)<(LI c))) (RT ((15:Int)=J8 a c d e)) (SM b/\Qei c/\∀(y:Unit),True->True/\ifB (Qej c) (Vo a c d e) (SM b/\VQ c/\∀(y:Unit),True->ifB (YK c) (RT ((21:Int)=J8 a c d e)) (SM b/\VQ c/\∀(y:Unit),True->ifB (YK c) (Qel a c d e) (Qem c/\∀(y:Unit),True->True/\ifB (Qen e c) (Vo a c d e) (ifB ((↑d:Int) != Z0) (Vo a c d e) (RT (Z0=J8 a c d e)))))))) (RT ((14:Int)=J8 a c d e))
end
theorem Bjp(k : Int)(s : List Int)(nn ni : Nat)(g h : Nat -> List D)(hs : s.length<=maxLen)(hn : nn<=maxLen)(hi : ni<=maxLen) :
  ACalls Tryz.prog 137 [.agg [.int .i64 k,isl s .any,.sl 1 nn g .any,.sl 4 ni h .any]] ⟨[],[]⟩ (SpecR (sC [.agg [.int .i64 k,isl s .any,.sl 1 nn g .any,.sl 4 ni h .any]] (.int .i64 (EE k s nn ni))) ()):=by
 refine Bi (A:=sC _ _) (x:=()) (E:=Eform) (eOk BaA rfl) Tryz.func137 rfl (by kernel_rfl) rfl (by simp[sC,Eform,EC,E0]) ?_
 refine Bj (T :=
  ∀(x:Nat),True->SM x/\SM x/\SM x/\ifB (k==Z1) (ifB (k==Z1) (Qeo x s k nn ni) (Qep k x s nn ni)) (ifB (k==2) (Qeo x s k nn ni) (Qep k x s nn ni))) (by kernel_rfl) ?_
 delta GI LI LN N0 SM Z0 Z1 ZI J8 VQ Qen Qeo Qep Qei QaV Qej Vo Qek YK Qel Qem RT
 simp only[Eg,U6,Int.toNat_natCast,Bh,Bf,decide_eq_true_eq,decide_eq_false_iff_not,true_and,and_true,beq_iff_eq,bne_iff_ne,Bool.cond_false_right,Bool.cond_true_left,Bool.and_eq_true,Bool.and_eq_false_iff,beq_eq_false_iff_ne,ne_eq,exists_const,forall_const]
 simp only[maxLen] at hs hn hi
 have n8:(8<(s.length:Int))↔8<s.length:=by omega
 simp only[n8]
 repeat' (first
  |exact CF s
  |refine And.intro ?_ ?_
  |intro _)
 all_goals first
  |omega
  |(simp_all[EE,Et,Es];done)
  |grind [EE,Et,Es]
  |skip
 all_goals trace_state
def Arr.k:Arr->Int | .mk k _ _ _=>k
def Arr.sh:Arr->List Int | .mk _ s _ _=>s
def Arr.nu:Arr->List Int | .mk _ _ n _=>n
def Arr.it:Arr->List Arr | .mk _ _ _ i=>i
def Arr.row1(a:Arr):List D:=[.int .i64 a.k,isl a.sh .any,isl a.nu .any,gsl 4 Arr.row a.it]
def Arr.row2(a:Arr):List D:=[.int .i64 a.k,isl a.sh .any,isl a.nu .any,gsl 4 Arr.row1 a.it]
theorem BdN(l:List Arr):(IU l).length=l.length:=by rw[Gh];simp
theorem BgW(a:Arr):wkL a.row a.row1:=by
 cases a with
 |mk k s n is =>
  simp only[Arr.row,Arr.row1,Arr.k,Arr.sh,Arr.nu,Arr.it,gsl,isl,wkL,wkD,Bk,Ba]
  refine⟨⟨by simp[kEq],trivial⟩,⟨by simp,trivial,fun i _=>by simp[kEq],by simp[BB]⟩,⟨by simp,trivial,fun i _=>by simp[kEq],by simp[BB]⟩,⟨by simp,BdN is,fun i hi=>?_,by simp[BB]⟩,trivial⟩
  rw[BdN] at hi
  have:(IU is).getD i []=(is.getD i default).row:=by
   rw[Gh];simp[List.getD_eq_getElem?_getD,hi]
  rw[this]
  exact Bc _
theorem Mz(a:Arr):wkL a.row1 a.row2:=by
 simp only[Arr.row1,Arr.row2,gsl,isl,wkL,wkD,Bk,Ba]
 exact⟨⟨by simp[kEq],trivial⟩,⟨by simp,trivial,fun i _=>by simp[kEq],by simp[BB]⟩,⟨by simp,trivial,fun i _=>by simp[kEq],by simp[BB]⟩,⟨by simp,trivial,fun i _=>BgW _,by simp[BB]⟩,trivial⟩
def Bh8(z:Int):Bool:=decide (-4611686018427387903<=z)&&decide (z<=4611686018427387903)
def BiB(z:Int):Bool:=decide (0<=z)&&decide (z<=1114111)&&(decide (z<55296)||decide (57343<z))
def OW(k z:Int):Bool:=(k==1&&!Bh8 z)||(k==2&&!BiB z)
mutual
def Ck:Arr->Int×Int×Int
 |.mk k s n is =>
  if EE k s n.length is.length≠0 then (EE k s n.length is.length,0,0)
  else if n.any (OW k) then (17,0,0)
  else match MO is 0 ((n.length:Int)+is.length) with
   |none=>(17,0,0)
   |some r=>if 16<r.1\/262144<r.2 then (21,0,0) else (0,r.1,r.2)
def MO:List Arr->Int->Int->Option (Int×Int)
 | [],d,w=>some (d,w)
 |x::r,d,w=>if (Ck x).1≠0 then none else MO r (if d<(Ck x).2.1+1 then (Ck x).2.1+1 else d) (if 262145<w+(Ck x).2.2 then 262145 else w+(Ck x).2.2)
end
theorem Ba1:∀(l:List Arr) (d w d' w':Int),MO l d w=some (d',w')->0<=d->0<=w->(∀x∈l,(Ck x).1=0->0<=(Ck x).2.1/\0<=(Ck x).2.2)->0<=d'/\0<=w'
 | [],d,w,d',w',h,h1,h2,_=>by
  rw[MO] at h;injection h with h;injection h with e1 e2;omega
 |x::r,d,w,d',w',h,h1,h2,h3=>by
  rw[MO] at h
  split at h
  ·cases h
  ·rename_i hx
   have hx:(Ck x).1=0:=by simpa using hx
   have:=h3 x (by simp) hx
   refine Ba1 r _ _ d' w' h ?_ ?_ fun y hy=>h3 y (by simp[hy])
   ·split<;>omega
   ·split<;>omega
theorem TG:∀(a:Arr),(0<=(Ck a).2.1/\(Ck a).2.1<=16)/\0<=(Ck a).2.2/\(Ck a).2.2<=262144
 |.mk k s n is=>by
  rw[Ck]
  split
  ·simp
  ·split
   ·simp
   ·split
    ·simp
    ·rename_i r hr
     split
     ·simp
     ·rename_i hb
      have:=Ba1 is 0 _ r.1 r.2 hr (by omega) (by omega) fun x hx _=>by
       have:=TG x
       omega
      simp only
      omega
termination_by a=>SizeOf.sizeOf a
decreasing_by
 have:=List.sizeOf_lt_of_mem hx
 simp;omega
mutual
inductive Nd where
 |mk (kd at_ cl:Int) (tx:List UInt8) (pr op:Int) (va:Arr) (ki:List Nd) (bo:List Sm) (de sl ss:Int)
inductive Sm where
 |mk (kd at_:Int) (nm:List UInt8) (sl:Int) (te nd:Nd)
end
def Nd.kd:Nd->Int | .mk x _ _ _ _ _ _ _ _ _ _ _=>x
def Nd.at_:Nd->Int | .mk _ x _ _ _ _ _ _ _ _ _ _=>x
def Nd.cl:Nd->Int | .mk _ _ x _ _ _ _ _ _ _ _ _=>x
def Nd.tx:Nd->List UInt8 | .mk _ _ _ x _ _ _ _ _ _ _ _=>x
def Nd.pr:Nd->Int | .mk _ _ _ _ x _ _ _ _ _ _ _=>x
def Nd.op:Nd->Int | .mk _ _ _ _ _ x _ _ _ _ _ _=>x
def Nd.va:Nd->Arr | .mk _ _ _ _ _ _ x _ _ _ _ _=>x
def Nd.ki:Nd->List Nd | .mk _ _ _ _ _ _ _ x _ _ _ _=>x
def Nd.bo:Nd->List Sm | .mk _ _ _ _ _ _ _ _ x _ _ _=>x
def Nd.de:Nd->Int | .mk _ _ _ _ _ _ _ _ _ x _ _=>x
def Nd.sl:Nd->Int | .mk _ _ _ _ _ _ _ _ _ _ x _=>x
def Nd.ss:Nd->Int | .mk _ _ _ _ _ _ _ _ _ _ _ x=>x
def Sm.kd:Sm->Int | .mk x _ _ _ _ _=>x
def Sm.at_:Sm->Int | .mk _ x _ _ _ _=>x
def Sm.nm:Sm->List UInt8 | .mk _ _ x _ _ _=>x
def Sm.sl:Sm->Int | .mk _ _ _ x _ _=>x
def Sm.te:Sm->Nd | .mk _ _ _ _ x _=>x
def Sm.nd:Sm->Nd | .mk _ _ _ _ _ x=>x
def nd0:Nd:=.mk 0 0 0 [] 0 0 (.mk 0 [] [] []) [] [] 0 0 0
instance:Inhabited Nd:=⟨nd0⟩
instance:Inhabited Sm:=⟨.mk 0 0 [] 0 nd0 nd0⟩
def lsl(w:Nat)(l:List (List D)):D:=.sl w l.length (fun i=>l.getD i []) .any
mutual
def Nd.row:Nd->List D
 |.mk kd at_ cl tx pr op va ki bo de sl ss=>[.int .i64 kd,.int .i64 at_,.int .i64 cl,.str tx,.int .i64 pr,.int .i64 op,.int .i64 va.k,isl va.sh .any,isl va.nu .any,gsl 4 Arr.row va.it,lsl 15 (Gu ki),lsl 34 (CX bo),.int .i64 de,.int .i64 sl,.int .i64 ss]
def Sm.row:Sm->List D
 |.mk kd at_ nm sl te nd=>.int .i64 kd::.int .i64 at_::.str nm::.int .i64 sl::(te.row++nd.row)
def Gu:List Nd->List (List D)
 | []=>[]
 |x::r=>x.row::Gu r
def CX:List Sm->List (List D)
 | []=>[]
 |x::r=>x.row::CX r
end
mutual
def Nd.ok:Nd->Prop
 |.mk kd at_ cl _ pr op va ki bo de sl ss=>(BY kd/\BY at_/\BY cl/\BY pr/\BY op/\BY de/\BY sl/\BY ss)/\va.ok/\IA ki/\GY bo
def Sm.ok:Sm->Prop
 |.mk kd at_ _ sl te nd=>(BY kd/\BY at_/\BY sl)/\te.ok/\nd.ok
def IA:List Nd->Prop
 | []=>True
 |x::r=>x.ok/\IA r
def GY:List Sm->Prop
 | []=>True
 |x::r=>x.ok/\GY r
end
mutual
/-- Nothing in it is longer than a machine's memory. -/
def Nd.sm:Nd->Prop
 |.mk _ _ _ tx _ _ va ki bo _ _ _=>(tx.length<=BU/\ki.length<=BU/\bo.length<=BU)/\va.sm/\IC ki/\GM bo
def Sm.sm:Sm->Prop
 |.mk _ _ nm _ te nd=>nm.length<=BU/\te.sm/\nd.sm
def IC:List Nd->Prop
 | []=>True
 |x::r=>x.sm/\IC r
def GM:List Sm->Prop
 | []=>True
 |x::r=>x.sm/\GM r
end
theorem EL:∀(l:List Nd),Gu l=l.map Nd.row
 | []=>by simp only[Gu,List.map_nil]
 |a::l=>by simp only[Gu,List.map_cons,EL l]
theorem Cc:∀(l:List Sm),CX l=l.map Sm.row
 | []=>by simp only[CX,List.map_nil]
 |a::l=>by simp only[CX,List.map_cons,Cc l]
theorem OS:∀(l:List Nd),IA l↔∀a∈l,a.ok
 | []=>by simp[IA]
 |a::l=>by simp only[IA,List.forall_mem_cons,OS l]
theorem Mu:∀(l:List Sm),GY l↔∀a∈l,a.ok
 | []=>by simp[GY]
 |a::l=>by simp only[GY,List.forall_mem_cons,Mu l]
theorem O9:∀(l:List Nd),IC l↔∀a∈l,a.sm
 | []=>by simp[IC]
 |a::l=>by simp only[IC,List.forall_mem_cons,O9 l]
theorem G8:∀(l:List Sm),GM l↔∀a∈l,a.sm
 | []=>by simp[GM]
 |a::l=>by simp only[GM,List.forall_mem_cons,G8 l]
def Nd.rowE(n:Nd):List D:=[.int .i64 n.kd,.int .i64 n.at_,.int .i64 n.cl,.str n.tx,.int .i64 n.pr,.int .i64 n.op,.int .i64 n.va.k,isl n.va.sh .any,isl n.va.nu .any,gsl 4 Arr.row n.va.it,gsl 15 Nd.row n.ki,gsl 34 Sm.row n.bo,.int .i64 n.de,.int .i64 n.sl,.int .i64 n.ss]
def Nd.row1(n:Nd):List D:=n.rowE
def Sm.row1(s:Sm):List D:=.int .i64 s.kd::.int .i64 s.at_::.str s.nm::.int .i64 s.sl::(s.te.rowE++s.nd.rowE)
def Nd.row2(n:Nd):List D:=[.int .i64 n.kd,.int .i64 n.at_,.int .i64 n.cl,.str n.tx,.int .i64 n.pr,.int .i64 n.op,.int .i64 n.va.k,isl n.va.sh .any,isl n.va.nu .any,gsl 4 Arr.row n.va.it,gsl 15 Nd.row1 n.ki,gsl 34 Sm.row1 n.bo,.int .i64 n.de,.int .i64 n.sl,.int .i64 n.ss]
def Sm.row2(s:Sm):List D:=.int .i64 s.kd::.int .i64 s.at_::.str s.nm::.int .i64 s.sl::(s.te.row2++s.nd.row2)
theorem Oo:∀ {a a' b b':List D},wkL a a'->wkL b b'->wkL (a++b) (a'++b')
 | [],[],_,_,_,h=>h
 | [],_::_,_,_,h,_=>by simp[wkL] at h
 |_::_,[],_,_,h,_=>by simp[wkL] at h
 |x::a,y::a',b,b',h,h2=>by
  simp only[wkL,List.cons_append] at h ⊢
  exact⟨h.1,Oo h.2 h2⟩
theorem Bds{α:Type}[Inhabited α]{w:Nat}{g:α->List D}{l:List α}:wkD (lsl w (l.map g)) (gsl w g l):=by
 simp only[lsl,gsl,wkD,Ba]
 refine⟨by simp,by simp,fun i hi=>?_,by simp[BB]⟩
 have hi:i<l.length:=by simpa using hi
 have:(l.map g).getD i []=g (l.getD i default):=by simp[List.getD_eq_getElem?_getD,hi]
 rw[this]
 exact Bc _
theorem U5{α:Type}[Inhabited α]{w:Nat}{g g':α->List D}{l:List α}(h:∀x,wkL (g x) (g' x)):wkD (gsl w g l) (gsl w g' l):=by
 simp only[gsl,wkD,Ba]
 exact⟨by simp,trivial,fun i _=>h _,by simp[BB]⟩
theorem BaW(n:Nd):wkL n.row n.row1:=by
 cases n with
 |mk kd at_ cl tx pr op va ki bo de sl ss =>
  simp only[Nd.row,Nd.row1,Nd.rowE,Nd.kd,Nd.at_,Nd.cl,Nd.tx,Nd.pr,Nd.op,Nd.va,Nd.ki,Nd.bo,Nd.de,Nd.sl,Nd.ss,wkL,EL,Cc]
  exact⟨Bb _,Bb _,Bb _,Bb _,Bb _,Bb _,Bb _,Bb _,Bb _,Bb _,Bds,Bds,Bb _,Bb _,Bb _,trivial⟩
theorem Bkt(s:Sm):wkL s.row s.row1:=by
 cases s with
 |mk kd at_ nm sl te nd =>
  simp only[Sm.row,Sm.row1,Sm.kd,Sm.at_,Sm.nm,Sm.sl,Sm.te,Sm.nd,wkL]
  exact⟨Bb _,Bb _,Bb _,Bb _,Oo (BaW _) (BaW _)⟩
theorem GC(n:Nd):wkL n.row1 n.row2:=by
 simp only[Nd.row1,Nd.rowE,Nd.row2,wkL]
 exact⟨Bb _,Bb _,Bb _,Bb _,Bb _,Bb _,Bb _,Bb _,Bb _,Bb _,U5 BaW,U5 Bkt,Bb _,Bb _,Bb _,trivial⟩
theorem dn:(default:Nd)=Nd.mk 0 0 0 [] 0 0 (Arr.mk 0 [] [] []) [] [] 0 0 0:=of_eq_true (eq_true rfl)
theorem dm:(default:Sm)=Sm.mk 0 0 [] 0 (Nd.mk 0 0 0 [] 0 0 (Arr.mk 0 [] [] []) [] [] 0 0 0) (Nd.mk 0 0 0 [] 0 0 (Arr.mk 0 [] [] []) [] [] 0 0 0):=of_eq_true (eq_true rfl)
def RNd:List D->Prop:=fun ds=>∃n:Nd,(n.ok/\n.sm)/\ds=n.row
def RSm:List D->Prop:=fun ds=>∃s:Sm,(s.ok/\s.sm)/\ds=s.row
theorem Beh(W:World)(m:Nat)(hn:∀k,k<m->ReadAt Tryz.prog W k 48 RNd):ReadAt Tryz.prog W m 55 RSm:=by
 cases m with
 |zero=>exact .zero _ _
 |succ k =>
  refine (GU Tryz.underlying55 (by kernel_rfl) (Rs:=[RInt .i64,RInt .i64,RStr,RInt .i64,RNd,RNd]) ⟨G9 (by kernel_rfl) W k,G9 (by kernel_rfl) W k,Tq (by kernel_rfl) W k,G9 (by kernel_rfl) W k,hn k (Nat.lt_succ_self k),hn k (Nat.lt_succ_self k),trivial⟩).mono ?_
  rintro ds ⟨_,_,h1,⟨_,_,h2,⟨_,_,h3,⟨_,_,h4,⟨_,_,h5,⟨_,_,h6,h7,rfl⟩,rfl⟩,rfl⟩,rfl⟩,rfl⟩,rfl⟩
  obtain rfl:_=[]:=h7
  obtain ⟨kd,kd1,rfl⟩:=CU _ h1
  obtain ⟨at_,at1,rfl⟩:=CU _ h2
  obtain ⟨nm,rfl,nm1⟩:=h3
  obtain ⟨sl,sl1,rfl⟩:=CU _ h4
  obtain ⟨te,⟨te1,te2⟩,rfl⟩:=h5
  obtain ⟨nd,⟨nd1,nd2⟩,rfl⟩:=h6
  refine⟨.mk kd at_ nm sl te nd,⟨?_,?_⟩,?_⟩
  ·simp only[Sm.ok]
   exact⟨⟨kd1,at1,sl1⟩,te1,nd1⟩
  ·simp only[Sm.sm]
   exact⟨nm1,te2,nd2⟩
  ·simp only[Sm.row,List.cons_append,List.nil_append,List.append_nil]
theorem Bdx(W:World):∀n,ReadAt Tryz.prog W n 48 RNd:=by
 intro n
 induction n using Nat.strongRecOn with
 |_ n ih =>
  cases n with
  |zero=>exact .zero _ _
  |succ m =>
   have hk:ReadAt Tryz.prog W m 46 (RSliceA 15 RNd):=by
    cases m with
    |zero=>exact .zero _ _
    |succ k=>exact EQ (w:=15) Tryz.underlying46 (by kernel_rfl) (by decide) (by decide +kernel) (ih k (by omega))
   have hb:ReadAt Tryz.prog W m 22 (RSliceA 34 RSm):=by
    cases m with
    |zero=>exact .zero _ _
    |succ k=>exact EQ (w:=34) Tryz.underlying22 (by kernel_rfl) (by decide) (by decide +kernel) (Beh W k fun j hj=>ih j (by omega))
   have ri:∀t,Tryz.prog.underlying t=some (.int .i64)->ReadAt Tryz.prog W m t (RInt .i64):=fun t ht=>G9 ht W m
   refine (GU Tryz.underlying48 (by kernel_rfl) (Rs:=[RInt .i64,RInt .i64,RInt .i64,RStr,RInt .i64,RInt .i64,RArr,RSliceA 15 RNd,RSliceA 34 RSm,RInt .i64,RInt .i64,RInt .i64])
    ⟨ri _ (by kernel_rfl),ri _ (by kernel_rfl),ri _ (by kernel_rfl),Tq (by kernel_rfl) W m,ri _ (by kernel_rfl),ri _ (by kernel_rfl),Bb7 W m,hk,hb,ri _ (by kernel_rfl),ri _ (by kernel_rfl),ri _ (by kernel_rfl),trivial⟩).weak ?_
   rintro _ ds vs ⟨_,_,h1,⟨_,_,h2,⟨_,_,h3,⟨_,_,h4,⟨_,_,h5,⟨_,_,h6,⟨_,_,h7,⟨_,_,h8,⟨_,_,h9,⟨_,_,h10,⟨_,_,h11,⟨_,_,h12,h13,rfl⟩,rfl⟩,rfl⟩,rfl⟩,rfl⟩,rfl⟩,rfl⟩,rfl⟩,rfl⟩,rfl⟩,rfl⟩,rfl⟩ hr
   obtain rfl:_=[]:=h13
   obtain ⟨kd,kd1,rfl⟩:=CU _ h1
   obtain ⟨at_,at1,rfl⟩:=CU _ h2
   obtain ⟨cl,cl1,rfl⟩:=CU _ h3
   obtain ⟨tx,rfl,tx1⟩:=h4
   obtain ⟨pr,pr1,rfl⟩:=CU _ h5
   obtain ⟨op,op1,rfl⟩:=CU _ h6
   obtain ⟨va,⟨va1,va2⟩,rfl⟩:=h7
   obtain ⟨l,l1,l2,rfl⟩:=h8
   obtain ⟨b,b1,b2,rfl⟩:=h9
   obtain ⟨de,de1,rfl⟩:=CU _ h10
   obtain ⟨sl,sl1,rfl⟩:=CU _ h11
   obtain ⟨ss,ss1,rfl⟩:=CU _ h12
   obtain ⟨ki,qk,rfl⟩:=MA (g:=Nd.row) (Q:=fun a=>a.ok/\a.sm) (fun x hx=>hx) l l1
   obtain ⟨bo,qb,rfl⟩:=MA (g:=Sm.row) (Q:=fun a=>a.ok/\a.sm) (fun x hx=>hx) b b1
   have l2:ki.length<=BU:=by simpa using l2
   have b2:bo.length<=BU:=by simpa using b2
   refine⟨(Nd.mk kd at_ cl tx pr op va ki bo de sl ss).row,⟨_,⟨?_,?_⟩,rfl⟩,Ic _ _ ?_ _ _ hr⟩
   ·simp only[Nd.ok]
    exact⟨⟨kd1,at1,cl1,pr1,op1,de1,sl1,ss1⟩,va1,(OS _).2 fun a ha=>(qk a ha).1,(Mu _).2 fun a ha=>(qb a ha).1⟩
   ·simp only[Nd.sm]
    exact⟨⟨tx1,l2,b2⟩,va2,(O9 _).2 fun a ha=>(qk a ha).2,(G8 _).2 fun a ha=>(qb a ha).2⟩
   ·simp only[Nd.row,EL,Cc,List.cons_append,List.nil_append,List.append_nil,wkL]
    refine⟨Bb _,Bb _,Bb _,Bb _,Bb _,Bb _,?_⟩
    have h:=Oo (BgW va) (Bc (lsl 15 (ki.map Nd.row)::lsl 34 (bo.map Sm.row)::[D.int .i64 de,D.int .i64 sl,D.int .i64 ss]))
    simp only[Arr.row1,List.cons_append,List.nil_append] at h
    exact h
def dig(b:UInt8):Bool:=decide (48<=b.toNat)&&decide (b.toNat<=57)
def low(b:UInt8):Bool:=decide (97<=b.toNat)&&decide (b.toNat<=122)
def asc(s:String):List UInt8:=s.toUTF8.data.toList
def resL : List (List UInt8) := ["X", "Y", "F", "G", "self", "arg", "min", "max", "and", "or", "not", "shape", "reshape", "tally", "depth", "stack", "iota", "take", "drop", "first", "reverse", "rotate", "transpose", "from", "pick", "select", "amend", "up", "down", "sort", "find", "in", "unique", "where", "copy", "expand", "cut", "encode", "decode", "box", "open", "same", "kind", "ord", "chr", "format", "left", "right", "each", "swap", "outer", "inner", "rank", "power", "stencil", "atop", "over"].map asc
def sgnL : List (List UInt8) := ["+", "-", "*", "%", "|", "^", "<", "<=", "=", "~=", ">=", ">", ",", "/", "\\"].map asc
def RM(s:List UInt8):Bool:=resL.contains s||sgnL.contains s
structure Tok where
 kind:Int
 at_:Int
 len:Int
 num:Int
 text:List UInt8
deriving Inhabited,DecidableEq
def Tok.row(t:Tok):List D:=[.int .i64 t.kind,.int .i64 t.at_,.int .i64 t.len,.int .i64 t.num,.str t.text]
def CG:List UInt8->List UInt8->Bool
 | [],_=>false
 |b::r,s=>(b==32&&decide (s.length<r.length)&&r.take s.length==s&&r.getD s.length 0==32)||CG r s
def Ed(t s:List UInt8):Bool:=!s.isEmpty&&s.all (fun b=>b != 32)&&CG t s
def Oe(ws:List (List UInt8)):List UInt8:=ws.flatMap (fun w=>32::w)++[32]
theorem Wd(w:List UInt8)(ws:List (List UInt8)):Oe (w::ws)=32::(w++Oe ws):=by simp[Oe]
theorem Bdo(ws:List (List UInt8)):∃r,Oe ws=32::r:=by
 cases ws with
 |nil=>exact⟨[],rfl⟩
 |cons w ws=>exact⟨_,Wd w ws⟩
theorem TO(s r:List UInt8):∀(w:List UInt8),(∀b∈w,b≠32)->CG (w++r) s=CG r s
 | [],_=>rfl
 |b::w,h=>by
  have hb:(b==32)=false:=by simpa using h b (by simp)
  simp only[List.cons_append,CG,hb,Bool.false_and,Bool.false_or]
  exact TO s r w fun c hc=>h c (by simp[hc])
theorem Bcp{s w r : List UInt8}(hs : ∀b∈s, b≠32)(hw : ∀b∈w, b≠32) :
  (decide (s.length<(w++32::r).length)&&(w++32::r).take s.length==s&&(w++32::r).getD s.length 0==32)=(s==w):=by
 by_cases h:s=w
 ·subst h
  simp
 ·have h2:(s==w)=false:=by simpa using h
  rw[h2]
  by_cases h3:(w++32::r).take s.length=s
  ·by_cases h4:(w++32::r).getD s.length 0=32
   ·exfalso
    rcases Nat.lt_trichotomy s.length w.length with hl | hl | hl
    ·rw[List.getD_eq_getElem?_getD,List.getElem?_append_left hl,List.getElem?_eq_getElem hl] at h4
     exact hw _ (List.getElem_mem hl) h4
    ·rw[hl,List.take_left] at h3
     exact h h3.symm
    ·have:(32:UInt8)∈s:=by
      rw[<- h3]
      have:s.length=w.length+(s.length-w.length-1+1):=by omega
      rw[this,List.take_append]
      simp
     exact hs _ this rfl
   ·have h4:((w++32::r).getD s.length 0==32)=false:=by simpa using h4
    rw[h4,Bool.and_false]
  ·have h3:((w++32::r).take s.length==s)=false:=by simpa using h3
   rw[h3,Bool.and_false,Bool.false_and]
theorem OO{s:List UInt8}(hs:∀b∈s,b≠32):∀(ws:List (List UInt8)),(∀w∈ws,∀b∈w,b≠32)->CG (Oe ws) s=ws.contains s
 | [],_=>by simp[Oe,CG]
 |w::ws,h=>by
  obtain ⟨r,hr⟩:=Bdo ws
  have ih:=OO hs ws fun v hv=>h v (by simp[hv])
  rw[Wd]
  simp only[CG,beq_self_eq_true,Bool.true_and,List.contains_cons]
  rw[TO s _ w (h w (by simp)),ih]
  congr 1
  rw[hr]
  exact Bcp hs (h w (by simp))
theorem M3{s:List UInt8}(ws:List (List UInt8))(h:(ws.all fun w=>!w.isEmpty&&w.all fun b=>b != 32)=true):Ed (Oe ws) s=ws.contains s:=by
 have h1:∀w∈ws,w≠[]/\∀b∈w,b≠32:=fun w hw=>by
  have:=List.all_eq_true.1 h w hw
  simp only[Bool.and_eq_true,Bool.not_eq_true',List.isEmpty_eq_false_iff,List.all_eq_true,bne_iff_ne] at this
  exact this
 unfold Ed
 cases he:s.isEmpty with
 |true =>
  have:s=[]:=List.isEmpty_iff.1 he
  subst this
  cases hc:ws.contains [] with
  |false=>rfl
  |true=>exact ((h1 [] (by simpa using hc)).1 rfl).elim
 |false =>
  cases ha:s.all fun b=>b != 32 with
  |false =>
   cases hc:ws.contains s with
   |false=>rfl
   |true =>
    have:=(h1 s (by simpa using hc)).2
    rw[List.all_eq_false] at ha
    obtain ⟨b,hb,hb2⟩:=ha
    exact (this b hb (by simpa using hb2)).elim
  |true =>
   simp only[Bool.not_false,Bool.true_and]
   exact OO (fun b hb=>by simpa using List.all_eq_true.1 ha b hb) ws fun w hw=>(h1 w hw).2
def BbY : List UInt8 := asc " X Y F G self arg min max and or not shape reshape tally depth stack iota take drop first reverse rotate transpose from pick select amend up down sort find in unique where copy expand cut encode decode box open same kind ord chr format left right each swap outer inner rank power stencil atop over "
def Ba9 : List UInt8 := asc " + - * % | ^ < <= = ~= >= > , / \\ "
theorem Bb1:BbY=Oe resL:=by decide +kernel
theorem Bcj:Ba9=Oe sgnL:=by decide +kernel
theorem Bci(s:List UInt8):Ed BbY s=resL.contains s:=by rw[Bb1];exact M3 _ (by decide +kernel)
theorem Bbh(s:List UInt8):Ed Ba9 s=sgnL.contains s:=by rw[Bcj];exact M3 _ (by decide +kernel)
def Wv(w:List UInt8):Bool:=!w.isEmpty&&low (w.getD 0 0)&&w.all fun b=>low b||dig b
def Em(w:List UInt8):Bool:=Wv w&&decide (w.length<=32)&&!RM w
def Bg(s:Sm):List Nd:=if s.kd=3 then [s.te,s.nd] else [s.nd]
def BK(n:Nd):List Nd:=n.ki++n.bo.flatMap Bg
mutual
def dpN:Nd->Nat
 |.mk _ _ _ _ _ _ _ ki bo _ _ _=>1+max (dpL ki) (dpB bo)
def dpL:List Nd->Nat
 | []=>0
 |x::r=>max (dpN x) (dpL r)
def dpB:List Sm->Nat
 | []=>0
 |x::r=>max (dpM x) (dpB r)
def dpM:Sm->Nat
 |.mk kd _ _ _ te nd=>if kd=3 then max (dpN te) (dpN nd) else dpN nd
end
mutual
def szN:Nd->Nat
 |.mk _ _ _ _ _ _ _ ki bo _ _ _=>1+szL ki+szB bo
def szL:List Nd->Nat
 | []=>0
 |x::r=>szN x+szL r
def szB:List Sm->Nat
 | []=>0
 |x::r=>szM x+szB r
def szM:Sm->Nat
 |.mk kd _ _ _ te nd=>if kd=3 then szN te+szN nd else szN nd
end
theorem Uc:∀a b:List Nd,dpL (a++b)=max (dpL a) (dpL b)
 | [],b=>by simp only[List.nil_append,dpL];omega
 |x::a,b=>by simp only[List.cons_append,dpL,Uc a b];omega
theorem M8:∀a b:List Nd,szL (a++b)=szL a+szL b
 | [],b=>by simp only[List.nil_append,szL];omega
 |x::a,b=>by simp only[List.cons_append,szL,M8 a b];omega
theorem Bfp(s:Sm):dpM s=dpL (Bg s):=by
 cases s with
 |mk kd at_ nm sl te nd =>
  have e:Bg (.mk kd at_ nm sl te nd)=if kd=3 then [te,nd] else [nd]:=rfl
  rw[e,dpM]
  split<;>(simp only[dpL];omega)
theorem Be8(s:Sm):szM s=szL (Bg s):=by
 cases s with
 |mk kd at_ nm sl te nd =>
  have e:Bg (.mk kd at_ nm sl te nd)=if kd=3 then [te,nd] else [nd]:=rfl
  rw[e,szM]
  split<;>(simp only[szL];omega)
theorem G4:∀l:List Sm,dpB l=dpL (l.flatMap Bg)
 | []=>by simp only[dpB,List.flatMap_nil,dpL]
 |s::l=>by rw[dpB,List.flatMap_cons,Uc,Bfp,G4 l]
theorem OV:∀l:List Sm,szB l=szL (l.flatMap Bg)
 | []=>by simp only[szB,List.flatMap_nil,szL]
 |s::l=>by rw[szB,List.flatMap_cons,M8,Be8,OV l]
theorem Mv(n:Nd):dpN n=1+dpL (BK n):=by
 cases n
 simp only[dpN,BK,Nd.ki,Nd.bo,Uc,G4]
theorem OY(n:Nd):szN n=1+szL (BK n):=by
 cases n
 simp only[szN,BK,Nd.ki,Nd.bo,M8,OV]
 omega
theorem Bay(n:Nd):1<=dpN n:=by rw[Mv];omega
theorem Bey(n:Nd):1<=szN n:=by rw[OY];omega
theorem Mf:∀ {l:List Nd} {x:Nd},x∈l->dpN x<=dpL l
 |y::l,x,h=>by
  simp only[dpL]
  rcases List.mem_cons.1 h with rfl | h
  ·omega
  ·have:=Mf h;omega
theorem Bek:∀ {l:List Nd} {x:Nd},x∈l->szN x<=szL l
 |y::l,x,h=>by
  simp only[szL]
  rcases List.mem_cons.1 h with rfl | h
  ·omega
  ·have:=Bek h;omega
def primL : List (List UInt8) := ["", "+", "-", "*", "%", "|", "^", "min", "max", "<", "<=", "=", "~=", ">=", ">", "and", "or", "not", "shape", "reshape", "tally", "depth", ",", "stack", "iota", "take", "drop", "first", "reverse", "rotate", "transpose", "from", "pick", "select", "amend", "up", "down", "sort", "find", "in", "unique", "where", "copy", "expand", "cut", "encode", "decode", "box", "open", "same", "kind", "ord", "chr", "format", "left", "right"].map asc
def opL : List (List UInt8) := ["", "/", "\\", "each", "swap", "outer", "inner", "rank", "power", "stencil", "atop", "over"].map asc
def EH(p:Int):List UInt8:=if p<1\/56<=p then [] else primL.getD p.toNat []
def opT(p:Int):List UInt8:=if p<1\/12<=p then [] else opL.getD p.toNat []
def Beq(a:Arr):Bool:=a.k==0&&a.sh.isEmpty&&a.nu.isEmpty&&a.it.isEmpty
def G7(n:Nd)(k:Int):Bool :=
 n.kd==k&&decide (0<=n.at_)&&decide (0<=n.de)&&decide (0<=n.sl)&&decide (0<=n.ss)&&(n.tx.isEmpty||k==2)&&(n.pr==0||k==9)&&(n.op==0||k==17)&&(Beq n.va||k==1)&&(n.bo.isEmpty||k==10)
def Iv(n:Nd):Bool:=n.kd==0&&n.at_==0&&n.cl==0&&n.de==0&&n.sl==0&&n.ss==0&&G7 n 0&&n.ki.isEmpty
def BA(n:Nd)(l:List Int):Bool:=n.ki.map Nd.cl==l
def GD(n:Nd):Bool :=
 n.ki.isEmpty&&(
  if n.kd=1 then n.cl==1&&(Ck n.va).1==0&&((n.va.sh.isEmpty&&n.va.k != 3)||(n.va.sh.length==1&&n.va.k==2))
  else if n.kd=2 then decide (1<=n.cl)&&decide (n.cl<=4)&&Em n.tx
  else if n.kd=6\/n.kd=7\/n.kd=8 then n.cl==1
  else if n.kd=9 then n.cl==2&&!(EH n.pr).isEmpty
  else if n.kd=11\/n.kd=12\/n.kd=13 then n.cl==2
  else if n.kd=17 then n.cl==(if n.op<=5 then 3 else 4)&&!(opT n.op).isEmpty
  else false)
def G2(n:Nd):Int:=if (n.ki.getD 0 default).kd=17/\((n.ki.getD 0 default).op=7\/(n.ki.getD 0 default).op=8\/(n.ki.getD 0 default).op=9) then 1 else 2
def EF(n:Nd):Bool :=
 if n.kd=3 then n.cl==1&&decide (2<=n.ki.length)&&decide (n.ki.length<=1000)&&BA n (List.replicate n.ki.length 1)
 else if n.kd=4 then n.cl==1&&BA n [2,1]
 else if n.kd=5 then n.cl==1&&BA n [2,1,1]
 else if n.kd=14 then n.cl==2&&BA n [3,2]
 else if n.kd=15 then n.cl==2&&BA n [4,2,G2 n]
 else if n.kd=16 then n.cl==2&&(BA n [2,2]||BA n [2,2,2]||BA n [1,2,2])
 else false
mutual
/-- A kind of leaf occurs outside inner lambdas. -/
def Gr(k:Int):Nd->Bool
 |.mk kd _ _ _ _ _ _ ki _ _ _ _=>kd==k||(kd != 10&&BbX k ki)
def BbX(k:Int):List Nd->Bool
 | []=>false
 |x::r=>Gr k x||BbX k r
end
def Ec(l:List Sm)(k:Int):Bool:=l.any fun s=>(Bg s).any (Gr k)
def Tn(n:Nd):Bool :=
 n.ki.isEmpty&&!n.bo.isEmpty&&(n.bo.getD (n.bo.length-1) default).kd==1 &&
  (if n.cl=2 then !(Ec n.bo 12)&&!(Ec n.bo 13) else if n.cl=3 then Ec n.bo 12&&!(Ec n.bo 13) else if n.cl=4 then Ec n.bo 13 else false)
def CD(k:Nat)(ds:List D)(d:D):Prop:=ACalls Tryz.prog k ds ⟨[],[]⟩ (SpecR (sC ds d) ())
def CS(k:Nat)(ds:List D)(S:St)(d:D):Prop:=ACalls Tryz.prog k ds S (fun r S'=>r=.ret d/\S'=S)
theorem CS.frame{k:Nat}{ds:List D}{S:St}{d:D}(F:St)(h:CS k ds S d):CS k ds (S.add F) d:=by
 refine ((ACalls.frame h F).from fun C F' w H=>H).mono ?_
 rintro r S' ⟨S0,⟨rfl,rfl⟩,rfl⟩
 exact⟨rfl,rfl⟩
theorem CD.at_{k:Nat}{ds:List D}{d:D}(h:CD k ds d)(S:St):CS k ds S d:=ACalls.whole S h
theorem CS.wk{k:Nat}{ds us:List D}{S:St}{d:D}(h:CS k us S d)(hw:wkL ds us):CS k ds S d:=ACalls.wkArgs h hw
theorem CS.cd{k:Nat}{ds:List D}{d:D}(h:CS k ds ⟨[],[]⟩ d):CD k ds d:=ACalls.mono h fun _ _ ⟨h1,h2⟩=>⟨(),trivial,h1,h2⟩
theorem Cl{k : Nat}{β : Type}{ds : List D}{S : St}{d : β -> D}{p : β -> Prop}(h : ∀x, p x -> CS k ds S (d x)) :
  (∀x,(pE ds S d p).pre x->ACalls Tryz.prog k ((pE ds S d p).args x) ((pE ds S d p).st x) (SpecR (pE ds S d p) x))/\(∀x,(pE ds S d p).fit=some x->(pE ds S d p).pre x->Bz ds ((pE ds S d p).args x)/\leS ((pE ds S d p).st x) S)/\((pE ds S d p).all=true->∀x,(pE ds S d p).pre x->Bz ds ((pE ds S d p).args x)/\(pE ds S d p).st x=S) :=
 ⟨fun x hp=>ACalls.mono (h x hp) fun _ _ ⟨h1,h2⟩=>⟨(),trivial,h1,h2⟩,fun _ e=>(by cases e),fun _ _ _=>⟨Bm ds,rfl⟩⟩
def pA(ds:List D)(S:St)(d:D)(p:Prop):FnSpec:=pE (β:=Unit) ds S (fun _=>d) fun _=>p
theorem Bs{k : Nat}{ds : List D}{S : St}{d : D}{p : Prop}(h : p -> CS k ds S d) :
  (∀x,(pA ds S d p).pre x->ACalls Tryz.prog k ((pA ds S d p).args x) ((pA ds S d p).st x) (SpecR (pA ds S d p) x))/\(∀x,(pA ds S d p).fit=some x->(pA ds S d p).pre x->Bz ds ((pA ds S d p).args x)/\leS ((pA ds S d p).st x) S)/\((pA ds S d p).all=true->∀x,(pA ds S d p).pre x->Bz ds ((pA ds S d p).args x)/\(pA ds S d p).st x=S) :=
 Cl fun _ hp=>h hp
def sS(ds:List D)(S:St)(d:D):FnSpec where
 β:=Unit
 α:=Unit
 args:=fun _=>ds
 st:=fun _=>S
 pre:=fun _=>True
 post:=fun _ _=>True
 res:=fun _ _=>.ret d
 out:=fun _ _=>S
theorem CS.of{k:Nat}{ds:List D}{S:St}{d:D}(h:ACalls Tryz.prog k ((sS ds S d).args ()) ((sS ds S d).st ()) (SpecR (sS ds S d) ())):CS k ds S d :=
 ACalls.mono h fun _ _ ⟨_,_,h2,h3⟩=>⟨h2,h3⟩
theorem CS.to{k:Nat}{ds:List D}{S S':St}{d:D}(h:CS k ds S' d)(h1:StTo S S')(h2:StTo S' S):CS k ds S d :=
 ACalls.to (ACalls.from h h1) fun r S0 ⟨e1,e2⟩=>⟨S,by rw[e2];exact h2,e1,rfl⟩
theorem CS.front{k:Nat}{ds:List D}{os:List (Nat×Nat×AObj)}{d:D}(o:Nat×Nat×AObj)(h:CS k ds ⟨os,[]⟩ d):CS k ds ⟨o::os,[]⟩ d:=by
 have p:List.Perm (os.map (·.2)++[o.2]) (o.2::os.map (·.2)):=List.perm_append_singleton _ _
 refine CS.to (CS.frame ⟨[o],[]⟩ h) (StTo.perm (r1:=[]) (r2:=[]) ?_ ?_) (StTo.perm (r1:=[]) (r2:=[]) ?_ ?_)
 ·simp[St.add]
 ·simp[St.add]
 ·simpa[St.add] using p.symm
 ·simp[St.add]
def Cg{α:Type}(p:α->Bool):List α->Int->Int
 | [],_=>-1
 |x::r,i=>if p x then i else Cg p r (i+1)
theorem Ch{α:Type}(p:α->Bool):∀(l:List α) (i:Int),0<=i->(decide (0<=Cg p l i))=l.any p
 | [],i,_=>by simp[Cg]
 |x::r,i,h=>by
  rw[Cg]
  by_cases hx:p x=true
  ·rw[if_pos hx];simp[hx,h]
  ·rw[if_neg hx,Ch p r (i+1) (by omega)];simp[hx]
structure IdxG {α:Type} (p:α->Bool) (l:List α) (i:Nat):Prop where
 hi:i<=l.length
 hg:Cg p (l.drop i) i=Cg p l 0
theorem IdxG.step{α:Type}[Inhabited α]{p:α->Bool}{l:List α}{i:Nat}(h:IdxG p l i)(hlt:i<l.length):(p (l.getD i default)=true->Cg p l 0=i)/\(p (l.getD i default)=false->IdxG p l (i+1)):=by
 have hg:=h.hg
 rw[Bt hlt,Cg] at hg
 refine⟨fun e=>?_,fun e=>?_⟩
 ·rw[if_pos e] at hg;exact hg.symm
 ·rw[if_neg (by rw[e];exact Bool.false_ne_true)] at hg;exact⟨by omega,hg⟩
theorem IdxG.done{α:Type}{p:α->Bool}{l:List α}{i:Nat}(h:IdxG p l i)(hge:¬(i:Int)<l.length):Cg p l 0 = -1:=by
 have hg:=h.hg
 have:i=l.length:=by have:=h.hi;omega
 rw[this,List.drop_length,Cg] at hg
 exact hg.symm
def isN(b:Nd)(ds:List D)(ex:List D):Prop:=wkL ds (.agg b.row1::ex)
def isN2(b:Nd)(ds:List D)(ex:List D):Prop:=wkL ds (.agg b.row2::ex)
def isS(b:Sm)(ds:List D)(ex:List D):Prop:=wkL ds (.agg b.row1::ex)
theorem CD.wk{k:Nat}{ds us:List D}{d:D}(h:CD k us d)(hw:wkL ds us):CD k ds d:=BlP hw h
theorem B1(n:Nd)(ex:List D):isN n (.agg n.row1::ex) ex:=Bc _
theorem U3(n:Nd)(ex:List D):isN2 n (.agg n.row2::ex) ex:=Bc _
theorem Iy(s:Sm)(ex:List D):isS s (.agg s.row1::ex) ex:=Bc _
theorem CD.down{k:Nat}{n:Nd}{ex:List D}{d:D}(h:CD k (.agg n.row2::ex) d):CD k (.agg n.row1::ex) d :=
 h.wk (by simp only[wkL,wkD];exact⟨GC n,Bc _⟩)
theorem CD.isN{k:Nat}{n:Nd}{ds ex:List D}{d:D}(h:CD k (.agg n.row2::ex) d)(hi:isN n ds ex):CD k ds d:=h.down.wk hi
theorem CD.isN2{k:Nat}{n:Nd}{ds ex:List D}{d:D}(h:CD k (.agg n.row2::ex) d)(hi:isN2 n ds ex):CD k ds d:=h.wk hi
theorem GJ{l:List Nd}{i:Nat}(h:i<l.length):l.getD i default∈l:=by
 rw[List.getD_eq_getElem?_getD,List.getElem?_eq_getElem h];exact List.getElem_mem h
theorem E6{l:List Sm}{i:Nat}(h:i<l.length):l.getD i default∈l:=by
 rw[List.getD_eq_getElem?_getD,List.getElem?_eq_getElem h];exact List.getElem_mem h
mutual
def BR:Nd->Bool
  | .mk kd at_ cl tx pr op va ki bo de sl ss =>
    G7 (.mk kd at_ cl tx pr op va ki bo de sl ss) kd &&
      (if kd = 10 then Tn (.mk kd at_ cl tx pr op va ki bo de sl ss) && (decide (bo.length <= 1000) && B5 true [] bo)
       else GD (.mk kd at_ cl tx pr op va ki bo de sl ss) || (EF (.mk kd at_ cl tx pr op va ki bo de sl ss) && IW ki))
def IW:List Nd->Bool
 | []=>true
 |x::r=>BR x&&IW r
def B5(g:Bool)(names:List (List UInt8)):List Sm->Bool
 | []=>true
 |x::r=>IY g names x&&B5 g (if x.kd=2 then names++[x.nm] else names) r
def IY(g:Bool)(names:List (List UInt8)):Sm->Bool
  | .mk kd at_ nm sl te nd => decide (0 <= at_) && BR nd &&
    (if kd = 1 then nd.cl == 1 && nm.isEmpty && sl == 0 && Iv te
     else if kd = 2 then Em nm && !(names.contains nm) && (nd.cl == 1 || nd.cl == 2 || nd.kd == 10) && decide (0 <= sl) && Iv te
     else if kd = 3 then g && BR te && te.cl == 1 && nd.cl == 1 && nm.isEmpty && sl == 0
     else false)
end
def CA(g:Bool)(l:List Sm):Bool:=decide (l.length<=1000)&&B5 g [] l
theorem OG(n:Nd):BR n=(G7 n n.kd&&(if n.kd=10 then Tn n&&CA true n.bo else GD n||(EF n&&n.ki.all BR))):=by
 have e:∀l:List Nd,IW l=l.all BR:=by
  intro l
  induction l with
  |nil=>simp only[IW,List.all_nil]
  |cons x r ih=>simp only[IW,List.all_cons,ih]
 cases n
 simp only[BR,e]
 rfl
theorem Om(g : Bool)(names : List (List UInt8))(s : Sm) : IY g names s = (decide (0 <= s.at_) && BR s.nd &&
    (if s.kd = 1 then s.nd.cl == 1 && s.nm.isEmpty && s.sl == 0 && Iv s.te
     else if s.kd = 2 then Em s.nm && !(names.contains s.nm) && (s.nd.cl == 1 || s.nd.cl == 2 || s.nd.kd == 10) && decide (0 <= s.sl) && Iv s.te
     else if s.kd = 3 then g && BR s.te && s.te.cl == 1 && s.nd.cl == 1 && s.nm.isEmpty && s.sl == 0
     else false)) := by
  cases s
  simp only [IY]
  rfl
def WN(l:List Sm):Bool:=[6,7,11,12,13].any fun k=>Ec l k
def BP(l:List Sm):Int :=
 if 1000<l.length then 2 else if 60<dpB l then 8 else if 16384<szB l then 21
 else if (CA false l&&!WN l)=true then 0 else 11
theorem Ba2(k:Int):∀l:List Nd,BbX k l=l.any (Gr k)
 | []=>by simp only[BbX,List.any_nil]
 |x::r=>by simp only[BbX,List.any_cons,Ba2 k r]
theorem Bje(k:Int)(n:Nd):Gr k n=(n.kd==k||(n.kd != 10&&n.ki.any (Gr k))):=by
 cases n
 simp only[Gr,Ba2]
 rfl
theorem Rc{α:Type}{p q:α->Bool}:∀ {l:List α},(∀x∈l,p x=q x)->l.any p=l.any q
 | [],_=>rfl
 |x::l,h=>by
  simp only[List.any_cons]
  rw[h x (by simp),Rc fun y hy=>h y (by simp[hy])]
theorem Nd.size_kid{n x:Nd}(h:x∈n.ki):SizeOf.sizeOf x<SizeOf.sizeOf n:=by
 cases n with
 |mk kd at_ cl tx pr op va ki bo de sl ss =>
  have:=List.sizeOf_lt_of_mem (show x∈ki from h)
  simp only[Nd.mk.sizeOf_spec]
  omega
theorem Nd.size_stmt{n:Nd}{s:Sm}(h:s∈n.bo):SizeOf.sizeOf s<SizeOf.sizeOf n:=by
 cases n with
 |mk kd at_ cl tx pr op va ki bo de sl ss =>
  have:=List.sizeOf_lt_of_mem (show s∈bo from h)
  simp only[Nd.mk.sizeOf_spec]
  omega
theorem Sm.size_te(s:Sm):SizeOf.sizeOf s.te<SizeOf.sizeOf s:=by
 cases s
 simp only[Sm.te,Sm.mk.sizeOf_spec]
 omega
theorem Sm.size_nd(s:Sm):SizeOf.sizeOf s.nd<SizeOf.sizeOf s:=by
 cases s
 simp only[Sm.nd,Sm.mk.sizeOf_spec]
 omega
theorem Io{n:Nd}(h:BR n=true):(∀x∈n.ki,BR x=true)/\(n.kd=10->n.ki=[]):=by
 rw[OG,Bool.and_eq_true] at h
 have h:=h.2
 by_cases hk:n.kd=10
 ·rw[if_pos hk,Bool.and_eq_true] at h
  have h1:=h.1
  unfold Tn at h1
  simp only[Bool.and_eq_true,List.isEmpty_iff] at h1
  have e:n.ki=[]:=h1.1.1.1
  exact⟨fun x hx=>by rw[e] at hx;simp at hx,fun _=>e⟩
 ·rw[if_neg hk,Bool.or_eq_true,Bool.and_eq_true] at h
  refine⟨fun x hx=>?_,fun e=>(hk e).elim⟩
  rcases h with h | h
  ·unfold GD at h
   simp only[Bool.and_eq_true,List.isEmpty_iff] at h
   rw[h.1] at hx
   simp at hx
  ·exact List.all_eq_true.1 h.2 x hx
theorem Bht{α:Type}[Inhabited α]{g:α->List D}{l r:List α}(i:Nat):Br l.length (fun i=>g (l.getD i default)) (fun i=>g (r.getD i default)) i=g ((l++r).getD i default):=by
 unfold Br
 split
 ·rename_i h
  simp[List.getD_eq_getElem?_getD,List.getElem?_append_left h,h]
 ·rename_i h
  simp[List.getD_eq_getElem?_getD,List.getElem?_append_right (Nat.le_of_not_lt h)]
theorem Gc(s:Sm):(Bg s).length<=2:=by
 unfold Bg
 split<;>simp
theorem UO:∀l:List Sm,(l.flatMap Bg).length<=2*l.length
 | []=>by simp
 |s::l=>by
  have:=UO l
  have:=Gc s
  simp only[List.flatMap_cons,List.length_append,List.length_cons]
  omega
theorem BfE(n:Nd):(BK n).length<=n.ki.length+2*n.bo.length:=by
 have:=UO n.bo
 simp only[BK,List.length_append]
 omega
theorem W5{l:List Sm}{i:Nat}(h:i<l.length):(l.take (i+1)).flatMap Bg=(l.take i).flatMap Bg++Bg (l.getD i default):=by
 rw[CE h,List.flatMap_append]
 simp
noncomputable def Epa:Senv:=EC CM 14 3 [5] (fun _=>([],[]))
noncomputable section
def Kd(a:Sm):Nd:=Sm.te a
def YL(a:Sm):Arr:=Nd.va (Kd a)
def QqG(a:Sm):List Int:=Arr.sh (YL a)
def QqH(a:Sm):List Int:=Arr.nu (YL a)
def Qeq(a:Sm):List Arr:=Arr.it (YL a)
def YM:Arr:=DA
def Qer(a:Sm):List Nd:=Nd.ki (Kd a)
def VR:Nd:=Nd.mk Z0 Z0 Z0 [] Z0 Z0 YM [] [] Z0 Z0 Z0
def Qes(a:Sm):List Sm:=Nd.bo (Kd a)
def QaW:Sm:=Sm.mk Z0 Z0 [] Z0 VR VR
def Ke(a:Sm):Nd:=Sm.nd a
def YN(a:Sm):Arr:=Nd.va (Ke a)
def QqI(a:Sm):List Int:=Arr.sh (YN a)
def QqJ(a:Sm):List Int:=Arr.nu (YN a)
def Qet(a:Sm):List Arr:=Arr.it (YN a)
def Qeu(a:Sm):List Nd:=Nd.ki (Ke a)
def Qev(a:Sm):List Sm:=Nd.bo (Ke a)
def Qew(a:Sm):List (List D):=[[ZI (Nd.kd (Ke a)),ZI (Nd.at_ (Ke a)),ZI (Nd.cl (Ke a)),D.str (Nd.tx (Ke a)),ZI (Nd.pr (Ke a)),ZI (Nd.op (Ke a)),ZI (Arr.k (YN a)),SI (QqI a),SI (QqJ a),D.sl N4 (LN (Qet a)) (fun i=>Arr.row (List.getD (Qet a) i YM)) Mode.any,D.sl 15 (LN (Qeu a)) (fun i=>Nd.row (List.getD (Qeu a) i VR)) Mode.any,D.sl 34 (LN (Qev a)) (fun i=>Sm.row (List.getD (Qev a) i QaW)) Mode.any,ZI (Nd.de (Ke a)),ZI (Nd.sl (Ke a)),ZI (Nd.ss (Ke a))]]
def Kf(a:Sm)(b:Nat):Nd:=List.getD (Bg a) b VR
def YO(a:Sm)(b:Nat):Arr:=Nd.va (Kf a b)
def QqK(a:Sm)(b:Nat):List Int:=Arr.sh (YO a b)
def QqL(a:Sm)(b:Nat):List Int:=Arr.nu (YO a b)
def Qex(a:Sm)(b:Nat):List Arr:=Arr.it (YO a b)
def Qey(a:Sm)(b:Nat):List Nd:=Nd.ki (Kf a b)
def Qez(a:Sm)(b:Nat):List Sm:=Nd.bo (Kf a b)
def QeA(a:Sm)(b:Nat):List D:=[ZI (Nd.kd (Kf a b)),ZI (Nd.at_ (Kf a b)),ZI (Nd.cl (Kf a b)),D.str (Nd.tx (Kf a b)),ZI (Nd.pr (Kf a b)),ZI (Nd.op (Kf a b)),ZI (Arr.k (YO a b)),SI (QqK a b),SI (QqL a b),D.sl N4 (LN (Qex a b)) (fun i=>Arr.row (List.getD (Qex a b) i YM)) Mode.any,D.sl 15 (LN (Qey a b)) (fun i=>Nd.row (List.getD (Qey a b) i VR)) Mode.any,D.sl 34 (LN (Qez a b)) (fun i=>Sm.row (List.getD (Qez a b) i QaW)) Mode.any,ZI (Nd.de (Kf a b)),ZI (Nd.sl (Kf a b)),ZI (Nd.ss (Kf a b))]
end
theorem Bg6(s:Sm):CD 38 [.agg s.row1] (gsl 15 Nd.row1 (Bg s)):=by
 refine Bi (A:=sC _ _) (x:=()) (E:=Epa) (eOk BE rfl) Tryz.func38 rfl (by kernel_rfl) rfl (by simp[sC,Epa,EC,E0]) ?_
 refine Bj (T :=
  ∀(x:Nat),True->SM x/\ifB (Sm.kd s==3) (SM x/\SM x/\True/\∃(y:Unit),True/\(N2=LN (Bg s)/\(∀(i:Nat),i<N2->List.getD ([ZI (Nd.kd (Kd s)),ZI (Nd.at_ (Kd s)),ZI (Nd.cl (Kd s)),D.str (Nd.tx (Kd s)),ZI (Nd.pr (Kd s)),ZI (Nd.op (Kd s)),ZI (Arr.k (YL s)),SI (QqG s),SI (QqH s),D.sl N4 (LN (Qeq s)) (fun i=>Arr.row (List.getD (Qeq s) i YM)) Mode.any,D.sl 15 (LN (Qer s)) (fun i=>Nd.row (List.getD (Qer s) i VR)) Mode.any,D.sl 34 (LN (Qes s)) (fun i=>Sm.row (List.getD (Qes s) i QaW)) Mode.any,ZI (Nd.de (Kd s)),ZI (Nd.sl (Kd s)),ZI (Nd.ss (Kd s))]::Qew s) i []=QeA s i)/\True)/\True/\True) (SM x/\True/\∃(y:Unit),True/\(N1=LN (Bg s)/\(∀(i:Nat),i<N1->List.getD (Qew s) i []=QeA s i)/\True)/\True/\True)) (by kernel_rfl) ?_
 delta DA GI LN N1 N2 N4 SI SM Z0 ZI Kd YL Ke YN QqI QqJ Qet Qeu Qev Qew Kf YO QqG QqK QqL Qex Qey Qez QeA QqH Qeq YM Qer VR Qes QaW
 simp only[Bh,beq_iff_eq,beq_eq_false_iff_ne,true_and,and_true,exists_const]
 refine fun x _=>⟨fun h=>?_,fun h=>?_⟩
 ·have e:Bg s=[s.te,s.nd]:=if_pos h
  rw[e]
  refine⟨rfl,fun i hi=>?_⟩
  match i,hi with
  |0,_=>rfl
  |1,_=>rfl
 ·have e:Bg s=[s.nd]:=if_neg h
  rw[e]
  refine⟨rfl,fun i hi=>?_⟩
  match i,hi with
  |0,_=>rfl
def Bf2(_n:Nd):Con:=fun k ds S=>match k with
 |38=>some (pE (β:=Sm) ds S (fun s=>gsl 15 Nd.row1 (Bg s)) (fun s=>isS s ds []))
 |_=>none
theorem BiD(n:Nd):ConOk Tryz.prog (Bf2 n):=by
 intro k ds S A h
 unfold Bf2 at h
 split at h
 ·injection h with h;subst h
  exact Cl fun s e=>CD.at_ (CD.wk (Bg6 s) e) _
 ·cases h
noncomputable def Ein0(n:Nd):Senv:={ EC (Bf2 n) 26 4 [5,9,10,11,12] (fun id=>match id with | 5=>([0,1,2,3,4,6,5,7,8,9],[5,7,8]) | _=>([],[])) with
 ann:=fun b _ S=>match b with
  |0=>some { slots:=[11,3],keep:=[0,1,9,10],α:=Nat×List Nd,st:=fun y=>([.int .i64 y.1,gsl 15 Nd.row1 y.2],S),inv:=fun y=>y.1<=n.bo.length/\y.2=n.ki++(n.bo.take y.1).flatMap Bg,mu:=fun y=>n.bo.length-y.1 }
  |_=>none }
noncomputable section
def YP(a:Nd):List Sm:=Nd.bo a
def Vp(a:Nd):Nat:=LN (YP a)
def QaX(a:Nat)(b:Nd)(c:List Nd):Prop:=a<=Vp b/\c=Nd.ki b++List.flatMap Bg (List.take a (YP b))
def XZ(a:Nd):Nat:=LN (Nd.ki a)
def VS:Arr:=DA
def Jz:Nd:=Nd.mk Z0 Z0 Z0 [] Z0 Z0 VS [] [] Z0 Z0 Z0
def QaY(a:Nd)(b:Nat):List D:=Nd.row1 (List.getD (Nd.ki a) b Jz)
def YQ(a:List Nd)(b:Nat):List D:=Nd.row1 (List.getD a b Jz)
def QeB(a:Nd):Int:=Nd.at_ a
def YR(a:Nd):Arr:=Nd.va a
def QeC(a:Nd):Int:=Arr.k (YR a)
def QeD(a:Nd):List Int:=Arr.sh (YR a)
def QaZ(a:Nd):Nat:=LN (QeD a)
def QeE(a:Nd)(b:Nat):List D:=[ZI (GI (QeD a) b)]
def QeF(a:Nd):List Int:=Arr.nu (YR a)
def Qa0(a:Nd):Nat:=LN (QeF a)
def QeG(a:Nd)(b:Nat):List D:=[ZI (GI (QeF a) b)]
def QeH(a:Nd):List Arr:=Arr.it (YR a)
def Qa1(a:Nd):Nat:=LN (QeH a)
def QeI(a:Nd)(b:Nat):List D:=Arr.row (List.getD (QeH a) b VS)
def VT:Sm:=Sm.mk Z0 Z0 [] Z0 Jz Jz
def VU(a:Nd)(b:Nat):Sm:=List.getD (YP a) b VT
def Kg(a:Nd)(b:Nat):Nd:=Sm.te (VU a b)
def YS(a:Nd)(b:Nat):Arr:=Nd.va (Kg a b)
def QqM(a:Nd)(b:Nat):List Int:=Arr.sh (YS a b)
def QqN(a:Nd)(b:Nat):List Int:=Arr.nu (YS a b)
def QeJ(a:Nd)(b:Nat):List Arr:=Arr.it (YS a b)
def QeK(a:Nd)(b:Nat):List Nd:=Nd.ki (Kg a b)
def QeL(a:Nd)(b:Nat):List Sm:=Nd.bo (Kg a b)
def Kh(a:Nd)(b:Nat):Nd:=Sm.nd (VU a b)
def YT(a:Nd)(b:Nat):Arr:=Nd.va (Kh a b)
def QqO(a:Nd)(b:Nat):List Int:=Arr.sh (YT a b)
def QqP(a:Nd)(b:Nat):List Int:=Arr.nu (YT a b)
def QeM(a:Nd)(b:Nat):List Arr:=Arr.it (YT a b)
def QeN(a:Nd)(b:Nat):List Nd:=Nd.ki (Kh a b)
def QeO(a:Nd)(b:Nat):List Sm:=Nd.bo (Kh a b)
def QeP(a:Nd)(b:Nat):List D:=[ZI (Sm.kd (VU a b)),ZI (Sm.at_ (VU a b)),D.str (Sm.nm (VU a b)),ZI (Sm.sl (VU a b)),ZI (Nd.kd (Kg a b)),ZI (Nd.at_ (Kg a b)),ZI (Nd.cl (Kg a b)),D.str (Nd.tx (Kg a b)),ZI (Nd.pr (Kg a b)),ZI (Nd.op (Kg a b)),ZI (Arr.k (YS a b)),SI (QqM a b),SI (QqN a b),D.sl N4 (LN (QeJ a b)) (fun i=>Arr.row (List.getD (QeJ a b) i VS)) Mode.any,D.sl 15 (LN (QeK a b)) (fun i=>Nd.row (List.getD (QeK a b) i Jz)) Mode.any,D.sl 34 (LN (QeL a b)) (fun i=>Sm.row (List.getD (QeL a b) i VT)) Mode.any,ZI (Nd.de (Kg a b)),ZI (Nd.sl (Kg a b)),ZI (Nd.ss (Kg a b)),ZI (Nd.kd (Kh a b)),ZI (Nd.at_ (Kh a b)),ZI (Nd.cl (Kh a b)),D.str (Nd.tx (Kh a b)),ZI (Nd.pr (Kh a b)),ZI (Nd.op (Kh a b)),ZI (Arr.k (YT a b)),SI (QqO a b),SI (QqP a b),D.sl N4 (LN (QeM a b)) (fun i=>Arr.row (List.getD (QeM a b) i VS)) Mode.any,D.sl 15 (LN (QeN a b)) (fun i=>Nd.row (List.getD (QeN a b) i Jz)) Mode.any,D.sl 34 (LN (QeO a b)) (fun i=>Sm.row (List.getD (QeO a b) i VT)) Mode.any,ZI (Nd.de (Kh a b)),ZI (Nd.sl (Kh a b)),ZI (Nd.ss (Kh a b))]
def QeQ(a:Nat)(b:Nd):Prop:=(SM a/\(SM (Nd.kd b)/\SM (QeB b)/\SM (Nd.cl b)/\SM (Nd.tx b)/\SM (Nd.pr b)/\SM (Nd.op b)/\SM (QeC b)/\(SM (QaZ b)/\(∀(i:Nat),i<QaZ b->SM (QeE b i))/\True)/\(SM (Qa0 b)/\(∀(i:Nat),i<Qa0 b->SM (QeG b i))/\True)/\(SM (Qa1 b)/\(∀(i:Nat),i<Qa1 b->SM (QeI b i))/\True)/\(SM (XZ b)/\(∀(i:Nat),i<XZ b->SM (QaY b i))/\True)/\(SM (Vp b)/\(∀(i:Nat),i<Vp b->SM (QeP b i))/\True)/\SM (Nd.de b)/\SM (Nd.sl b)/\SM (Nd.ss b)/\True)/\True)/\True
def Qa2(a:Nd):Int:=(NI (Vp a))
def YU(a:List Nd):Prop:=SM (LI a)
def VV(a:Nd)(b:Nat):Sm:=List.getD (YP a) (Int.toNat (↑b:Int)) VT
def Ki(a:Nd)(b:Nat):Nd:=Sm.te (VV a b)
def YV(a:Nd)(b:Nat):Arr:=Nd.va (Ki a b)
def QqQ(a:Nd)(b:Nat):List Int:=Arr.sh (YV a b)
def QqR(a:Nd)(b:Nat):List Int:=Arr.nu (YV a b)
def QeR(a:Nd)(b:Nat):List Arr:=Arr.it (YV a b)
def QeS(a:Nd)(b:Nat):List Nd:=Nd.ki (Ki a b)
def QeT(a:Nd)(b:Nat):List Sm:=Nd.bo (Ki a b)
def Kj(a:Nd)(b:Nat):Nd:=Sm.nd (VV a b)
def YW(a:Nd)(b:Nat):Arr:=Nd.va (Kj a b)
def QqS(a:Nd)(b:Nat):List Int:=Arr.sh (YW a b)
def QqT(a:Nd)(b:Nat):List Int:=Arr.nu (YW a b)
def QeU(a:Nd)(b:Nat):List Arr:=Arr.it (YW a b)
def QeV(a:Nd)(b:Nat):List Nd:=Nd.ki (Kj a b)
def QeW(a:Nd)(b:Nat):List Sm:=Nd.bo (Kj a b)
def QeX(a:Nd)(b:Nat):D:=D.agg [ZI (Sm.kd (VV a b)),ZI (Sm.at_ (VV a b)),D.str (Sm.nm (VV a b)),ZI (Sm.sl (VV a b)),ZI (Nd.kd (Ki a b)),ZI (Nd.at_ (Ki a b)),ZI (Nd.cl (Ki a b)),D.str (Nd.tx (Ki a b)),ZI (Nd.pr (Ki a b)),ZI (Nd.op (Ki a b)),ZI (Arr.k (YV a b)),SI (QqQ a b),SI (QqR a b),D.sl N4 (LN (QeR a b)) (fun i=>Arr.row (List.getD (QeR a b) i VS)) Mode.any,D.sl 15 (LN (QeS a b)) (fun i=>Nd.row (List.getD (QeS a b) i Jz)) Mode.any,D.sl 34 (LN (QeT a b)) (fun i=>Sm.row (List.getD (QeT a b) i VT)) Mode.any,ZI (Nd.de (Ki a b)),ZI (Nd.sl (Ki a b)),ZI (Nd.ss (Ki a b)),ZI (Nd.kd (Kj a b)),ZI (Nd.at_ (Kj a b)),ZI (Nd.cl (Kj a b)),D.str (Nd.tx (Kj a b)),ZI (Nd.pr (Kj a b)),ZI (Nd.op (Kj a b)),ZI (Arr.k (YW a b)),SI (QqS a b),SI (QqT a b),D.sl N4 (LN (QeU a b)) (fun i=>Arr.row (List.getD (QeU a b) i VS)) Mode.any,D.sl 15 (LN (QeV a b)) (fun i=>Nd.row (List.getD (QeV a b) i Jz)) Mode.any,D.sl 34 (LN (QeW a b)) (fun i=>Sm.row (List.getD (QeW a b) i VT)) Mode.any,ZI (Nd.de (Kj a b)),ZI (Nd.sl (Kj a b)),ZI (Nd.ss (Kj a b))]
def QeY(a:Sm)(b:Nd)(c:Nat):Prop:=isS a [QeX b c] []
def YX(a:List Nd)(b:Sm):Nat:=LN a+LN (Bg b)
def QeZ(a:Nd):D:=D.sl 34 (Vp a) (fun i=>QeP a i) Mode.any
def QqU(a:Nd):D:=D.agg [ZI (Nd.kd a),ZI (QeB a),ZI (Nd.cl a),D.str (Nd.tx a),ZI (Nd.pr a),ZI (Nd.op a),ZI (QeC a),D.sl N1 (QaZ a) (fun i=>QeE a i) Mode.any,D.sl N1 (Qa0 a) (fun i=>QeG a i) Mode.any,D.sl N4 (Qa1 a) (fun i=>QeI a i) Mode.any,D.sl 15 (XZ a) (fun i=>QaY a i) Mode.any,QeZ a,ZI (Nd.de a),ZI (Nd.sl a),ZI (Nd.ss a)]
def Qe0(a:Nat)(b:List Nd)(c:Sm)(d:Nd)(e f:Nat):Prop:=SM a/\Bd (YX b c*208<=140737488355328/\YX b c<=9223372036854775807) (∀(_t:Nat),(SM (QqU d)/\SM (D.ref N0 e N0)/\SM (QeZ d)/\SM (ZI (Qa2 d))/\True)/\∃(y:Nat×List Nd),QaX y.1 d y.2/\Vp d-y.1<Vp d-f/\(IntKind.wrap IntKind.i64 ((↑f:Int)+Z1)=(NI y.1)/\(YX b c=LN y.2/\(∀(i:Nat),i<YX b c->Br (LN b) (fun i=>YQ b i) (fun i=>Nd.row1 (List.getD (Bg c) i Jz)) i=YQ y.2 i)/\True)/\True)/\QeQ e d)
end
theorem BhK(n:Nd)(h1:n.ki.length<=BU)(h2:n.bo.length<=BU):CD 64 [.agg n.row2] (gsl 15 Nd.row1 (BK n)):=by
 refine Bi (A:=sC _ _) (x:=()) (E:=Ein0 n) (eOk (BiD n) rfl) Tryz.func64 rfl (by kernel_rfl) rfl (by simp[sC,Ein0,EC,E0]) ?_
 refine Bj (T :=
  ∀(x:Nat),True->SM x/\SM x/\(∃(x_1:Nat×List Nd),QaX x_1.1 n x_1.2/\(Z0=(NI x_1.1)/\(XZ n=LN x_1.2/\(∀(i:Nat),i<XZ n->QaY n i=YQ x_1.2 i)/\True)/\True)/\QeQ x n)/\∀(x_1:Nat×List Nd),QaX x_1.1 n x_1.2->ifB (decide ((NI x_1.1)<Qa2 n)) (Bd (Z0<=(NI x_1.1)/\(NI x_1.1)<Qa2 n) (∀(x_2:Nat),x≠x_2/\True->SM x_2/\SM x_2/\(YU x_1.2/\YU x_1.2/\∀(t:Nat),(SM x_2/\SM (QeX n x_1.1))/\∃(x_3:Sm),QeY x_3 n x_1.1/\∀(y:Unit),True->Qe0 t x_1.2 x_3 n x x_1.1)/\∃(x_3:Sm),QeY x_3 n x_1.1/\∀(y:Unit),True->YU x_1.2/\YU x_1.2/\∀(t:Nat),Qe0 t x_1.2 x_3 n x x_1.1)) (True/\∃(y:Unit),True/\(LN x_1.2=LN (BK n)/\(∀(i:Nat),i<LN x_1.2->YQ x_1.2 i=Nd.row1 (List.getD (BK n) i Jz))/\True)/\True/\True)) (by kernel_rfl) ?_
 delta DA GI LI LN N0 N1 N4 NI SI SM Z0 Z1 ZI YP Vp QaX XZ VS Jz QaY YQ QeB YR QeC QeD QaZ QeE QeF Qa0 QeG QeH Qa1 QeI VT VU Kg YS QqM QqN QeJ QeK QeL Kh YT QqO QqP QeM QeN QeO QeP QeQ Qa2 YU VV Ki YV QqQ QqR QeR QeS QeT Kj YW QqS QqT QeU QeV QeW QeX QeY YX QeZ QqU Qe0
 try simp only[<- dm]
 try simp only[<- dn]
 simp only[ne_eq,implies_true,Int.toNat_natCast,Bh,Bf,decide_eq_true_eq,decide_eq_false_iff_not,true_and,and_true,exists_const,forall_const,Prod.exists]
 intro x
 unfold BU at h1 h2
 refine⟨⟨0,n.ki,⟨Nat.zero_le _,by simp⟩,rfl,rfl,fun _ _=>rfl⟩,?_⟩
 rintro ⟨i,l⟩ ⟨hi,hl⟩
 simp only at hi hl ⊢
 refine⟨fun hlt=>⟨⟨by omega,hlt⟩,fun _ _=>?_⟩,fun hge=>?_⟩
 ·have hlt':i<n.bo.length:=by omega
  have hf:=UO (n.bo.take i)
  have hlen:l.length=n.ki.length+((n.bo.take i).flatMap Bg).length:=by rw[hl,List.length_append]
  have ht:(n.bo.take i).length=i:=by rw[List.length_take];omega
  have h2p:=Gc (n.bo.getD i default)
  have w:IntKind.i64.wrap ((i:Int)+1)=((i+1:Nat):Int):=by rw[Be (by omega) (by omega)];rfl
  refine⟨⟨n.bo.getD i default,Iy _ _,⟨by omega,by omega⟩,i+1,l++Bg (n.bo.getD i default),⟨hlt',by rw[W5 hlt',hl,List.append_assoc]⟩,by omega,w,by rw[List.length_append],fun j _=>Bht j⟩,n.bo.getD i default,Iy _ _,⟨by omega,by omega⟩,i+1,l++Bg (n.bo.getD i default),⟨hlt',by rw[W5 hlt',hl,List.append_assoc]⟩,by omega,w,by rw[List.length_append],fun j _=>Bht j⟩
 ·have e:i=n.bo.length:=by omega
  rw[e,List.take_length] at hl
  have e2:l=BK n:=hl
  rw[e2]
  first
   |exact⟨rfl,fun _ _=>rfl⟩
   |trivial
def Bc5(xm:Nat)(m:Int)(l:List Nd)(p:Nd->Bool):Con:=fun k ds S=>match k with
 |65=>some (pE (β:=Nd) ds S (fun b=>.bool (p b)) (fun b=>isN b ds [.ref 1 xm 0]/\b∈l/\S=⟨[(1,xm,.cells [.int .i64 m])],[]⟩))
 |_=>none
theorem Bfy(xm:Nat)(m:Int){l:List Nd}{p:Nd->Bool}(h:∀b∈l,CS 65 (.agg b.row1::[.ref 1 xm 0]) ⟨[(1,xm,.cells [.int .i64 m])],[]⟩ (.bool (p b))):ConOk Tryz.prog (Bc5 xm m l p):=by
 intro k ds S A hh
 unfold Bc5 at hh
 split at hh
 ·injection hh with hh;subst hh
  refine Cl fun b ⟨e,hb,hs⟩=>?_
  rw[hs]
  exact (h b hb).wk e
 ·cases hh
noncomputable def EDxx(xm:Nat)(m:Int)(l:List Nd)(p:Nd->Bool):Senv:={ EC (Bc5 xm m l p) 19 2 [4,5,7,8,9,16] (fun _=>([],[])) with
 ann:=fun b _ S=>match b with
  |0=>some { slots:=[8],keep:=[0,1,6,7],α:=Nat,st:=fun i=>([.int .i64 i],S),inv:=fun i=>IdxG p l i,mu:=fun i=>l.length-i }
  |_=>none }
noncomputable section
def YY(a:Nat)(b:Int):Prop:=(SM a/\(SM b/\True)/\True)/\True
def Qe1:Arr:=DA
def X0:Nd:=Nd.mk Z0 Z0 Z0 [] Z0 Z0 Qe1 [] [] Z0 Z0 Z0
def Kk(a:List Nd)(b:Nat):Nd:=List.getD a (Int.toNat (↑b:Int)) X0
def YZ(a:List Nd)(b:Nat):Arr:=Nd.va (Kk a b)
def QqV(a:List Nd)(b:Nat):List Int:=Arr.sh (YZ a b)
def QqW(a:List Nd)(b:Nat):List Int:=Arr.nu (YZ a b)
def Qe2(a:List Nd)(b:Nat):List Arr:=Arr.it (YZ a b)
def Qe3(a:List Nd)(b:Nat):List Nd:=Nd.ki (Kk a b)
def Qe4(a:List Nd)(b:Nat):List Sm:=Nd.bo (Kk a b)
def QqX(a:Nat)(b:Int):St:=St.mk [(N1,a,AObj.cells [ZI b])] []
def QqY(a:List Nd):D:=D.sl 15 (LN a) (fun i=>Nd.row1 (List.getD a i X0)) Mode.any
end
theorem Dxx_ok(xm : Nat)(m : Int)(l : List Nd)(p : Nd -> Bool)(h : ∀b∈l, CS 65 (.agg b.row1::[.ref 1 xm 0]) ⟨[(1, xm, .cells [.int .i64 m])], []⟩ (.bool (p b)))(hl : l.length<=maxLen) :
  CS 84 [gsl 15 Nd.row1 l,.fn (.func 65) [] [.ref 1 xm 0]] ⟨[(1,xm,.cells [.int .i64 m])],[]⟩ (.int .i64 (Cg p l 0)):=by
 refine CS.of (Bi (A:=sS _ _ _) (x:=()) (E:=EDxx xm m l p) (eOk (Bfy xm m h) rfl) Tryz.func84 rfl (by kernel_rfl) rfl (by simp[sS,EDxx,EC,E0]) ?_)
 refine Bj (T :=
  (∃(x:Nat),IdxG p l x/\(Z0=(↑x:Int)/\True)/\YY xm m)/\∀(x:Nat),IdxG p l x->ifB (decide ((↑x:Int)<(LI l))) (Bd (Z0<=(↑x:Int)/\(↑x:Int)<(LI l)) (∃(x_1:Nd),(isN x_1 [D.agg [ZI (Nd.kd (Kk l x)),ZI (Nd.at_ (Kk l x)),ZI (Nd.cl (Kk l x)),D.str (Nd.tx (Kk l x)),ZI (Nd.pr (Kk l x)),ZI (Nd.op (Kk l x)),ZI (Arr.k (YZ l x)),SI (QqV l x),SI (QqW l x),D.sl N4 (LN (Qe2 l x)) (fun i=>Arr.row (List.getD (Qe2 l x) i Qe1)) Mode.any,D.sl 15 (LN (Qe3 l x)) (fun i=>Nd.row (List.getD (Qe3 l x) i X0)) Mode.any,D.sl 34 (LN (Qe4 l x)) (fun i=>Sm.row (List.getD (Qe4 l x) i (Sm.mk Z0 Z0 [] Z0 X0 X0))) Mode.any,ZI (Nd.de (Kk l x)),ZI (Nd.sl (Kk l x)),ZI (Nd.ss (Kk l x))],D.ref N1 xm N0] [D.ref N1 xm N0]/\x_1∈l/\SM (QqX xm m))/\∀(y:Unit),True->ifB (p x_1) (True/\∃(y:Unit),True/\(↑x:Int)=Cg p l Z0/\YY xm m) ((SM (QqY l)/\SM (D.fn (Fn.func (65:Nat)) [] [D.ref N1 xm N0])/\SM D.unk/\SM (ZI (LI l))/\True)/\∃(y:Nat),IdxG p l y/\LN l-y<LN l-x/\(IntKind.wrap IntKind.i64 ((↑x:Int)+Z1)=(↑y:Int)/\True)/\YY xm m))) (True/\∃(y:Unit),True/\(-1:Int)=Cg p l Z0/\YY xm m)) (by kernel_rfl) ?_
 delta DA GI LI LN N0 N1 N4 SI SM Z0 Z1 ZI YY Qe1 QqX QqY X0 Kk YZ QqV QqW Qe2 Qe3 Qe4
 try simp only[<- dn]
 simp only[Int.toNat_natCast,Bh,Bf,decide_eq_true_eq,decide_eq_false_iff_not,true_and,and_true,exists_const]
 simp only[maxLen] at hl
 refine⟨⟨0,⟨Nat.zero_le _,by simp⟩,rfl⟩,fun i hh=>⟨fun hlt=>?_,fun hge=>(hh.done hge).symm⟩⟩
 have hlt':i<l.length:=by omega
 obtain ⟨s1,s2⟩:=hh.step hlt'
 have hm:l.getD i default∈l:=by rw[List.getD_eq_getElem?_getD,List.getElem?_eq_getElem hlt'];exact List.getElem_mem hlt'
 refine⟨⟨by omega,hlt⟩,l.getD i default,?_,fun _ _=>⟨fun e=>(s1 e).symm,fun e=>⟨i+1,s2 e,by omega,Be (by omega) (by omega)⟩⟩⟩
 first
  |exact⟨Bc _,hm,rfl⟩
  |exact⟨Bc _,hm⟩
def BhU(xm:Nat)(m:Int)(l:List Nd)(p:Nd->Bool):Con:=fun k ds S=>match k with
 |84=>some (pA ds S (.int .i64 (Cg p l 0)) (wkL ds [gsl 15 Nd.row1 l,.fn (.func 65) [] [.ref 1 xm 0]]/\S=⟨[(1,xm,.cells [.int .i64 m])],[]⟩))
 |_=>none
noncomputable def EDxc(xm:Nat)(m:Int)(l:List Nd)(p:Nd->Bool):Senv:=EC (BhU xm m l p) 9 2 [4] (fun _=>([],[]))
noncomputable section
def Qe5(a:List Nd)(b:Nat):List D:=[D.sl 15 (LN a) (fun i=>Nd.row1 (List.getD a i (Nd.mk Z0 Z0 Z0 [] Z0 Z0 DA [] [] Z0 Z0 Z0))) Mode.any,D.fn (Fn.func (65:Nat)) [] [D.ref N1 b N0]]
def QqZ(a:Nat)(b:Int):St:=St.mk [(N1,a,AObj.cells [ZI b])] []
end
theorem Dxc_ok(xm : Nat)(m : Int)(l : List Nd)(p : Nd -> Bool)(h : ∀b∈l, CS 65 (.agg b.row1::[.ref 1 xm 0]) ⟨[(1, xm, .cells [.int .i64 m])], []⟩ (.bool (p b)))(hl : l.length<=maxLen) :
  CS 55 [gsl 15 Nd.row1 l,.fn (.func 65) [] [.ref 1 xm 0]] ⟨[(1,xm,.cells [.int .i64 m])],[]⟩ (.bool (l.any p)):=by
 refine CS.of (Bi (A:=sS _ _ _) (x:=()) (E:=EDxc xm m l p) (eOk ?_ rfl) Tryz.func55 rfl (by kernel_rfl) rfl (by simp[sS,EDxc,EC,E0]) ?_)
 ·intro k ds S A hh
  try unfold BhU at hh
  try dsimp only at hh
  split at hh
  ·injection hh with hh;subst hh
   refine Bs fun ⟨e,hs⟩=>?_
   rw[hs]
   exact (Dxx_ok xm m l p h hl).wk e
  ·cases hh
 refine Bj (T :=
  ∃(x:Unit),(wkL (Qe5 l xm) (Qe5 l xm)/\SM (QqZ xm m))/\∀(y:Unit),True->True/\∃(y:Unit),True/\decide (Z0<=Cg p l Z0)=List.any l p/\(SM xm/\(SM m/\True)/\True)/\True) (by kernel_rfl) ?_
 delta DA LN N0 N1 SM Z0 ZI Qe5 QqZ
 simp only[true_and,and_true,exists_const,forall_const]
 first
  |exact⟨Bc _,Ch _ l 0 (Int.le_refl _)⟩
  |exact⟨⟨Bc _,rfl⟩,Ch _ l 0 (Int.le_refl _)⟩
def BcM  (l:List Nd)(p:Nd->Bool):Con:=fun k ds S=>match k with
 |101=>some (pE (β:=Nd) ds S (fun b=>.bool (p b)) (fun b=>isN b ds []/\b∈l/\S=⟨[],[]⟩))
 |_=>none
theorem Be1  {l:List Nd}{p:Nd->Bool}(h:∀b∈l,CS 101 (.agg b.row1::[]) ⟨[],[]⟩ (.bool (p b))):ConOk Tryz.prog (BcM  l p):=by
 intro k ds S A hh
 unfold BcM at hh
 split at hh
 ·injection hh with hh;subst hh
  refine Cl fun b ⟨e,hb,hs⟩=>?_
  rw[hs]
  exact (h b hb).wk e
 ·cases hh
noncomputable def ENxx  (l:List Nd)(p:Nd->Bool):Senv:={ EC (BcM  l p) 19 2 [4,5,7,8,9,16] (fun _=>([],[])) with
 ann:=fun b _ S=>match b with
  |0=>some { slots:=[8],keep:=[0,1,6,7],α:=Nat,st:=fun i=>([.int .i64 i],S),inv:=fun i=>IdxG p l i,mu:=fun i=>l.length-i }
  |_=>none }
noncomputable section
def Qe6:Arr:=DA
def X1:Nd:=Nd.mk Z0 Z0 Z0 [] Z0 Z0 Qe6 [] [] Z0 Z0 Z0
def Kl(a:List Nd)(b:Nat):Nd:=List.getD a (Int.toNat (↑b:Int)) X1
def Y0(a:List Nd)(b:Nat):Arr:=Nd.va (Kl a b)
def Qq0(a:List Nd)(b:Nat):List Int:=Arr.sh (Y0 a b)
def Qq1(a:List Nd)(b:Nat):List Int:=Arr.nu (Y0 a b)
def Qe7(a:List Nd)(b:Nat):List Arr:=Arr.it (Y0 a b)
def Qe8(a:List Nd)(b:Nat):List Nd:=Nd.ki (Kl a b)
def Qe9(a:List Nd)(b:Nat):List Sm:=Nd.bo (Kl a b)
def Qq2(a:List Nd):D:=D.sl 15 (LN a) (fun i=>Nd.row1 (List.getD a i X1)) Mode.any
end
theorem Nxx_ok  (l : List Nd)(p : Nd -> Bool)(h : ∀b∈l, CS 101 (.agg b.row1::[]) ⟨[], []⟩ (.bool (p b)))(hl : l.length<=maxLen) :
  CS 84 [gsl 15 Nd.row1 l,.fn (.func 101) [] []] ⟨[],[]⟩ (.int .i64 (Cg p l 0)):=by
 refine CS.of (Bi (A:=sS _ _ _) (x:=()) (E:=ENxx  l p) (eOk (Be1  h) rfl) Tryz.func84 rfl (by kernel_rfl) rfl (by simp[sS,ENxx,EC,E0]) ?_)
 refine Bj (T :=
  (∃(x:Nat),IdxG p l x/\(Z0=(↑x:Int)/\True)/\True/\True)/\∀(x:Nat),IdxG p l x->ifB (decide ((↑x:Int)<(LI l))) (Bd (Z0<=(↑x:Int)/\(↑x:Int)<(LI l)) (∃(x_1:Nd),(isN x_1 [D.agg [ZI (Nd.kd (Kl l x)),ZI (Nd.at_ (Kl l x)),ZI (Nd.cl (Kl l x)),D.str (Nd.tx (Kl l x)),ZI (Nd.pr (Kl l x)),ZI (Nd.op (Kl l x)),ZI (Arr.k (Y0 l x)),SI (Qq0 l x),SI (Qq1 l x),D.sl N4 (LN (Qe7 l x)) (fun i=>Arr.row (List.getD (Qe7 l x) i Qe6)) Mode.any,D.sl 15 (LN (Qe8 l x)) (fun i=>Nd.row (List.getD (Qe8 l x) i X1)) Mode.any,D.sl 34 (LN (Qe9 l x)) (fun i=>Sm.row (List.getD (Qe9 l x) i (Sm.mk Z0 Z0 [] Z0 X1 X1))) Mode.any,ZI (Nd.de (Kl l x)),ZI (Nd.sl (Kl l x)),ZI (Nd.ss (Kl l x))]] []/\x_1∈l/\SM (St.mk [] []))/\∀(y:Unit),True->ifB (p x_1) (RT ((↑x:Int)=Cg p l Z0)) ((SM (Qq2 l)/\SM (D.fn (Fn.func (101:Nat)) [] [])/\SM D.unk/\SM (ZI (LI l))/\True)/\∃(y:Nat),IdxG p l y/\LN l-y<LN l-x/\(IntKind.wrap IntKind.i64 ((↑x:Int)+Z1)=(↑y:Int)/\True)/\True/\True))) (RT ((-1:Int)=Cg p l Z0))) (by kernel_rfl) ?_
 delta DA GI LI LN N1 N4 SI SM Z0 Z1 ZI Qe6 X1 Kl Y0 Qq0 Qq1 Qe7 Qe8 Qe9 Qq2 RT
 try simp only[<- dn]
 simp only[Int.toNat_natCast,Bh,Bf,decide_eq_true_eq,decide_eq_false_iff_not,true_and,and_true,exists_const]
 simp only[maxLen] at hl
 refine⟨⟨0,⟨Nat.zero_le _,by simp⟩,rfl⟩,fun i hh=>⟨fun hlt=>?_,fun hge=>(hh.done hge).symm⟩⟩
 have hlt':i<l.length:=by omega
 obtain ⟨s1,s2⟩:=hh.step hlt'
 have hm:l.getD i default∈l:=by rw[List.getD_eq_getElem?_getD,List.getElem?_eq_getElem hlt'];exact List.getElem_mem hlt'
 refine⟨⟨by omega,hlt⟩,l.getD i default,?_,fun _ _=>⟨fun e=>(s1 e).symm,fun e=>⟨i+1,s2 e,by omega,Be (by omega) (by omega)⟩⟩⟩
 first
  |exact⟨Bc _,hm,rfl⟩
  |exact⟨Bc _,hm⟩
def Bhf  (l:List Nd)(p:Nd->Bool):Con:=fun k ds S=>match k with
 |84=>some (pA ds S (.int .i64 (Cg p l 0)) (wkL ds [gsl 15 Nd.row1 l,.fn (.func 101) [] []]/\S=⟨[],[]⟩))
 |_=>none
noncomputable def ENxc  (l:List Nd)(p:Nd->Bool):Senv:=EC (Bhf  l p) 9 2 [4] (fun _=>([],[]))
noncomputable section
def Qfa(a:List Nd):List D:=[D.sl 15 (LN a) (fun i=>Nd.row1 (List.getD a i (Nd.mk Z0 Z0 Z0 [] Z0 Z0 DA [] [] Z0 Z0 Z0))) Mode.any,D.fn (Fn.func (101:Nat)) [] []]
end
theorem Nxc_ok  (l : List Nd)(p : Nd -> Bool)(h : ∀b∈l, CS 101 (.agg b.row1::[]) ⟨[], []⟩ (.bool (p b)))(hl : l.length<=maxLen) :
  CS 55 [gsl 15 Nd.row1 l,.fn (.func 101) [] []] ⟨[],[]⟩ (.bool (l.any p)):=by
 refine CS.of (Bi (A:=sS _ _ _) (x:=()) (E:=ENxc  l p) (eOk ?_ rfl) Tryz.func55 rfl (by kernel_rfl) rfl (by simp[sS,ENxc,EC,E0]) ?_)
 ·intro k ds S A hh
  try unfold Bhf at hh
  try dsimp only at hh
  split at hh
  ·injection hh with hh;subst hh
   refine Bs fun ⟨e,hs⟩=>?_
   rw[hs]
   exact (Nxx_ok  l p h hl).wk e
  ·cases hh
 refine Bj (T :=
  ∃(x:Unit),(wkL (Qfa l) (Qfa l)/\SM (St.mk [] []))/\∀(y:Unit),True->RT (decide (Z0<=Cg p l Z0)=List.any l p)) (by kernel_rfl) ?_
 delta DA LN SM Z0 Qfa RT
 simp only[true_and,and_true,exists_const,forall_const]
 first
  |exact⟨Bc _,Ch _ l 0 (Int.le_refl _)⟩
  |exact⟨⟨Bc _,rfl⟩,Ch _ l 0 (Int.le_refl _)⟩
def BcD(xi:Nat)(xk:Nat)(q:Int)(l:List Nd)(p:Nd->Bool):Con:=fun k ds S=>match k with
 |105=>some (pE (β:=Nd) ds S (fun b=>.bool (p b)) (fun b=>isN b ds [.ref 0 xk 0,.ref 1 xi 0]/\b∈l/\S=⟨[(1,xi,.cells [.fn (.func 105) [] [.ref 0 xk 0,.ref 1 xi 0]]),(0,xk,.cells [.int .i64 q])],[]⟩))
 |_=>none
theorem Bfo(xi:Nat)(xk:Nat)(q:Int){l:List Nd}{p:Nd->Bool}(h:∀b∈l,CS 105 (.agg b.row1::[.ref 0 xk 0,.ref 1 xi 0]) ⟨[(1,xi,.cells [.fn (.func 105) [] [.ref 0 xk 0,.ref 1 xi 0]]),(0,xk,.cells [.int .i64 q])],[]⟩ (.bool (p b))):ConOk Tryz.prog (BcD xi xk q l p):=by
 intro k ds S A hh
 unfold BcD at hh
 split at hh
 ·injection hh with hh;subst hh
  refine Cl fun b ⟨e,hb,hs⟩=>?_
  rw[hs]
  exact (h b hb).wk e
 ·cases hh
noncomputable def EOxx(xi:Nat)(xk:Nat)(q:Int)(l:List Nd)(p:Nd->Bool):Senv:={ EC (BcD xi xk q l p) 19 2 [4,5,7,8,9,16] (fun _=>([],[])) with
 ann:=fun b _ S=>match b with
  |0=>some { slots:=[8],keep:=[0,1,6,7],α:=Nat,st:=fun i=>([.int .i64 i],S),inv:=fun i=>IdxG p l i,mu:=fun i=>l.length-i }
  |_=>none }
noncomputable section
def Qa3(a b:Nat):List D:=[D.ref N0 a N0,D.ref N1 b N0]
def Qfb(a b:Nat):D:=D.fn (Fn.func (105:Nat)) [] (Qa3 a b)
def Qfc(a b:Nat):Prop:=SM (Qfb a b)
def Y1(a b:Nat)(c:Int):Prop:=(SM a/\(Qfc b a/\True)/\SM b/\(SM c/\True)/\True)/\True
def Qfd:Arr:=DA
def X2:Nd:=Nd.mk Z0 Z0 Z0 [] Z0 Z0 Qfd [] [] Z0 Z0 Z0
def Km(a:List Nd)(b:Nat):Nd:=List.getD a (Int.toNat (↑b:Int)) X2
def Y2(a:List Nd)(b:Nat):Arr:=Nd.va (Km a b)
def Qq3(a:List Nd)(b:Nat):List Int:=Arr.sh (Y2 a b)
def Qq4(a:List Nd)(b:Nat):List Int:=Arr.nu (Y2 a b)
def Qfe(a:List Nd)(b:Nat):List Arr:=Arr.it (Y2 a b)
def Qff(a:List Nd)(b:Nat):List Nd:=Nd.ki (Km a b)
def Qfg(a:List Nd)(b:Nat):List Sm:=Nd.bo (Km a b)
def Qq5(a b:Nat)(c:Int):St:=St.mk [(N1,a,AObj.cells [Qfb b a]),(N0,b,AObj.cells [ZI c])] []
def Qq6(a:List Nd):D:=D.sl 15 (LN a) (fun i=>Nd.row1 (List.getD a i X2)) Mode.any
end
theorem Oxx_ok(xi : Nat)(xk : Nat)(q : Int)(l : List Nd)(p : Nd -> Bool)(h : ∀b∈l, CS 105 (.agg b.row1::[.ref 0 xk 0, .ref 1 xi 0]) ⟨[(1, xi, .cells [.fn (.func 105) [] [.ref 0 xk 0, .ref 1 xi 0]]), (0, xk, .cells [.int .i64 q])], []⟩ (.bool (p b)))(hl : l.length<=maxLen) :
  CS 84 [gsl 15 Nd.row1 l,.fn (.func 105) [] [.ref 0 xk 0,.ref 1 xi 0]] ⟨[(1,xi,.cells [.fn (.func 105) [] [.ref 0 xk 0,.ref 1 xi 0]]),(0,xk,.cells [.int .i64 q])],[]⟩ (.int .i64 (Cg p l 0)):=by
 refine CS.of (Bi (A:=sS _ _ _) (x:=()) (E:=EOxx xi xk q l p) (eOk (Bfo xi xk q h) rfl) Tryz.func84 rfl (by kernel_rfl) rfl (by simp[sS,EOxx,EC,E0]) ?_)
 refine Bj (T :=
  (∃(x:Nat),IdxG p l x/\(Z0=(↑x:Int)/\True)/\Y1 xi xk q)/\∀(x:Nat),IdxG p l x->ifB (decide ((↑x:Int)<(LI l))) (Bd (Z0<=(↑x:Int)/\(↑x:Int)<(LI l)) (∃(x_1:Nd),(isN x_1 (D.agg [ZI (Nd.kd (Km l x)),ZI (Nd.at_ (Km l x)),ZI (Nd.cl (Km l x)),D.str (Nd.tx (Km l x)),ZI (Nd.pr (Km l x)),ZI (Nd.op (Km l x)),ZI (Arr.k (Y2 l x)),SI (Qq3 l x),SI (Qq4 l x),D.sl N4 (LN (Qfe l x)) (fun i=>Arr.row (List.getD (Qfe l x) i Qfd)) Mode.any,D.sl 15 (LN (Qff l x)) (fun i=>Nd.row (List.getD (Qff l x) i X2)) Mode.any,D.sl 34 (LN (Qfg l x)) (fun i=>Sm.row (List.getD (Qfg l x) i (Sm.mk Z0 Z0 [] Z0 X2 X2))) Mode.any,ZI (Nd.de (Km l x)),ZI (Nd.sl (Km l x)),ZI (Nd.ss (Km l x))]::Qa3 xk xi) (Qa3 xk xi)/\x_1∈l/\SM (Qq5 xi xk q))/\∀(y:Unit),True->ifB (p x_1) (True/\∃(y:Unit),True/\(↑x:Int)=Cg p l Z0/\Y1 xi xk q) ((SM (Qq6 l)/\Qfc xk xi/\SM D.unk/\SM (ZI (LI l))/\True)/\∃(y:Nat),IdxG p l y/\LN l-y<LN l-x/\(IntKind.wrap IntKind.i64 ((↑x:Int)+Z1)=(↑y:Int)/\True)/\Y1 xi xk q))) (True/\∃(y:Unit),True/\(-1:Int)=Cg p l Z0/\Y1 xi xk q)) (by kernel_rfl) ?_
 delta DA GI LI LN N0 N1 N4 SI SM Z0 Z1 ZI Qa3 Qfb Qfc Y1 Qfd X2 Km Y2 Qq3 Qq4 Qfe Qff Qfg Qq5 Qq6
 try simp only[<- dn]
 simp only[Int.toNat_natCast,Bh,Bf,decide_eq_true_eq,decide_eq_false_iff_not,true_and,and_true,exists_const]
 simp only[maxLen] at hl
 refine⟨⟨0,⟨Nat.zero_le _,by simp⟩,rfl⟩,fun i hh=>⟨fun hlt=>?_,fun hge=>(hh.done hge).symm⟩⟩
 have hlt':i<l.length:=by omega
 obtain ⟨s1,s2⟩:=hh.step hlt'
 have hm:l.getD i default∈l:=by rw[List.getD_eq_getElem?_getD,List.getElem?_eq_getElem hlt'];exact List.getElem_mem hlt'
 refine⟨⟨by omega,hlt⟩,l.getD i default,?_,fun _ _=>⟨fun e=>(s1 e).symm,fun e=>⟨i+1,s2 e,by omega,Be (by omega) (by omega)⟩⟩⟩
 first
  |exact⟨Bc _,hm,rfl⟩
  |exact⟨Bc _,hm⟩
def Bg8(xi:Nat)(xk:Nat)(q:Int)(l:List Nd)(p:Nd->Bool):Con:=fun k ds S=>match k with
 |84=>some (pA ds S (.int .i64 (Cg p l 0)) (wkL ds [gsl 15 Nd.row1 l,.fn (.func 105) [] [.ref 0 xk 0,.ref 1 xi 0]]/\S=⟨[(1,xi,.cells [.fn (.func 105) [] [.ref 0 xk 0,.ref 1 xi 0]]),(0,xk,.cells [.int .i64 q])],[]⟩))
 |_=>none
noncomputable def EOxc(xi:Nat)(xk:Nat)(q:Int)(l:List Nd)(p:Nd->Bool):Senv:=EC (Bg8 xi xk q l p) 9 2 [4] (fun _=>([],[]))
noncomputable section
def Qfh(a b:Nat):D:=D.fn (Fn.func (105:Nat)) [] [D.ref N0 a N0,D.ref N1 b N0]
def Qfi(a b:Nat):List D:=[Qfh a b]
def Qfj(a:List Nd)(b c:Nat):List D:=D.sl 15 (LN a) (fun i=>Nd.row1 (List.getD a i (Nd.mk Z0 Z0 Z0 [] Z0 Z0 DA [] [] Z0 Z0 Z0))) Mode.any::Qfi b c
def Qq7(a b:Nat)(c:Int):St:=St.mk [(N1,a,AObj.cells (Qfi b a)),(N0,b,AObj.cells [ZI c])] []
end
theorem Oxc_ok(xi : Nat)(xk : Nat)(q : Int)(l : List Nd)(p : Nd -> Bool)(h : ∀b∈l, CS 105 (.agg b.row1::[.ref 0 xk 0, .ref 1 xi 0]) ⟨[(1, xi, .cells [.fn (.func 105) [] [.ref 0 xk 0, .ref 1 xi 0]]), (0, xk, .cells [.int .i64 q])], []⟩ (.bool (p b)))(hl : l.length<=maxLen) :
  CS 55 [gsl 15 Nd.row1 l,.fn (.func 105) [] [.ref 0 xk 0,.ref 1 xi 0]] ⟨[(1,xi,.cells [.fn (.func 105) [] [.ref 0 xk 0,.ref 1 xi 0]]),(0,xk,.cells [.int .i64 q])],[]⟩ (.bool (l.any p)):=by
 refine CS.of (Bi (A:=sS _ _ _) (x:=()) (E:=EOxc xi xk q l p) (eOk ?_ rfl) Tryz.func55 rfl (by kernel_rfl) rfl (by simp[sS,EOxc,EC,E0]) ?_)
 ·intro k ds S A hh
  try unfold Bg8 at hh
  try dsimp only at hh
  split at hh
  ·injection hh with hh;subst hh
   refine Bs fun ⟨e,hs⟩=>?_
   rw[hs]
   exact (Oxx_ok xi xk q l p h hl).wk e
  ·cases hh
 refine Bj (T :=
  ∃(x:Unit),(wkL (Qfj l xk xi) (Qfj l xk xi)/\SM (Qq7 xi xk q))/\∀(y:Unit),True->True/\∃(y:Unit),True/\decide (Z0<=Cg p l Z0)=List.any l p/\(SM xi/\(SM (Qfh xk xi)/\True)/\SM xk/\(SM q/\True)/\True)/\True) (by kernel_rfl) ?_
 delta DA LN N0 N1 SM Z0 ZI Qfh Qfi Qfj Qq7
 simp only[true_and,and_true,exists_const,forall_const]
 first
  |exact⟨Bc _,Ch _ l 0 (Int.le_refl _)⟩
  |exact⟨⟨Bc _,rfl⟩,Ch _ l 0 (Int.le_refl _)⟩
def BcN(xi:Nat)(xk:Nat)(q:Int)(l:List Sm)(p:Sm->Bool):Con:=fun k ds S=>match k with
 |106=>some (pE (β:=Sm) ds S (fun b=>.bool (p b)) (fun b=>isS b ds [.ref 1 xi 0]/\b∈l/\S=⟨[(1,xi,.cells [.fn (.func 105) [] [.ref 0 xk 0,.ref 1 xi 0]]),(0,xk,.cells [.int .i64 q])],[]⟩))
 |_=>none
theorem BfT(xi:Nat)(xk:Nat)(q:Int){l:List Sm}{p:Sm->Bool}(h:∀b∈l,CS 106 (.agg b.row1::[.ref 1 xi 0]) ⟨[(1,xi,.cells [.fn (.func 105) [] [.ref 0 xk 0,.ref 1 xi 0]]),(0,xk,.cells [.int .i64 q])],[]⟩ (.bool (p b))):ConOk Tryz.prog (BcN xi xk q l p):=by
 intro k ds S A hh
 unfold BcN at hh
 split at hh
 ·injection hh with hh;subst hh
  refine Cl fun b ⟨e,hb,hs⟩=>?_
  rw[hs]
  exact (h b hb).wk e
 ·cases hh
noncomputable def EPxx(xi:Nat)(xk:Nat)(q:Int)(l:List Sm)(p:Sm->Bool):Senv:={ EC (BcN xi xk q l p) 19 2 [4,5,7,8,9,16] (fun _=>([],[])) with
 ann:=fun b _ S=>match b with
  |0=>some { slots:=[8],keep:=[0,1,6,7],α:=Nat,st:=fun i=>([.int .i64 i],S),inv:=fun i=>IdxG p l i,mu:=fun i=>l.length-i }
  |_=>none }
noncomputable section
def Qfk(a b:Nat):D:=D.fn (Fn.func (105:Nat)) [] [D.ref N0 a N0,D.ref N1 b N0]
def Y3(a b:Nat)(c:Int):Prop:=(SM a/\(SM (Qfk b a)/\True)/\SM b/\(SM c/\True)/\True)/\True
def Qa4:Arr:=DA
def Y4:Nd:=Nd.mk Z0 Z0 Z0 [] Z0 Z0 Qa4 [] [] Z0 Z0 Z0
def Y5:Sm:=Sm.mk Z0 Z0 [] Z0 Y4 Y4
def VW(a:List Sm)(b:Nat):Sm:=List.getD a (Int.toNat (↑b:Int)) Y5
def Kn(a:List Sm)(b:Nat):Nd:=Sm.te (VW a b)
def Y6(a:List Sm)(b:Nat):Arr:=Nd.va (Kn a b)
def Qq8(a:List Sm)(b:Nat):List Int:=Arr.sh (Y6 a b)
def Qq9(a:List Sm)(b:Nat):List Int:=Arr.nu (Y6 a b)
def Qfl(a:List Sm)(b:Nat):List Arr:=Arr.it (Y6 a b)
def Qfm(a:List Sm)(b:Nat):List Nd:=Nd.ki (Kn a b)
def Qfn(a:List Sm)(b:Nat):List Sm:=Nd.bo (Kn a b)
def Ko(a:List Sm)(b:Nat):Nd:=Sm.nd (VW a b)
def Y7(a:List Sm)(b:Nat):Arr:=Nd.va (Ko a b)
def Qra(a:List Sm)(b:Nat):List Int:=Arr.sh (Y7 a b)
def Qrb(a:List Sm)(b:Nat):List Int:=Arr.nu (Y7 a b)
def Qfo(a:List Sm)(b:Nat):List Arr:=Arr.it (Y7 a b)
def Qfp(a:List Sm)(b:Nat):List Nd:=Nd.ki (Ko a b)
def Qfq(a:List Sm)(b:Nat):List Sm:=Nd.bo (Ko a b)
def Qrc(a b:Nat)(c:Int):St:=St.mk [(N1,a,AObj.cells [Qfk b a]),(N0,b,AObj.cells [ZI c])] []
def Qrd(a:List Sm):D:=D.sl 34 (LN a) (fun i=>Sm.row1 (List.getD a i Y5)) Mode.any
end
theorem Pxx_ok(xi : Nat)(xk : Nat)(q : Int)(l : List Sm)(p : Sm -> Bool)(h : ∀b∈l, CS 106 (.agg b.row1::[.ref 1 xi 0]) ⟨[(1, xi, .cells [.fn (.func 105) [] [.ref 0 xk 0, .ref 1 xi 0]]), (0, xk, .cells [.int .i64 q])], []⟩ (.bool (p b)))(hl : l.length<=maxLen) :
  CS 85 [gsl 34 Sm.row1 l,.fn (.func 106) [] [.ref 1 xi 0]] ⟨[(1,xi,.cells [.fn (.func 105) [] [.ref 0 xk 0,.ref 1 xi 0]]),(0,xk,.cells [.int .i64 q])],[]⟩ (.int .i64 (Cg p l 0)):=by
 refine CS.of (Bi (A:=sS _ _ _) (x:=()) (E:=EPxx xi xk q l p) (eOk (BfT xi xk q h) rfl) Tryz.func85 rfl (by kernel_rfl) rfl (by simp[sS,EPxx,EC,E0]) ?_)
 refine Bj (T :=
  (∃(x:Nat),IdxG p l x/\(Z0=(↑x:Int)/\True)/\Y3 xi xk q)/\∀(x:Nat),IdxG p l x->ifB (decide ((↑x:Int)<(LI l))) (Bd (Z0<=(↑x:Int)/\(↑x:Int)<(LI l)) (∃(x_1:Sm),(isS x_1 [D.agg [ZI (Sm.kd (VW l x)),ZI (Sm.at_ (VW l x)),D.str (Sm.nm (VW l x)),ZI (Sm.sl (VW l x)),ZI (Nd.kd (Kn l x)),ZI (Nd.at_ (Kn l x)),ZI (Nd.cl (Kn l x)),D.str (Nd.tx (Kn l x)),ZI (Nd.pr (Kn l x)),ZI (Nd.op (Kn l x)),ZI (Arr.k (Y6 l x)),SI (Qq8 l x),SI (Qq9 l x),D.sl N4 (LN (Qfl l x)) (fun i=>Arr.row (List.getD (Qfl l x) i Qa4)) Mode.any,D.sl 15 (LN (Qfm l x)) (fun i=>Nd.row (List.getD (Qfm l x) i Y4)) Mode.any,D.sl 34 (LN (Qfn l x)) (fun i=>Sm.row (List.getD (Qfn l x) i Y5)) Mode.any,ZI (Nd.de (Kn l x)),ZI (Nd.sl (Kn l x)),ZI (Nd.ss (Kn l x)),ZI (Nd.kd (Ko l x)),ZI (Nd.at_ (Ko l x)),ZI (Nd.cl (Ko l x)),D.str (Nd.tx (Ko l x)),ZI (Nd.pr (Ko l x)),ZI (Nd.op (Ko l x)),ZI (Arr.k (Y7 l x)),SI (Qra l x),SI (Qrb l x),D.sl N4 (LN (Qfo l x)) (fun i=>Arr.row (List.getD (Qfo l x) i Qa4)) Mode.any,D.sl 15 (LN (Qfp l x)) (fun i=>Nd.row (List.getD (Qfp l x) i Y4)) Mode.any,D.sl 34 (LN (Qfq l x)) (fun i=>Sm.row (List.getD (Qfq l x) i Y5)) Mode.any,ZI (Nd.de (Ko l x)),ZI (Nd.sl (Ko l x)),ZI (Nd.ss (Ko l x))],D.ref N1 xi N0] [D.ref N1 xi N0]/\x_1∈l/\SM (Qrc xi xk q))/\∀(y:Unit),True->ifB (p x_1) (True/\∃(y:Unit),True/\(↑x:Int)=Cg p l Z0/\Y3 xi xk q) ((SM (Qrd l)/\SM (D.fn (Fn.func (106:Nat)) [] [D.ref N1 xi N0])/\SM D.unk/\SM (ZI (LI l))/\True)/\∃(y:Nat),IdxG p l y/\LN l-y<LN l-x/\(IntKind.wrap IntKind.i64 ((↑x:Int)+Z1)=(↑y:Int)/\True)/\Y3 xi xk q))) (True/\∃(y:Unit),True/\(-1:Int)=Cg p l Z0/\Y3 xi xk q)) (by kernel_rfl) ?_
 delta DA GI LI LN N0 N1 N4 SI SM Z0 Z1 ZI Qfk Y3 Qa4 Y4 Y5 VW Kn Y6 Qq8 Qq9 Qfl Qfm Qfn Ko Y7 Qra Qrb Qfo Qfp Qfq Qrc Qrd
 try simp only[<- dn]
 simp only[Int.toNat_natCast,Bh,Bf,decide_eq_true_eq,decide_eq_false_iff_not,true_and,and_true,exists_const]
 simp only[maxLen] at hl
 refine⟨⟨0,⟨Nat.zero_le _,by simp⟩,rfl⟩,fun i hh=>⟨fun hlt=>?_,fun hge=>(hh.done hge).symm⟩⟩
 have hlt':i<l.length:=by omega
 obtain ⟨s1,s2⟩:=hh.step hlt'
 have hm:l.getD i default∈l:=by rw[List.getD_eq_getElem?_getD,List.getElem?_eq_getElem hlt'];exact List.getElem_mem hlt'
 refine⟨⟨by omega,hlt⟩,l.getD i default,?_,fun _ _=>⟨fun e=>(s1 e).symm,fun e=>⟨i+1,s2 e,by omega,Be (by omega) (by omega)⟩⟩⟩
 first
  |exact⟨Bc _,hm,rfl⟩
  |exact⟨Bc _,hm⟩
def Bgl(xi:Nat)(xk:Nat)(q:Int)(l:List Sm)(p:Sm->Bool):Con:=fun k ds S=>match k with
 |85=>some (pA ds S (.int .i64 (Cg p l 0)) (wkL ds [gsl 34 Sm.row1 l,.fn (.func 106) [] [.ref 1 xi 0]]/\S=⟨[(1,xi,.cells [.fn (.func 105) [] [.ref 0 xk 0,.ref 1 xi 0]]),(0,xk,.cells [.int .i64 q])],[]⟩))
 |_=>none
noncomputable def EPxc(xi:Nat)(xk:Nat)(q:Int)(l:List Sm)(p:Sm->Bool):Senv:=EC (Bgl xi xk q l p) 9 2 [4] (fun _=>([],[]))
noncomputable section
def Qfr:Nd:=Nd.mk Z0 Z0 Z0 [] Z0 Z0 DA [] [] Z0 Z0 Z0
def Qfs(a:List Sm)(b:Nat):List D:=[D.sl 34 (LN a) (fun i=>Sm.row1 (List.getD a i (Sm.mk Z0 Z0 [] Z0 Qfr Qfr))) Mode.any,D.fn (Fn.func (106:Nat)) [] [D.ref N1 b N0]]
def Qft(a b:Nat):D:=D.fn (Fn.func (105:Nat)) [] [D.ref N0 a N0,D.ref N1 b N0]
def Qre(a b:Nat)(c:Int):St:=St.mk [(N1,a,AObj.cells [Qft b a]),(N0,b,AObj.cells [ZI c])] []
end
theorem Pxc_ok(xi : Nat)(xk : Nat)(q : Int)(l : List Sm)(p : Sm -> Bool)(h : ∀b∈l, CS 106 (.agg b.row1::[.ref 1 xi 0]) ⟨[(1, xi, .cells [.fn (.func 105) [] [.ref 0 xk 0, .ref 1 xi 0]]), (0, xk, .cells [.int .i64 q])], []⟩ (.bool (p b)))(hl : l.length<=maxLen) :
  CS 56 [gsl 34 Sm.row1 l,.fn (.func 106) [] [.ref 1 xi 0]] ⟨[(1,xi,.cells [.fn (.func 105) [] [.ref 0 xk 0,.ref 1 xi 0]]),(0,xk,.cells [.int .i64 q])],[]⟩ (.bool (l.any p)):=by
 refine CS.of (Bi (A:=sS _ _ _) (x:=()) (E:=EPxc xi xk q l p) (eOk ?_ rfl) Tryz.func56 rfl (by kernel_rfl) rfl (by simp[sS,EPxc,EC,E0]) ?_)
 ·intro k ds S A hh
  try unfold Bgl at hh
  try dsimp only at hh
  split at hh
  ·injection hh with hh;subst hh
   refine Bs fun ⟨e,hs⟩=>?_
   rw[hs]
   exact (Pxx_ok xi xk q l p h hl).wk e
  ·cases hh
 refine Bj (T :=
  ∃(x:Unit),(wkL (Qfs l xi) (Qfs l xi)/\SM (Qre xi xk q))/\∀(y:Unit),True->True/\∃(y:Unit),True/\decide (Z0<=Cg p l Z0)=List.any l p/\(SM xi/\(SM (Qft xk xi)/\True)/\SM xk/\(SM q/\True)/\True)/\True) (by kernel_rfl) ?_
 delta DA LN N0 N1 SM Z0 ZI Qfr Qfs Qft Qre
 simp only[true_and,and_true,exists_const,forall_const]
 first
  |exact⟨Bc _,Ch _ l 0 (Int.le_refl _)⟩
  |exact⟨⟨Bc _,rfl⟩,Ch _ l 0 (Int.le_refl _)⟩
theorem C7{n b:Nd}(h:b∈BK n):szN b<szN n:=by
 have:=Bek h
 rw[OY n]
 omega
theorem IP{n b:Nd}(h:n.sm)(hb:b∈BK n):b.sm:=by
 cases n with
 |mk kd at_ cl tx pr op va ki bo de sl ss =>
  simp only[Nd.sm] at h
  obtain ⟨_,_,h1,h2⟩:=h
  rcases List.mem_append.1 hb with hb | hb
  ·exact (O9 _).1 h1 b hb
  ·obtain ⟨s,hs,hb⟩:=List.mem_flatMap.1 hb
   have h3:=(G8 _).1 h2 s hs
   cases s with
   |mk k2 a2 nm s2 te nd =>
    simp only[Sm.sm] at h3
    unfold Bg at hb
    split at hb
    ·rcases List.mem_cons.1 hb with rfl | hb
     ·exact h3.2.1
     ·rcases List.mem_cons.1 hb with rfl | hb
      ·exact h3.2.2
      ·cases hb
    ·rcases List.mem_cons.1 hb with rfl | hb
     ·exact h3.2.2
     ·cases hb
theorem EM{n:Nd}(h:n.sm):n.tx.length<=BU/\n.ki.length<=BU/\n.bo.length<=BU:=by
 cases n with
 |mk kd at_ cl tx pr op va ki bo de sl ss =>
  simp only[Nd.sm] at h
  exact h.1
theorem BbC{n:Nd}(h:n.sm):(BK n).length<=maxLen:=by
 obtain ⟨_,h1,h2⟩:=EM h
 have:=BfE n
 unfold BU at h1 h2
 unfold maxLen
 omega
def BD(n:Nd)(m:Int):Bool:=decide (m<(dpN n:Int))
theorem Ww(m:Int):∀l:List Nd,(l.any fun b=>BD b m)=true↔(l≠[]/\m<(dpL l:Int))
 | []=>by simp
 | [x]=>by
  simp only[List.any_cons,List.any_nil,Bool.or_false,BD,decide_eq_true_eq,dpL]
  have:=Bay x
  constructor
  ·intro h;exact⟨by simp,by omega⟩
  ·rintro ⟨_,h⟩;omega
 |x::y::r=>by
  have ih:=Ww m (y::r)
  have e:dpL (x::y::r)=max (dpN x) (dpL (y::r)):=by simp only[dpL]
  rw[List.any_cons,Bool.or_eq_true,ih,e]
  simp only[BD,decide_eq_true_eq,ne_eq,reduceCtorEq,not_false_eq_true,true_and]
  omega
theorem Beb(n:Nd)(m:Int):BD n m=(decide (m<1)||(BK n).any fun b=>BD b (m-1)):=by
 rw[Bool.eq_iff_iff,Bool.or_eq_true,Ww,decide_eq_true_eq]
 unfold BD
 rw[decide_eq_true_eq,Mv n]
 cases hi:BK n with
 |nil =>
  simp only[dpL,ne_eq,not_true_eq_false,false_and,or_false]
  omega
 |cons x r =>
  simp only[ne_eq,reduceCtorEq,not_false_eq_true,true_and]
  have:=Bay x
  have:dpN x<=dpL (x::r):=Mf (by simp)
  omega
def Bkg(b:Nd)(m:Int):Con:=fun k ds S=>match k with
 |39=>some (pA ds S (.bool (BD b m)) (isN b ds [.int .i64 m]))
 |_=>none
noncomputable def Ed1(b:Nd)(m:Int):Senv:=EC (Bkg b (m-1)) 8 4 [] (fun _=>([],[]))
noncomputable section
def Y8(a:Nd):Arr:=Nd.va a
def Qrf(a:Nd):List Int:=Arr.sh (Y8 a)
def Qrg(a:Nd):List Int:=Arr.nu (Y8 a)
def Qfu(a:Nd):List Arr:=Arr.it (Y8 a)
def Qfv:Arr:=DA
def Qa5:Nd:=Nd.mk Z0 Z0 Z0 [] Z0 Z0 Qfv [] [] Z0 Z0 Z0
end
theorem BlY(b : Nd)(m : Int)(hm : BY m)(h1 : 1<=m)(h : CD 39 [.agg b.row1, .int .i64 (m-1)] (.bool (BD b (m-1))))(xm : Nat) :
  CS 65 [.agg b.row1,.ref 1 xm 0] ⟨[(1,xm,.cells [.int .i64 m])],[]⟩ (.bool (BD b (m-1))):=by
 refine CS.of (Bi (A:=sS _ _ _) (x:=()) (E:=Ed1 b m) (eOk ?_ rfl) Tryz.func65 rfl (by kernel_rfl) rfl (by simp[sS,Ed1,EC,E0]) ?_)
 ·intro k ds S A hh
  try unfold Bkg at hh
  try dsimp only at hh
  split at hh
  ·injection hh with hh;subst hh
   exact Bs fun e=>CD.at_ (h.wk e) _
  ·cases hh
 refine Bj (T :=
  ∀(x:Nat),xm≠x/\True->SM x/\SM xm/\∃(x:Unit),isN b [D.agg [ZI (Nd.kd b),ZI (Nd.at_ b),ZI (Nd.cl b),D.str (Nd.tx b),ZI (Nd.pr b),ZI (Nd.op b),ZI (Arr.k (Y8 b)),SI (Qrf b),SI (Qrg b),D.sl N4 (LN (Qfu b)) (fun i=>Arr.row (List.getD (Qfu b) i Qfv)) Mode.any,D.sl 15 (LN (Nd.ki b)) (fun i=>Nd.row (List.getD (Nd.ki b) i Qa5)) Mode.any,D.sl 34 (LN (Nd.bo b)) (fun i=>Sm.row (List.getD (Nd.bo b) i (Sm.mk Z0 Z0 [] Z0 Qa5 Qa5))) Mode.any,ZI (Nd.de b),ZI (Nd.sl b),ZI (Nd.ss b)],ZI (IntKind.wrap IntKind.i64 (m-Z1))] [ZI (m-Z1)]/\∀(y:Unit),True->True/\∃(y:Unit),True/\SM (BD b (m-Z1))/\(SM xm/\(SM m/\True)/\True)/\True) (by kernel_rfl) ?_
 delta DA GI LN N1 N4 SI SM Z0 Z1 ZI Y8 Qrf Qrg Qfu Qfv Qa5
 simp only[eq_self,ne_eq,implies_true,true_and,and_true,exists_const]
 have w:IntKind.i64.wrap (m-1)=m-1:=by unfold BY at hm;exact Be (by omega) (by omega)
 rw[w]
 exact fun _ _=>B1 _ _
def Bkf(n:Nd)(m:Int):Con:=fun k ds S=>match k with
 |64=>some (pA ds S (gsl 15 Nd.row1 (BK n)) (isN2 n ds []))
 |55=>match ds with
  | [_,.fn _ _ [.ref _ xm _]]=>some (pA ds S (.bool ((BK n).any fun b=>BD b (m-1))) (1<=m/\wkL ds [gsl 15 Nd.row1 (BK n),.fn (.func 65) [] [.ref 1 xm 0]]/\∃F,S=St.add ⟨[(1,xm,.cells [.int .i64 m])],[]⟩ F))
  |_=>none
 |_=>none
noncomputable def Ede(n:Nd)(m:Int):Senv:=EC (Bkf n m) 13 5 [] (fun _=>([],[]))
noncomputable section
def Y9(a:Nd):Arr:=Nd.va a
def Qrh(a:Nd):List Int:=Arr.sh (Y9 a)
def Qri(a:Nd):List Int:=Arr.nu (Y9 a)
def Qfw(a:Nd):List Arr:=Arr.it (Y9 a)
def Qfx:Arr:=DA
def Za:Nd:=Nd.mk Z0 Z0 Z0 [] Z0 Z0 Qfx [] [] Z0 Z0 Z0
def Qfy(a:Nd):List D:=[ZI (Nd.kd a),ZI (Nd.at_ a),ZI (Nd.cl a),D.str (Nd.tx a),ZI (Nd.pr a),ZI (Nd.op a),ZI (Arr.k (Y9 a)),SI (Qrh a),SI (Qri a),D.sl N4 (LN (Qfw a)) (fun i=>Arr.row (List.getD (Qfw a) i Qfx)) Mode.any,D.sl 15 (LN (Nd.ki a)) (fun i=>Nd.row1 (List.getD (Nd.ki a) i Za)) Mode.any,D.sl 34 (LN (Nd.bo a)) (fun i=>Sm.row1 (List.getD (Nd.bo a) i (Sm.mk Z0 Z0 [] Z0 Za Za))) Mode.any,ZI (Nd.de a),ZI (Nd.sl a),ZI (Nd.ss a)]
def Qa6(a:Nd):List Nd:=BK a
def Qfz(a:Nd):D:=D.sl 15 (LN (Qa6 a)) (fun i=>Nd.row1 (List.getD (Qa6 a) i Za)) Mode.any
end
theorem BiY(n : Nd)(m : Int)(hn : n.sm)(hm : BY m)(h : 1<=m -> ∀b∈BK n, CD 39 [.agg b.row1, .int .i64 (m-1)] (.bool (BD b (m-1)))) :
  CD 39 [.agg n.row2,.int .i64 m] (.bool (BD n m)):=by
 obtain ⟨_,k1,k2⟩:=EM hn
 refine Bi (A:=sC _ _) (x:=()) (E:=Ede n m) (eOk ?_ rfl) Tryz.func39 rfl (by kernel_rfl) rfl (by simp[sC,Ede,EC,E0]) ?_
 ·intro k ds S A hh
  try unfold Bkf at hh
  try dsimp only at hh
  split at hh
  ·injection hh with hh;subst hh
   exact Bs fun e=>CD.at_ (CD.wk (BhK n k1 k2) e) _
  ·split at hh
   ·injection hh with hh;subst hh
    refine Bs fun ⟨h1,e,F,hS⟩=>?_
    rw[hS]
    exact CS.frame F (CS.wk (Dxc_ok _ m (BK n) (fun b=>BD b (m-1)) (fun b hb=>BlY b m hm h1 (h h1 b hb) _) (BbC hn)) e)
   ·cases hh
  ·cases hh
 refine Bj (T :=
  ∀(x:Nat),True->∀(x_1:Nat),x≠x_1/\True->SM x_1/\ifB (decide (m<Z1)) (RT (true=BD n m)) (SM x/\∃(x_2:Unit),isN2 n [D.agg (Qfy n)] []/\∀(y:Unit),True->∃(x_3:Unit),(Z1<=m/\wkL [Qfz n,D.fn (Fn.func (65:Nat)) [] [D.ref (max (N0+N1) N0) x_1 N0]] [Qfz n,D.fn (Fn.func (65:Nat)) [] [D.ref N1 x_1 N0]]/\∃(F:St),St.mk [(max (N0+N1) N0,x_1,AObj.cells [ZI m]),(N0,x,AObj.cells (Qfy n))] []=St.mk ((N1,x_1,AObj.cells [ZI m])::List.append [] (St.objs F)) ([]++St.toks F))/\∀(y:Unit),True->RT ((List.any (Qa6 n) fun (b:Nd)=>BD b (m-Z1))=BD n m))) (by kernel_rfl) ?_
 delta DA GI LN N0 N1 N4 SI SM Z0 Z1 ZI Qfx Za Qfy Qa6 Qfz Y9 Qrh Qri Qfw RT
 simp only[eq_self,ne_eq,Bh,decide_eq_true_eq,decide_eq_false_iff_not,true_and,and_true,exists_const,forall_const]
 rw[Beb]
 exact fun x x1 _=>⟨fun h=>by simp[h],fun h=>⟨U3 n _,⟨by omega,Bc _,⟨⟨[_],[]⟩,rfl⟩⟩,by simp[h]⟩⟩
theorem Bj1(n:Nd)(m:Int)(hn:n.sm)(hm:BY m):CD 39 [.agg n.row2,.int .i64 m] (.bool (BD n m)):=by
 refine BiY n m hn hm fun h1 b hb=>CD.down (Bj1 b (m-1) (IP hn hb) ?_)
 unfold BY at hm ⊢
 omega
termination_by szN n
decreasing_by exact C7 hb
def BbU(xi xk:Nat)(q:Int):St:=⟨[(1,xi,.cells [.fn (.func 105) [] [.ref 0 xk 0,.ref 1 xi 0]]),(0,xk,.cells [.int .i64 q])],[]⟩
theorem Co{n b:Nd}(h:b∈n.ki):b∈BK n:=List.mem_append.2 (.inl h)
def BeE(l:List Nd)(xi xk:Nat)(q:Int):Con:=fun k ds S=>match k with
 |38=>some (pE (β:=Sm) ds S (fun s=>gsl 15 Nd.row1 (Bg s)) (fun s=>isS s ds []))
 |55=>some (pA ds S (.bool (l.any (Gr q))) (wkL ds [gsl 15 Nd.row1 l,.fn (.func 105) [] [.ref 0 xk 0,.ref 1 xi 0]]/\∃o,S=⟨o::(BbU xi xk q).objs,[]⟩))
 |_=>none
theorem Bb3{l:List Nd}{xi xk:Nat}{q:Int}(hn:l.length<=maxLen)(h:∀b∈l,CS 105 [.agg b.row1,.ref 0 xk 0,.ref 1 xi 0] (BbU xi xk q) (.bool (Gr q b))):ConOk Tryz.prog (BeE l xi xk q):=by
 intro k ds S A hh
 unfold BeE at hh
 split at hh
 ·injection hh with hh;subst hh
  exact Cl fun s e=>CD.at_ (CD.wk (Bg6 s) e) _
 ·injection hh with hh;subst hh
  refine Bs fun ⟨e,o,hS⟩=>?_
  rw[hS]
  exact CS.front o (CS.wk (Oxc_ok xi xk q l (Gr q) h hn) e)
 ·cases hh
noncomputable def Eo1(l:List Nd)(xi xk:Nat)(q:Int):Senv:=EC (BeE l xi xk q) 20 5 [] (fun _=>([],[]))
noncomputable section
def QfA(a b:Nat):D:=D.fn (Fn.func (105:Nat)) [] [D.ref N0 a N0,D.ref N1 b N0]
def Qa7(a b:Nat)(c:Int):Prop:=(SM a/\(SM (QfA b a)/\True)/\SM b/\(SM c/\True)/\True)/\True
def QfB:Arr:=DA
def Qa8:Nd:=Nd.mk Z0 Z0 Z0 [] Z0 Z0 QfB [] [] Z0 Z0 Z0
def QfC(a:Nd):D:=D.sl 15 (LN (Nd.ki a)) (fun i=>Nd.row1 (List.getD (Nd.ki a) i Qa8)) Mode.any
def QfD(a b:Nat):List D:=[QfA a b]
def QfE(a:Nd)(b c:Nat):List D:=QfC a::QfD b c
def Zb(a:Nd):Arr:=Nd.va a
def Qrj(a:Nd):List Int:=Arr.sh (Zb a)
def Qrk(a:Nd):List Int:=Arr.nu (Zb a)
def QfF(a:Nd):List Arr:=Arr.it (Zb a)
def QfG(a b:Nat)(c:Int):List (Nat×Nat×AObj):=[(N1,a,AObj.cells (QfD b a)),(N0,b,AObj.cells [ZI c])]
end
theorem BjW(n : Nd)(xi xk : Nat)(q : Int)(hn : n.ki.length<=maxLen)(h : ∀b∈n.ki, CS 105 [.agg b.row1, .ref 0 xk 0, .ref 1 xi 0] (BbU xi xk q) (.bool (Gr q b))) :
  CS 105 [.agg n.row2,.ref 0 xk 0,.ref 1 xi 0] (BbU xi xk q) (.bool (Gr q n)):=by
 refine CS.of (Bi (A:=sS _ _ _) (x:=()) (E:=Eo1 n.ki xi xk q) (eOk (Bb3 hn h) rfl) Tryz.func105 rfl (by kernel_rfl) rfl (by simp[sS,Eo1,EC,E0]) ?_)
 refine Bj (T :=
  ∀(x:Nat),xi≠x/\xk≠x/\True->SM x/\SM xk/\ifB (Nd.kd n==q) (True/\∃(y:Unit),True/\true=Gr q n/\Qa7 xi xk q) (SM x/\ifB (Nd.kd n != (10:Int)) (SM x/\SM xi/\∃(x_1:Unit),(wkL (QfE n xk xi) (QfE n xk xi)/\∃(o:Nat×Nat×AObj),St.mk ((N2,x,AObj.cells [ZI (Nd.kd n),ZI (Nd.at_ n),ZI (Nd.cl n),D.str (Nd.tx n),ZI (Nd.pr n),ZI (Nd.op n),ZI (Arr.k (Zb n)),SI (Qrj n),SI (Qrk n),D.sl N4 (LN (QfF n)) (fun i=>Arr.row (List.getD (QfF n) i QfB)) Mode.any,QfC n,D.sl 34 (LN (Nd.bo n)) (fun i=>Sm.row1 (List.getD (Nd.bo n) i (Sm.mk Z0 Z0 [] Z0 Qa8 Qa8))) Mode.any,ZI (Nd.de n),ZI (Nd.sl n),ZI (Nd.ss n)])::QfG xi xk q) []=St.mk (o::QfG xi xk q) [])/\∀(y:Unit),True->True/\∃(y:Unit),True/\List.any (Nd.ki n) (Gr q)=Gr q n/\Qa7 xi xk q) (True/\∃(y:Unit),True/\false=Gr q n/\Qa7 xi xk q))) (by kernel_rfl) ?_
 delta DA GI LN N0 N1 N2 N4 SI SM Z0 ZI QfA Qa7 QfF QfG QfB Qa8 QfC QfD QfE Zb Qrj Qrk
 try simp only[<- dm]
 try simp only[<- dn]
 simp only[ne_eq,Bh,true_and,and_true,beq_iff_eq,bne_iff_ne,bne_eq_false_iff_eq,beq_eq_false_iff_ne,exists_const,forall_const,Prod.exists]
 have e:=Bje q n
 refine fun x _=>⟨fun h=>?_,fun h=>⟨fun h2=>⟨⟨Bc _,_,_,_,rfl⟩,?_⟩,fun h2=>?_⟩⟩
 ·rw[e,h];simp
 ·have h3:(n.kd==q)=false:=by simpa using h
  have h4:(n.kd != 10)=true:=by simpa using h2
  rw[e,h3,h4];simp
 ·have h3:(n.kd==q)=false:=by simpa using h
  rw[e,h3,h2];simp
theorem BkA(n:Nd)(xi xk:Nat)(q:Int)(hn:n.sm):CS 105 [.agg n.row2,.ref 0 xk 0,.ref 1 xi 0] (BbU xi xk q) (.bool (Gr q n)) :=
 BjW n xi xk q (Ci (EM hn).2.1) fun b hb=>CS.wk (BkA b xi xk q (IP hn (Co hb))) (by simp only[wkL,wkD];exact⟨GC _,by simp[Bk,Ba],by simp[Bk,Ba],trivial⟩)
termination_by szN n
decreasing_by exact C7 (Co hb)
theorem Bll(n:Nd)(xi xk:Nat)(q:Int)(hn:n.sm):CS 105 [.agg n.row1,.ref 0 xk 0,.ref 1 xi 0] (BbU xi xk q) (.bool (Gr q n)) :=
 CS.wk (BkA n xi xk q hn) (by simp only[wkL,wkD];exact⟨GC _,by simp[Bk,Ba],by simp[Bk,Ba],trivial⟩)
theorem Wr{s:Sm}(h:s.sm):∀b∈Bg s,b.sm:=by
 cases s with
 |mk kd at_ nm sl te nd =>
  simp only[Sm.sm] at h
  intro b hb
  unfold Bg at hb
  split at hb
  ·rcases List.mem_cons.1 hb with rfl | hb
   ·exact h.2.1
   ·rcases List.mem_cons.1 hb with rfl | hb
    ·exact h.2.2
    ·cases hb
  ·rcases List.mem_cons.1 hb with rfl | hb
   ·exact h.2.2
   ·cases hb
noncomputable def Eo2(s:Sm)(xi xk:Nat)(q:Int):Senv:=EC (BeE (Bg s) xi xk q) 8 4 [] (fun id=>match id with | 1=>([0,2,1,3,4],[1,3]) | _=>([],[]))
noncomputable section
def Kp(a:Sm):Nd:=Sm.te a
def Zc(a:Sm):Arr:=Nd.va (Kp a)
def Qrl(a:Sm):List Int:=Arr.sh (Zc a)
def Qrm(a:Sm):List Int:=Arr.nu (Zc a)
def QfH(a:Sm):List Arr:=Arr.it (Zc a)
def Qa9:Arr:=DA
def QfI(a:Sm):List Nd:=Nd.ki (Kp a)
def X3:Nd:=Nd.mk Z0 Z0 Z0 [] Z0 Z0 Qa9 [] [] Z0 Z0 Z0
def QfJ(a:Sm):List Sm:=Nd.bo (Kp a)
def QfK:Sm:=Sm.mk Z0 Z0 [] Z0 X3 X3
def Kq(a:Sm):Nd:=Sm.nd a
def Zd(a:Sm):Arr:=Nd.va (Kq a)
def Qrn(a:Sm):List Int:=Arr.sh (Zd a)
def Qro(a:Sm):List Int:=Arr.nu (Zd a)
def QfL(a:Sm):List Arr:=Arr.it (Zd a)
def QfM(a:Sm):List Nd:=Nd.ki (Kq a)
def QfN(a:Sm):List Sm:=Nd.bo (Kq a)
def QfO(a:Sm):List D:=[ZI (Sm.kd a),ZI (Sm.at_ a),D.str (Sm.nm a),ZI (Sm.sl a),ZI (Nd.kd (Kp a)),ZI (Nd.at_ (Kp a)),ZI (Nd.cl (Kp a)),D.str (Nd.tx (Kp a)),ZI (Nd.pr (Kp a)),ZI (Nd.op (Kp a)),ZI (Arr.k (Zc a)),SI (Qrl a),SI (Qrm a),D.sl N4 (LN (QfH a)) (fun i=>Arr.row (List.getD (QfH a) i Qa9)) Mode.any,D.sl 15 (LN (QfI a)) (fun i=>Nd.row (List.getD (QfI a) i X3)) Mode.any,D.sl 34 (LN (QfJ a)) (fun i=>Sm.row (List.getD (QfJ a) i QfK)) Mode.any,ZI (Nd.de (Kp a)),ZI (Nd.sl (Kp a)),ZI (Nd.ss (Kp a)),ZI (Nd.kd (Kq a)),ZI (Nd.at_ (Kq a)),ZI (Nd.cl (Kq a)),D.str (Nd.tx (Kq a)),ZI (Nd.pr (Kq a)),ZI (Nd.op (Kq a)),ZI (Arr.k (Zd a)),SI (Qrn a),SI (Qro a),D.sl N4 (LN (QfL a)) (fun i=>Arr.row (List.getD (QfL a) i Qa9)) Mode.any,D.sl 15 (LN (QfM a)) (fun i=>Nd.row (List.getD (QfM a) i X3)) Mode.any,D.sl 34 (LN (QfN a)) (fun i=>Sm.row (List.getD (QfN a) i QfK)) Mode.any,ZI (Nd.de (Kq a)),ZI (Nd.sl (Kq a)),ZI (Nd.ss (Kq a))]
def QfP(a b:Nat):D:=D.fn (Fn.func (105:Nat)) [] [D.ref N0 a N0,D.ref N1 b N0]
def QfQ(a b:Nat):Prop:=SM (QfP a b)
def Qba(a:Sm):List Nd:=Bg a
def QfR(a b:Nat):List D:=[QfP a b]
def QfS(a:Sm)(b c:Nat):List D:=D.sl 15 (LN (Qba a)) (fun i=>Nd.row1 (List.getD (Qba a) i X3)) Mode.any::QfR b c
def QfT(a b:Nat)(c:Int):List (Nat×Nat×AObj):=[(N1,a,AObj.cells (QfR b a)),(N0,b,AObj.cells [ZI c])]
def Qrp(a:Sm)(b:Int):Bool:=List.any (Qba a) (Gr b)
end
theorem BlB(s:Sm)(xi xk:Nat)(q:Int)(hs:s.sm):CS 106 [.agg s.row1,.ref 1 xi 0] (BbU xi xk q) (.bool ((Bg s).any (Gr q))):=by
 have h2:=Gc s
 refine CS.of (Bi (A:=sS _ _ _) (x:=()) (E:=Eo2 s xi xk q) (eOk (Bb3 (by unfold maxLen;omega) fun b hb=>Bll b xi xk q (Wr hs b hb)) rfl) Tryz.func106 rfl (by kernel_rfl) rfl (by simp[sS,Eo2,EC,E0]) ?_)
 refine Bj (T :=
  ∀(x:Nat),xi≠x/\xk≠x/\True->SM x/\SM xi/\∃(x_1:Sm),isS x_1 [D.agg (QfO s)] []/\∀(y:Unit),True->(SM xi/\QfQ xk xi)/\∃(x_2:Unit),(wkL (QfS x_1 xk xi) (QfS s xk xi)/\∃(o:Nat×Nat×AObj),St.mk ((N2,x,AObj.cells (QfO s))::QfT xi xk q) []=St.mk (o::QfT xi xk q) [])/\∀(y:Unit),True->True/\∃(y:Unit),True/\SM (Qrp s q)/\(SM xi/\(QfQ xk xi/\True)/\SM xk/\(SM q/\True)/\True)/\True) (by kernel_rfl) ?_
 delta DA GI LN N0 N1 N2 N4 SI SM Z0 ZI Kp Zc Qrl Qrm QfH Qa9 QfI X3 QfJ QfK Kq Zd Qrn Qro QfL QfM QfN QfO QfP QfQ Qba QfR QfS QfT Qrp
 try simp only[<- dm]
 try simp only[<- dn]
 simp only[ne_eq,implies_true,true_and,and_true,exists_const,forall_const,Prod.exists]
 refine fun x _=>?_
 first
  |exact⟨s,Iy _ _,⟨Bc _,_,_,_,rfl⟩⟩
  |exact⟨⟨s,Iy _ _,⟨Bc _,_,_,_,rfl⟩⟩,s,Iy _ _,⟨Bc _,_,_,_,rfl⟩⟩
def Bky(l:List Sm)(q:Int):Con:=fun k ds S=>match k with
 |56=>match ds with
  | [_,.fn _ _ [.ref _ xi _]]=>some (pE (β:=Nat) ds S (fun _=>.bool (Ec l q)) (fun xk=>wkL ds [gsl 34 Sm.row1 l,.fn (.func 106) [] [.ref 1 xi 0]]/\S=BbU xi xk q))
  |_=>none
 |_=>none
noncomputable def Eoc(l:List Sm)(q:Int):Senv:=EC (Bky l q) 10 2 [3,4,5] (fun _=>([],[]))
noncomputable section
def QfU:Nd:=Nd.mk Z0 Z0 Z0 [] Z0 Z0 DA [] [] Z0 Z0 Z0
def QfV(a:List Sm)(b:Nat):List D:=[D.sl 34 (LN a) (fun i=>Sm.row1 (List.getD a i (Sm.mk Z0 Z0 [] Z0 QfU QfU))) Mode.any,D.fn (Fn.func (106:Nat)) [] [D.ref N1 b N0]]
def QfW(a b:Nat)(c:Int):St:=St.mk [(N1,a,AObj.cells [D.fn (Fn.func (105:Nat)) [] [D.ref N0 b N0,D.ref N1 a N0]]),(N0,b,AObj.cells [ZI c])] []
end
theorem Bks(l:List Sm)(q:Int)(hl:l.length<=maxLen)(h:∀s∈l,s.sm):CD 72 [gsl 34 Sm.row1 l,.int .i64 q] (.bool (Ec l q)):=by
 refine Bi (A:=sC _ _) (x:=()) (E:=Eoc l q) (eOk ?_ rfl) Tryz.func72 rfl (by kernel_rfl) rfl (by simp[sC,Eoc,EC,E0]) ?_
 ·intro k ds S A hh
  try unfold Bky at hh
  try dsimp only at hh
  split at hh
  ·split at hh
   ·injection hh with hh;subst hh
    refine Cl fun xk ⟨e,hS⟩=>?_
    rw[hS]
    exact CS.wk (Pxc_ok _ xk q l (fun s=>(Bg s).any (Gr q)) (fun s hs=>BlB s _ xk q (h s hs)) hl) e
   ·cases hh
  ·cases hh
 refine Bj (T :=
  ∀(x:Nat),True->∀(x_1:Nat),x≠x_1/\True->SM x_1/\∃(x_2:Nat),(wkL (QfV l x_1) (QfV l x_1)/\QfW x_1 x q=QfW x_1 x_2 q)/\∀(y:Unit),True->RT (SM (Ec l q))) (by kernel_rfl) ?_
 delta DA LN N0 N1 SM Z0 ZI QfU QfV QfW RT
 try simp only[<- dm]
 try simp only[<- dn]
 simp only[ne_eq,implies_true,true_and,and_true,exists_const,forall_const]
 refine fun x x1 _=>⟨x,Bc _,?_⟩
 first
  |rfl
  |exact⟨rfl,rfl⟩
def BfR(xl:Nat)(l:List Sm):St:=⟨[(0,xl,.cells [gsl 34 Sm.row1 l])],[]⟩
def Bke(l:List Sm)(q:Int):Con:=fun k ds S=>match k with
 |72=>some (pA ds S (.bool (Ec l q)) (wkL ds [gsl 34 Sm.row1 l,.int .i64 q]))
 |_=>none
noncomputable def Eu1(l:List Sm)(q:Int):Senv:=EC (Bke l q) 7 2 [3] (fun _=>([],[]))
noncomputable section
def QfX:Nd:=Nd.mk Z0 Z0 Z0 [] Z0 Z0 DA [] [] Z0 Z0 Z0
def QfY(a:List Sm)(b:Nat):List D:=Sm.row1 (List.getD a b (Sm.mk Z0 Z0 [] Z0 QfX QfX))
def QfZ(a:List Sm)(b:Int):List D:=[D.sl 34 (LN a) (fun i=>QfY a i) Mode.any,ZI b]
end
theorem Bmb(l:List Sm)(q:Int)(hl:l.length<=maxLen)(h:∀s∈l,s.sm)(xl:Nat):CS 71 [.int .i64 q,.ref 0 xl 0] (BfR xl l) (.bool (Ec l q)):=by
 refine CS.of (Bi (A:=sS _ _ _) (x:=()) (E:=Eu1 l q) (eOk ?_ rfl) Tryz.func71 rfl (by kernel_rfl) rfl (by simp[sS,Eu1,EC,E0]) ?_)
 ·intro k ds S A hh
  try unfold Bke at hh
  try dsimp only at hh
  split at hh
  ·injection hh with hh;subst hh
   exact Bs fun e=>CD.at_ (CD.wk (Bks l q hl h) e) _
  ·cases hh
 refine Bj (T :=
  SM xl/\∃(x:Unit),wkL (QfZ l q) (QfZ l q)/\∀(y:Unit),True->True/\∃(y:Unit),True/\SM (Ec l q)/\(SM xl/\((SM (LN l)/\(∀(i:Nat),i<LN l->SM (QfY l i))/\True)/\True)/\True)/\True) (by kernel_rfl) ?_
 delta DA LN SM Z0 ZI QfX QfY QfZ
 try simp only[<- dm]
 try simp only[<- dn]
 simp only[implies_true,true_and,and_true,exists_const]
 first
  |exact Bc _
  |exact fun _=>Bc _
def Bkd(l:List Sm)(xl:Nat):Con:=fun k ds S=>match k with
 |71=>match ds with
  | [.int .i64 q,_]=>some (pA ds S (.bool (Ec l q)) (wkL ds [.int .i64 q,.ref 0 xl 0]/\S=BfR xl l))
  |_=>none
 |_=>none
noncomputable def Eux(l:List Sm)(xl:Nat)(m:List Int):Senv:={ EC (Bkd l xl) 19 2 [4,5,7,8,9,16] (fun _=>([],[])) with
 ann:=fun b _ S=>match b with
  |0=>some { slots:=[8],keep:=[0,1,6,7],α:=Nat,st:=fun i=>([.int .i64 i],S),inv:=fun i=>IdxG (fun q=>Ec l q) m i,mu:=fun i=>m.length-i }
  |_=>none }
noncomputable section
def Qbb(a:List Sm)(b:List Int)(c:Nat):Prop:=IdxG (fun (q:Int)=>Ec a q) b c
def Qf0:Nd:=Nd.mk Z0 Z0 Z0 [] Z0 Z0 DA [] [] Z0 Z0 Z0
def Qf1(a:List Sm)(b:Nat):List D:=Sm.row1 (List.getD a b (Sm.mk Z0 Z0 [] Z0 Qf0 Qf0))
def Ze(a:Nat)(b:List Sm):Prop:=(SM a/\((SM (LN b)/\(∀(i:Nat),i<LN b->SM (Qf1 b i))/\True)/\True)/\True)/\True
def Qrq(a:Nat)(b:List Sm):St:=St.mk [(N0,a,AObj.cells [D.sl 34 (LN b) (fun i=>Qf1 b i) Mode.any])] []
def Qf2(a:List Sm)(b:List Int):Int:=Cg (fun (q:Int)=>Ec a q) b Z0
def Qrr(a:List Int):D:=SI a
end
theorem BlF(l : List Sm)(xl : Nat)(m : List Int)(hl : l.length<=maxLen)(h : ∀s∈l, s.sm)(hm : m.length<=maxLen) :
  CS 104 [isl m .any,.fn (.func 71) [] [.ref 0 xl 0]] (BfR xl l) (.int .i64 (Cg (fun q=>Ec l q) m 0)):=by
 refine CS.of (Bi (A:=sS _ _ _) (x:=()) (E:=Eux l xl m) (eOk ?_ rfl) Tryz.func104 rfl (by kernel_rfl) rfl (by simp[sS,Eux,EC,E0]) ?_)
 ·intro k ds S A hh
  try unfold Bkd at hh
  try dsimp only at hh
  split at hh
  ·split at hh
   ·injection hh with hh;subst hh
    refine Bs fun ⟨e,hS⟩=>?_
    rw[hS]
    exact CS.wk (Bmb l _ hl h xl) e
   ·cases hh
  ·cases hh
 refine Bj (T :=
  (∃(x:Nat),Qbb l m x/\(Z0=(↑x:Int)/\True)/\Ze xl l)/\∀(x:Nat),Qbb l m x->ifB (decide ((↑x:Int)<(LI m))) (Bd (Z0<=(↑x:Int)/\(↑x:Int)<(LI m)) (∃(x_1:Unit),(wkL [ZI (GI m (Int.toNat (↑x:Int))),D.ref N0 xl N0] [ZI (GI m (Int.toNat (↑x:Int))),D.ref N0 xl N0]/\SM (Qrq xl l))/\∀(y:Unit),True->ifB (Ec l (GI m (Int.toNat (↑x:Int)))) (True/\∃(y:Unit),True/\(↑x:Int)=Qf2 l m/\Ze xl l) ((SM (Qrr m)/\SM (D.fn (Fn.func (71:Nat)) [] [D.ref N0 xl N0])/\SM D.unk/\SM (ZI (LI m))/\True)/\∃(y:Nat),Qbb l m y/\LN m-y<LN m-x/\(IntKind.wrap IntKind.i64 ((↑x:Int)+Z1)=(↑y:Int)/\True)/\Ze xl l))) (True/\∃(y:Unit),True/\(-1:Int)=Qf2 l m/\Ze xl l)) (by kernel_rfl) ?_
 delta DA GI LI LN N0 N1 SI SM Z0 Z1 ZI Qbb Qf0 Qf1 Ze Qrq Qf2 Qrr
 try simp only[<- dm]
 try simp only[<- dn]
 simp only[implies_true,Int.toNat_natCast,Bh,Bf,decide_eq_true_eq,decide_eq_false_iff_not,true_and,and_true,exists_const,forall_const]
 simp only[maxLen] at hm
 refine⟨⟨0,⟨Nat.zero_le _,by simp⟩,rfl⟩,fun i hh=>⟨fun hlt=>?_,fun hge=>(hh.done hge).symm⟩⟩
 have hlt':i<m.length:=by omega
 obtain ⟨s1,s2⟩:=hh.step hlt'
 have e0:m.getD i default=m.getD i 0:=rfl
 rw[e0] at s1 s2
 refine⟨⟨by omega,hlt⟩,?_⟩
 exact⟨Bc _,fun e=>(s1 e).symm,fun e=>⟨i+1,s2 e,by omega,Be (by omega) (by omega)⟩⟩
def Bkp(l:List Sm)(xl:Nat)(m:List Int):Con:=fun k ds S=>match k with
 |104=>some (pA ds S (.int .i64 (Cg (fun q=>Ec l q) m 0)) (wkL ds [isl m .any,.fn (.func 71) [] [.ref 0 xl 0]]/\S=BfR xl l))
 |_=>none
noncomputable def Euc(l:List Sm)(xl:Nat)(m:List Int):Senv:=EC (Bkp l xl m) 9 2 [4] (fun _=>([],[]))
noncomputable section
def Qf3(a:List Int)(b:Nat):List D:=[SI a,D.fn (Fn.func (71:Nat)) [] [D.ref N0 b N0]]
def Qf4:Nd:=Nd.mk Z0 Z0 Z0 [] Z0 Z0 DA [] [] Z0 Z0 Z0
def Qf5(a:List Sm)(b:Nat):List D:=Sm.row1 (List.getD a b (Sm.mk Z0 Z0 [] Z0 Qf4 Qf4))
def Qrs(a:Nat)(b:List Sm):St:=St.mk [(N0,a,AObj.cells [D.sl 34 (LN b) (fun i=>Qf5 b i) Mode.any])] []
end
theorem BlT(l : List Sm)(xl : Nat)(m : List Int)(hl : l.length<=maxLen)(h : ∀s∈l, s.sm)(hm : m.length<=maxLen) :
  CS 70 [isl m .any,.fn (.func 71) [] [.ref 0 xl 0]] (BfR xl l) (.bool (m.any fun q=>Ec l q)):=by
 refine CS.of (Bi (A:=sS _ _ _) (x:=()) (E:=Euc l xl m) (eOk ?_ rfl) Tryz.func70 rfl (by kernel_rfl) rfl (by simp[sS,Euc,EC,E0]) ?_)
 ·intro k ds S A hh
  try unfold Bkp at hh
  try dsimp only at hh
  split at hh
  ·injection hh with hh;subst hh
   refine Bs fun ⟨e,hS⟩=>?_
   rw[hS]
   exact CS.wk (BlF l xl m hl h hm) e
  ·cases hh
 refine Bj (T :=
  ∃(x:Unit),(wkL (Qf3 m xl) (Qf3 m xl)/\SM (Qrs xl l))/\∀(y:Unit),True->True/\∃(y:Unit),True/\(decide (Z0<=Cg (fun (q:Int)=>Ec l q) m Z0)=List.any m fun (q:Int)=>Ec l q)/\(SM xl/\((SM (LN l)/\(∀(i:Nat),i<LN l->SM (Qf5 l i))/\True)/\True)/\True)/\True) (by kernel_rfl) ?_
 delta DA GI LN N0 N1 SI SM Z0 ZI Qf3 Qf4 Qf5 Qrs
 simp only[true_and,and_true,exists_const,forall_const]
 have e:=Ch (fun q=>Ec l q) m 0 (Int.le_refl _)
 first
  |exact⟨Bc _,e⟩
  |exact⟨⟨Bc _,rfl⟩,e⟩
  |exact⟨Bc _,e,fun _ _=>trivial⟩
def Bj3(l:List Sm):Con:=fun k ds S=>match k with
 |70=>match ds with
  | [_,.fn _ _ [.ref _ xl _]]=>some (pA ds S (.bool (WN l)) (wkL ds [isl [6,7,11,12,13] .any,.fn (.func 71) [] [.ref 0 xl 0]]/\S=BfR xl l))
  |_=>none
 |_=>none
noncomputable def Eou(l:List Sm):Senv:=EC (Bj3 l) 6 3 [] (fun _=>([],[]))
noncomputable section
def Qf6(a:Nat):List D:=[D.fn (Fn.func (71:Nat)) [] [D.ref N0 a N0]]
def Qf7:Nd:=Nd.mk Z0 Z0 Z0 [] Z0 Z0 DA [] [] Z0 Z0 Z0
def Qrt(a:Nat)(b:List Sm):St:=St.mk [(N0,a,AObj.cells [D.sl 34 (LN b) (fun i=>Sm.row1 (List.getD b i (Sm.mk Z0 Z0 [] Z0 Qf7 Qf7))) Mode.any])] []
end
theorem BlE(l:List Sm)(hl:l.length<=maxLen)(h:∀s∈l,s.sm):CD 42 [gsl 34 Sm.row1 l] (.bool (WN l)):=by
 refine Bi (A:=sC _ _) (x:=()) (E:=Eou l) (eOk ?_ rfl) Tryz.func42 rfl (by kernel_rfl) rfl (by simp[sC,Eou,EC,E0]) ?_
 ·intro k ds S A hh
  try unfold Bj3 at hh
  try dsimp only at hh
  split at hh
  ·split at hh
   ·injection hh with hh;subst hh
    refine Bs fun ⟨e,hS⟩=>?_
    rw[hS]
    exact CS.wk (BlT l _ [6,7,11,12,13] hl h (by decide)) e
   ·cases hh
  ·cases hh
 refine Bj (T :=
  ∀(x:Nat),True->∃(x_1:Unit),(wkL (D.sl N1 (5:Nat) (fun i=>List.getD [[ZI 6],[ZI 7],[ZI 11],[ZI 12],[ZI 13]] i []) Mode.full::Qf6 x) (D.sl N1 (5:Nat) (fun i=>[ZI (GI [(6:Int),(7:Int),(11:Int),(12:Int),(13:Int)] i)]) Mode.any::Qf6 x)/\SM (Qrt x l))/\∀(y:Unit),True->RT (SM (WN l))) (by kernel_rfl) ?_
 delta DA GI LN N0 N1 SM Z0 ZI Qf6 Qf7 Qrt RT
 try simp only[<- dm]
 try simp only[<- dn]
 simp only[implies_true,and_true,exists_const,forall_const]
 intro x
 simp only[wkL,wkD,Ba]
 refine⟨⟨by simp,by simp,fun i hi=>?_,by simp[BB]⟩,by simp[Bk],trivial⟩
 match i,hi with
 |0,_=>exact Bc _
 |1,_=>exact Bc _
 |2,_=>exact Bc _
 |3,_=>exact Bc _
 |4,_=>exact Bc _
end Go.Proofs.YtfbfnhbafjmnaaaGreat
