/- Functions of the given program and what each of them computes: lemmas towards the statement, their conditions stated with each of them. -/
import Derived.Test.YtfbfnhbafjmnaaaGreatAb2
import Derived.Test.YtfbfnhbafjmnaaaGreatProg
import Derived.KernelRfl
import Derived.Shelf.Bits.Mul64
import Derived.Test.YtfbfnhbafjmnaaaGreatRows
import Derived.RangeFuncFrom
import Derived.RangeFuncLeaves
import Derived.Shelf.Abstract
import Derived.OwnWalkIn
import Derived.TacticsInMore
import Derived.LoopNIn
import Derived.LoopIn
import Derived.Deep.DeepHandedRow
namespace Go.Proofs.YtfbfnhbafjmnaaaGreat
open Go Go.Ab
noncomputable def tab:List (Nat×TI):=[
 (0,⟨TypeDesc.tuple #[],1,0,[.unk]⟩),
 (1,⟨TypeDesc.func #[] #[] false,1,8,[.nilf]⟩),
 (2,⟨TypeDesc.int .i64,1,8,[.int .i64 0]⟩),
 (3,⟨TypeDesc.int .i64,1,8,[.int .i64 0]⟩),
 (4,⟨TypeDesc.bool,1,1,[.bool false]⟩),
 (5,⟨TypeDesc.int .u8,1,1,[.int .u8 0]⟩),
 (9,⟨TypeDesc.string,1,16,[.str []]⟩),
 (20,⟨TypeDesc.interface #[],1,16,[.nili]⟩),
 (21,⟨TypeDesc.int .i32,1,4,[.int .i32 0]⟩),
 (22,⟨TypeDesc.slice 55,1,24,[.sl 1 0 (fun _=>[]) .nil]⟩),
 (23,⟨Tryz.t23.desc,1,24,[.sl 1 0 (fun _=>[]) .nil]⟩),
 (24,⟨Tryz.t23.desc,1,24,[.sl 1 0 (fun _=>[]) .nil]⟩),
 (25,⟨Tryz.t25.desc,2,32,[.sl 1 0 (fun _=>[]) .nil,.int .i64 0]⟩),
 (26,⟨Tryz.t25.desc,2,32,[.sl 1 0 (fun _=>[]) .nil,.int .i64 0]⟩),
 (27,⟨TypeDesc.int .i64,1,8,[.int .i64 0]⟩),
 (28,⟨TypeDesc.slice 3,1,24,[.sl 1 0 (fun _=>[]) .nil]⟩),
 (29,⟨Tryz.t29.desc,5,80,[.int .i64 0,.int .i64 0,.sl 1 0 (fun _=>[]) .nil,.sl 1 0 (fun _=>[]) .nil,.str []]⟩),
 (30,⟨Tryz.t29.desc,5,80,[.int .i64 0,.int .i64 0,.sl 1 0 (fun _=>[]) .nil,.sl 1 0 (fun _=>[]) .nil,.str []]⟩),
 (31,⟨TypeDesc.tuple #[26,30],1,0,[.unk]⟩),
 (32,⟨TypeDesc.func #[24] #[26,30] false,1,8,[.nilf]⟩),
 (33,⟨TypeDesc.func #[30,30] #[4] false,1,8,[.nilf]⟩),
 (34,⟨TypeDesc.func #[26,26] #[4] false,1,8,[.nilf]⟩),
 (35,⟨TypeDesc.func #[] #[4] false,1,8,[.nilf]⟩),
 (36,⟨TypeDesc.func #[24] #[4] false,1,8,[.nilf]⟩),
 (37,⟨TypeDesc.func #[26] #[27] false,1,8,[.nilf]⟩),
 (38,⟨TypeDesc.int .i64,1,8,[.int .i64 0]⟩),
 (39,⟨TypeDesc.int .i64,1,8,[.int .i64 0]⟩),
 (40,⟨TypeDesc.int .i64,1,8,[.int .i64 0]⟩),
 (41,⟨TypeDesc.int .i64,1,8,[.int .i64 0]⟩),
 (42,⟨TypeDesc.int .i64,1,8,[.int .i64 0]⟩),
 (43,⟨TypeDesc.slice 45,1,24,[.sl 1 0 (fun _=>[]) .nil]⟩),
 (44,⟨Tryz.t44.desc,4,80,[.int .i64 0,.sl 1 0 (fun _=>[]) .nil,.sl 1 0 (fun _=>[]) .nil,.sl 1 0 (fun _=>[]) .nil]⟩),
 (45,⟨Tryz.t44.desc,4,80,[.int .i64 0,.sl 1 0 (fun _=>[]) .nil,.sl 1 0 (fun _=>[]) .nil,.sl 1 0 (fun _=>[]) .nil]⟩),
 (46,⟨TypeDesc.slice 48,1,24,[.sl 1 0 (fun _=>[]) .nil]⟩),
 (47,⟨Tryz.t47.desc,15,208,[.int .i64 0,.int .i64 0,.int .i64 0,.str [],.int .i64 0,.int .i64 0,.int .i64 0,.sl 1 0 (fun _=>[]) .nil,.sl 1 0 (fun _=>[]) .nil,.sl 1 0 (fun _=>[]) .nil,.sl 1 0 (fun _=>[]) .nil,.sl 1 0 (fun _=>[]) .nil,.int .i64 0,.int .i64 0,.int .i64 0]⟩),
 (48,⟨Tryz.t47.desc,15,208,[.int .i64 0,.int .i64 0,.int .i64 0,.str [],.int .i64 0,.int .i64 0,.int .i64 0,.sl 1 0 (fun _=>[]) .nil,.sl 1 0 (fun _=>[]) .nil,.sl 1 0 (fun _=>[]) .nil,.sl 1 0 (fun _=>[]) .nil,.sl 1 0 (fun _=>[]) .nil,.int .i64 0,.int .i64 0,.int .i64 0]⟩),
 (49,⟨TypeDesc.slice 9,1,24,[.sl 1 0 (fun _=>[]) .nil]⟩),
 (50,⟨TypeDesc.func #[48] #[49] false,1,8,[.nilf]⟩),
 (51,⟨TypeDesc.func #[48] #[4] false,1,8,[.nilf]⟩),
 (52,⟨TypeDesc.func #[49,49] #[4] false,1,8,[.nilf]⟩),
 (53,⟨TypeDesc.int .i64,1,8,[.int .i64 0]⟩),
 (54,⟨Tryz.t54.desc,34,456,[.int .i64 0,.int .i64 0,.str [],.int .i64 0,.int .i64 0,.int .i64 0,.int .i64 0,.str [],.int .i64 0,.int .i64 0,.int .i64 0,.sl 1 0 (fun _=>[]) .nil,.sl 1 0 (fun _=>[]) .nil,.sl 1 0 (fun _=>[]) .nil,.sl 1 0 (fun _=>[]) .nil,.sl 1 0 (fun _=>[]) .nil,.int .i64 0,.int .i64 0,.int .i64 0,.int .i64 0,.int .i64 0,.int .i64 0,.str [],.int .i64 0,.int .i64 0,.int .i64 0,.sl 1 0 (fun _=>[]) .nil,.sl 1 0 (fun _=>[]) .nil,.sl 1 0 (fun _=>[]) .nil,.sl 1 0 (fun _=>[]) .nil,.sl 1 0 (fun _=>[]) .nil,.int .i64 0,.int .i64 0,.int .i64 0]⟩),
 (55,⟨Tryz.t54.desc,34,456,[.int .i64 0,.int .i64 0,.str [],.int .i64 0,.int .i64 0,.int .i64 0,.int .i64 0,.str [],.int .i64 0,.int .i64 0,.int .i64 0,.sl 1 0 (fun _=>[]) .nil,.sl 1 0 (fun _=>[]) .nil,.sl 1 0 (fun _=>[]) .nil,.sl 1 0 (fun _=>[]) .nil,.sl 1 0 (fun _=>[]) .nil,.int .i64 0,.int .i64 0,.int .i64 0,.int .i64 0,.int .i64 0,.int .i64 0,.str [],.int .i64 0,.int .i64 0,.int .i64 0,.sl 1 0 (fun _=>[]) .nil,.sl 1 0 (fun _=>[]) .nil,.sl 1 0 (fun _=>[]) .nil,.sl 1 0 (fun _=>[]) .nil,.sl 1 0 (fun _=>[]) .nil,.int .i64 0,.int .i64 0,.int .i64 0]⟩),
 (56,⟨TypeDesc.func #[24,24] #[4] false,1,8,[.nilf]⟩),
 (57,⟨TypeDesc.func #[24] #[27] false,1,8,[.nilf]⟩),
 (58,⟨TypeDesc.tuple #[30,4],1,0,[.unk]⟩),
 (59,⟨TypeDesc.pointer 64,1,8,[.nilp]⟩),
 (60,⟨TypeDesc.slice 39,1,24,[.sl 1 0 (fun _=>[]) .nil]⟩),
 (61,⟨Tryz.t61.desc,2,48,[.sl 1 0 (fun _=>[]) .nil,.sl 1 0 (fun _=>[]) .nil]⟩),
 (62,⟨Tryz.t61.desc,2,48,[.sl 1 0 (fun _=>[]) .nil,.sl 1 0 (fun _=>[]) .nil]⟩),
 (63,⟨Tryz.t63.desc,3,56,[.sl 1 0 (fun _=>[]) .nil,.sl 1 0 (fun _=>[]) .nil,.nilp]⟩),
 (64,⟨Tryz.t63.desc,3,56,[.sl 1 0 (fun _=>[]) .nil,.sl 1 0 (fun _=>[]) .nil,.nilp]⟩),
 (65,⟨TypeDesc.func #[22] #[22] false,1,8,[.nilf]⟩),
 (66,⟨TypeDesc.tuple #[22,3,30],1,0,[.unk]⟩),
 (67,⟨TypeDesc.func #[71,22] #[22,3,30] false,1,8,[.nilf]⟩),
 (68,⟨TypeDesc.slice 49,1,24,[.sl 1 0 (fun _=>[]) .nil]⟩),
 (69,⟨TypeDesc.slice 60,1,24,[.sl 1 0 (fun _=>[]) .nil]⟩),
 (70,⟨Tryz.t70.desc,2,48,[.sl 1 0 (fun _=>[]) .nil,.sl 1 0 (fun _=>[]) .nil]⟩),
 (71,⟨Tryz.t70.desc,2,48,[.sl 1 0 (fun _=>[]) .nil,.sl 1 0 (fun _=>[]) .nil]⟩),
 (72,⟨TypeDesc.func #[71] #[71] false,1,8,[.nilf]⟩),
 (73,⟨TypeDesc.func #[28,28] #[4] false,1,8,[.nilf]⟩),
 (74,⟨TypeDesc.func #[22,22] #[4] false,1,8,[.nilf]⟩),
 (75,⟨TypeDesc.func #[] #[24] false,1,8,[.nilf]⟩),
 (76,⟨TypeDesc.func #[22,22,77] #[4] false,1,8,[.nilf]⟩),
 (77,⟨TypeDesc.func #[55,55] #[4] false,1,8,[.nilf]⟩),
 (78,⟨TypeDesc.func #[48,3] #[4] false,1,8,[.nilf]⟩),
 (79,⟨TypeDesc.func #[48,49] #[49] false,1,8,[.nilf]⟩),
 (80,⟨TypeDesc.func #[49] #[] false,1,8,[.nilf]⟩),
 (81,⟨TypeDesc.func #[49] #[49] false,1,8,[.nilf]⟩),
 (82,⟨TypeDesc.func #[48,3] #[3] false,1,8,[.nilf]⟩),
 (83,⟨TypeDesc.func #[71,48,49] #[49] false,1,8,[.nilf]⟩),
 (84,⟨TypeDesc.func #[55] #[46] false,1,8,[.nilf]⟩),
 (85,⟨TypeDesc.func #[48] #[3] false,1,8,[.nilf]⟩),
 (86,⟨TypeDesc.func #[22,4] #[4] false,1,8,[.nilf]⟩),
 (87,⟨TypeDesc.func #[22] #[4] false,1,8,[.nilf]⟩),
 (88,⟨TypeDesc.func #[48] #[48] false,1,8,[.nilf]⟩),
 (89,⟨TypeDesc.func #[9,39] #[3] false,1,8,[.nilf]⟩),
 (90,⟨TypeDesc.func #[22,3] #[3] false,1,8,[.nilf]⟩),
 (91,⟨TypeDesc.tuple #[48,30],1,0,[.unk]⟩),
 (92,⟨TypeDesc.func #[71,48] #[48,30] false,1,8,[.nilf]⟩),
 (93,⟨TypeDesc.func #[71,9,39] #[71] false,1,8,[.nilf]⟩),
 (94,⟨TypeDesc.func #[48,48] #[4] false,1,8,[.nilf]⟩),
 (95,⟨TypeDesc.func #[9,39] #[48] false,1,8,[.nilf]⟩),
 (96,⟨TypeDesc.func #[46,51] #[4] false,1,8,[.nilf]⟩),
 (97,⟨TypeDesc.func #[22,98] #[4] false,1,8,[.nilf]⟩),
 (98,⟨TypeDesc.func #[55] #[4] false,1,8,[.nilf]⟩),
 (99,⟨TypeDesc.tuple #[59,3],1,0,[.unk]⟩),
 (100,⟨TypeDesc.func #[9] #[59,3] false,1,8,[.nilf]⟩),
 (101,⟨TypeDesc.func #[49,3,3,3] #[] false,1,8,[.nilf]⟩),
 (102,⟨TypeDesc.func #[103] #[3] false,1,8,[.nilf]⟩),
 (103,⟨TypeDesc.int .u64,1,8,[.int .u64 0]⟩),
 (104,⟨TypeDesc.tuple #[3,3,39,4],1,0,[.unk]⟩),
 (105,⟨TypeDesc.func #[71,9] #[3,3,39,4] false,1,8,[.nilf]⟩),
 (106,⟨TypeDesc.func #[49,9] #[49] false,1,8,[.nilf]⟩),
 (107,⟨TypeDesc.func #[48] #[46] false,1,8,[.nilf]⟩),
 (108,⟨TypeDesc.func #[48] #[] false,1,8,[.nilf]⟩),
 (109,⟨TypeDesc.map 9 3,1,8,[.nmap]⟩),
 (110,⟨TypeDesc.func #[9] #[4] false,1,8,[.nilf]⟩),
 (111,⟨TypeDesc.func #[112,114] #[4] false,1,8,[.nilf]⟩),
 (112,⟨TypeDesc.slice 38,1,24,[.sl 1 0 (fun _=>[]) .nil]⟩),
 (113,⟨TypeDesc.func #[22,38] #[4] false,1,8,[.nilf]⟩),
 (114,⟨TypeDesc.func #[38] #[4] false,1,8,[.nilf]⟩),
 (115,⟨TypeDesc.func #[45] #[45] false,1,8,[.nilf]⟩),
 (116,⟨TypeDesc.func #[46] #[46] false,1,8,[.nilf]⟩),
 (117,⟨TypeDesc.func #[9] #[3] false,1,8,[.nilf]⟩),
 (118,⟨TypeDesc.pointer 62,1,8,[.nilp]⟩),
 (119,⟨TypeDesc.func #[45,45] #[4] false,1,8,[.nilf]⟩),
 (120,⟨TypeDesc.func #[46,46,94] #[4] false,1,8,[.nilf]⟩),
 (121,⟨TypeDesc.func #[46,51] #[3] false,1,8,[.nilf]⟩),
 (122,⟨TypeDesc.func #[22,98] #[3] false,1,8,[.nilf]⟩),
 (123,⟨TypeDesc.func #[49,3,3] #[] false,1,8,[.nilf]⟩),
 (124,⟨TypeDesc.int .i64,1,8,[.int .i64 0]⟩),
 (125,⟨TypeDesc.tuple #[3,124],1,0,[.unk]⟩),
 (126,⟨TypeDesc.func #[49,3,3] #[3,124] false,1,8,[.nilf]⟩),
 (127,⟨TypeDesc.func #[49,3,3] #[4] false,1,8,[.nilf]⟩),
 (128,⟨TypeDesc.func #[9,9] #[4] false,1,8,[.nilf]⟩),
 (129,⟨TypeDesc.func #[49,3,3,3] #[3] false,1,8,[.nilf]⟩),
 (130,⟨TypeDesc.tuple #[3,4],1,0,[.unk]⟩),
 (131,⟨TypeDesc.func #[49,3,3,3] #[3,4] false,1,8,[.nilf]⟩),
 (132,⟨TypeDesc.func #[133] #[3] false,1,8,[.nilf]⟩),
 (133,⟨TypeDesc.int .u32,1,4,[.int .u32 0]⟩),
 (134,⟨TypeDesc.func #[135] #[3] false,1,8,[.nilf]⟩),
 (135,⟨TypeDesc.int .u64,1,8,[.int .u64 0]⟩),
 (136,⟨TypeDesc.func #[48,38] #[4] false,1,8,[.nilf]⟩),
 (137,⟨TypeDesc.func #[40] #[9] false,1,8,[.nilf]⟩),
 (138,⟨TypeDesc.func #[41] #[9] false,1,8,[.nilf]⟩),
 (139,⟨TypeDesc.func #[112,114] #[3] false,1,8,[.nilf]⟩),
 (140,⟨TypeDesc.func #[156] #[] false,1,8,[.nilf]⟩),
 (141,⟨TypeDesc.func #[156] #[] false,1,8,[.nilf]⟩),
 (142,⟨TypeDesc.func #[49] #[141] false,1,8,[.nilf]⟩),
 (143,⟨TypeDesc.func #[43,43,119] #[4] false,1,8,[.nilf]⟩),
 (144,⟨TypeDesc.int .u64,1,8,[.int .u64 0]⟩),
 (145,⟨TypeDesc.func #[3] #[103] false,1,8,[.nilf]⟩),
 (146,⟨TypeDesc.func #[] #[135] false,1,8,[.nilf]⟩),
 (147,⟨TypeDesc.func #[49,3,148] #[3] false,1,8,[.nilf]⟩),
 (148,⟨TypeDesc.pointer 3,1,8,[.nilp]⟩),
 (149,⟨TypeDesc.func #[49,3,3,3,148] #[3] false,1,8,[.nilf]⟩),
 (150,⟨TypeDesc.func #[45] #[4] false,1,8,[.nilf]⟩),
 (151,⟨TypeDesc.func #[45] #[27] false,1,8,[.nilf]⟩),
 (152,⟨TypeDesc.func #[48,60] #[4] true,1,8,[.nilf]⟩),
 (153,⟨TypeDesc.func #[60,3] #[60] false,1,8,[.nilf]⟩),
 (154,⟨TypeDesc.array 56 9,56,896,[.str [],.str [],.str [],.str [],.str [],.str [],.str [],.str [],.str [],.str [],.str [],.str [],.str [],.str [],.str [],.str [],.str [],.str [],.str [],.str [],.str [],.str [],.str [],.str [],.str [],.str [],.str [],.str [],.str [],.str [],.str [],.str [],.str [],.str [],.str [],.str [],.str [],.str [],.str [],.str [],.str [],.str [],.str [],.str [],.str [],.str [],.str [],.str [],.str [],.str [],.str [],.str [],.str [],.str [],.str [],.str []]⟩),
 (155,⟨TypeDesc.array 12 9,12,192,[.str [],.str [],.str [],.str [],.str [],.str [],.str [],.str [],.str [],.str [],.str [],.str []]⟩),
 (156,⟨TypeDesc.func #[3,9] #[4] false,1,8,[.nilf]⟩),
 (157,⟨TypeDesc.func #[48,4,4,4,4,4,4] #[4] false,1,8,[.nilf]⟩),
 (158,⟨TypeDesc.func #[41] #[39] false,1,8,[.nilf]⟩),
 (159,⟨TypeDesc.pointer 144,1,8,[.nilp]⟩),
 (160,⟨TypeDesc.tuple #[3,3],1,0,[.unk]⟩),
 (161,⟨TypeDesc.func #[49,3,3,148] #[3,3] false,1,8,[.nilf]⟩),
 (162,⟨TypeDesc.func #[45] #[27,3,3] false,1,8,[.nilf]⟩),
 (163,⟨TypeDesc.func #[3] #[4] false,1,8,[.nilf]⟩),
 (164,⟨TypeDesc.tuple #[27,3,3],1,0,[.unk]⟩),
 (165,⟨TypeDesc.func #[46,60,166] #[4] false,1,8,[.nilf]⟩),
 (166,⟨TypeDesc.func #[48,39] #[4] false,1,8,[.nilf]⟩),
 (167,⟨TypeDesc.tuple #[103,103],1,0,[.unk]⟩),
 (168,⟨TypeDesc.func #[103,103] #[103,103] false,1,8,[.nilf]⟩),
 (169,⟨TypeDesc.tuple #[27,3],1,0,[.unk]⟩),
 (170,⟨TypeDesc.func #[45] #[27,3] false,1,8,[.nilf]⟩),
 (171,⟨TypeDesc.func #[28,163] #[4] false,1,8,[.nilf]⟩),
 (172,⟨TypeDesc.func #[28] #[4] false,1,8,[.nilf]⟩),
 (173,⟨TypeDesc.func #[28] #[3] false,1,8,[.nilf]⟩),
 (174,⟨TypeDesc.tuple #[133,133],1,0,[.unk]⟩),
 (175,⟨TypeDesc.func #[133,133] #[133,133] false,1,8,[.nilf]⟩),
 (176,⟨TypeDesc.tuple #[135,135],1,0,[.unk]⟩),
 (177,⟨TypeDesc.func #[135,135] #[135,135] false,1,8,[.nilf]⟩),
 (178,⟨TypeDesc.func #[28] #[27] false,1,8,[.nilf]⟩),
 (179,⟨TypeDesc.func #[45] #[3] false,1,8,[.nilf]⟩),
 (180,⟨TypeDesc.func #[28,163] #[3] false,1,8,[.nilf]⟩),
 (181,⟨TypeDesc.func #[28,3] #[4] false,1,8,[.nilf]⟩),
 (182,⟨TypeDesc.func #[28,3] #[3] false,1,8,[.nilf]⟩),
 (183,⟨TypeDesc.func #[] #[9] false,1,8,[.nilf]⟩),
 (189,⟨TypeDesc.func #[] #[3] false,1,8,[.nilf]⟩),
 (192,⟨TypeDesc.func #[198,198] #[4] false,1,8,[.nilf]⟩),
 (193,⟨TypeDesc.pointer 5,1,8,[.nilp]⟩),
 (198,⟨TypeDesc.unsafePointer,1,8,[.nilp]⟩)]
theorem tc{P:Program}{l:List (Nat×TI)}{t:Nat}{d:TypeDesc}{a b:Nat}{z:List D}(h1:P.underlying t=some d)(h:TabOk P (IP l))(h2:(P.info? t).map (fun i=>(i.size,i.bytes,i.zero.map fun z=>(z.cells.size,z.cells.toList.map Ux)))=some (a,b,some (a,z)):=by kernel_rfl):TabOk P (IP ((t,⟨d,a,b,z⟩)::l)):=TabOk.cons (ti:=⟨d,a,b,z⟩) h1 h2 h
theorem It:TabOk Tryz.prog (IP tab) :=
 tc Tryz.underlying0 <|
 tc Tryz.underlying1 <|
 tc Tryz.underlying2 <|
 tc Tryz.underlying3 <|
 tc Tryz.underlying4 <|
 tc Tryz.underlying5 <|
 tc Tryz.underlying9 <|
 tc Tryz.underlying20 <|
 tc Tryz.underlying21 <|
 tc Tryz.underlying22 <|
 tc Tryz.underlying23 <|
 tc Tryz.underlying24 <|
 tc Tryz.underlying25 <|
 tc Tryz.underlying26 <|
 tc Tryz.underlying27 <|
 tc Tryz.underlying28 <|
 tc Tryz.underlying29 <|
 tc Tryz.underlying30 <|
 tc Tryz.underlying31 <|
 tc Tryz.underlying32 <|
 tc Tryz.underlying33 <|
 tc Tryz.underlying34 <|
 tc Tryz.underlying35 <|
 tc Tryz.underlying36 <|
 tc Tryz.underlying37 <|
 tc Tryz.underlying38 <|
 tc Tryz.underlying39 <|
 tc Tryz.underlying40 <|
 tc Tryz.underlying41 <|
 tc Tryz.underlying42 <|
 tc Tryz.underlying43 <|
 tc Tryz.underlying44 <|
 tc Tryz.underlying45 <|
 tc Tryz.underlying46 <|
 tc Tryz.underlying47 <|
 tc Tryz.underlying48 <|
 tc Tryz.underlying49 <|
 tc Tryz.underlying50 <|
 tc Tryz.underlying51 <|
 tc Tryz.underlying52 <|
 tc Tryz.underlying53 <|
 tc Tryz.underlying54 <|
 tc Tryz.underlying55 <|
 tc Tryz.underlying56 <|
 tc Tryz.underlying57 <|
 tc Tryz.underlying58 <|
 tc Tryz.underlying59 <|
 tc Tryz.underlying60 <|
 tc Tryz.underlying61 <|
 tc Tryz.underlying62 <|
 tc Tryz.underlying63 <|
 tc Tryz.underlying64 <|
 tc Tryz.underlying65 <|
 tc Tryz.underlying66 <|
 tc Tryz.underlying67 <|
 tc Tryz.underlying68 <|
 tc Tryz.underlying69 <|
 tc Tryz.underlying70 <|
 tc Tryz.underlying71 <|
 tc Tryz.underlying72 <|
 tc Tryz.underlying73 <|
 tc Tryz.underlying74 <|
 tc Tryz.underlying75 <|
 tc Tryz.underlying76 <|
 tc Tryz.underlying77 <|
 tc Tryz.underlying78 <|
 tc Tryz.underlying79 <|
 tc Tryz.underlying80 <|
 tc Tryz.underlying81 <|
 tc Tryz.underlying82 <|
 tc Tryz.underlying83 <|
 tc Tryz.underlying84 <|
 tc Tryz.underlying85 <|
 tc Tryz.underlying86 <|
 tc Tryz.underlying87 <|
 tc Tryz.underlying88 <|
 tc Tryz.underlying89 <|
 tc Tryz.underlying90 <|
 tc Tryz.underlying91 <|
 tc Tryz.underlying92 <|
 tc Tryz.underlying93 <|
 tc Tryz.underlying94 <|
 tc Tryz.underlying95 <|
 tc Tryz.underlying96 <|
 tc Tryz.underlying97 <|
 tc Tryz.underlying98 <|
 tc Tryz.underlying99 <|
 tc Tryz.underlying100 <|
 tc Tryz.underlying101 <|
 tc Tryz.underlying102 <|
 tc Tryz.underlying103 <|
 tc Tryz.underlying104 <|
 tc Tryz.underlying105 <|
 tc Tryz.underlying106 <|
 tc Tryz.underlying107 <|
 tc Tryz.underlying108 <|
 tc Tryz.underlying109 <|
 tc Tryz.underlying110 <|
 tc Tryz.underlying111 <|
 tc Tryz.underlying112 <|
 tc Tryz.underlying113 <|
 tc Tryz.underlying114 <|
 tc Tryz.underlying115 <|
 tc Tryz.underlying116 <|
 tc Tryz.underlying117 <|
 tc Tryz.underlying118 <|
 tc Tryz.underlying119 <|
 tc Tryz.underlying120 <|
 tc Tryz.underlying121 <|
 tc Tryz.underlying122 <|
 tc Tryz.underlying123 <|
 tc Tryz.underlying124 <|
 tc Tryz.underlying125 <|
 tc Tryz.underlying126 <|
 tc Tryz.underlying127 <|
 tc Tryz.underlying128 <|
 tc Tryz.underlying129 <|
 tc Tryz.underlying130 <|
 tc Tryz.underlying131 <|
 tc Tryz.underlying132 <|
 tc Tryz.underlying133 <|
 tc Tryz.underlying134 <|
 tc Tryz.underlying135 <|
 tc Tryz.underlying136 <|
 tc Tryz.underlying137 <|
 tc Tryz.underlying138 <|
 tc Tryz.underlying139 <|
 tc Tryz.underlying140 <|
 tc Tryz.underlying141 <|
 tc Tryz.underlying142 <|
 tc Tryz.underlying143 <|
 tc Tryz.underlying144 <|
 tc Tryz.underlying145 <|
 tc Tryz.underlying146 <|
 tc Tryz.underlying147 <|
 tc Tryz.underlying148 <|
 tc Tryz.underlying149 <|
 tc Tryz.underlying150 <|
 tc Tryz.underlying151 <|
 tc Tryz.underlying152 <|
 tc Tryz.underlying153 <|
 tc Tryz.underlying154 <|
 tc Tryz.underlying155 <|
 tc Tryz.underlying156 <|
 tc Tryz.underlying157 <|
 tc Tryz.underlying158 <|
 tc Tryz.underlying159 <|
 tc Tryz.underlying160 <|
 tc Tryz.underlying161 <|
 tc Tryz.underlying162 <|
 tc Tryz.underlying163 <|
 tc Tryz.underlying164 <|
 tc Tryz.underlying165 <|
 tc Tryz.underlying166 <|
 tc Tryz.underlying167 <|
 tc Tryz.underlying168 <|
 tc Tryz.underlying169 <|
 tc Tryz.underlying170 <|
 tc Tryz.underlying171 <|
 tc Tryz.underlying172 <|
 tc Tryz.underlying173 <|
 tc Tryz.underlying174 <|
 tc Tryz.underlying175 <|
 tc Tryz.underlying176 <|
 tc Tryz.underlying177 <|
 tc Tryz.underlying178 <|
 tc Tryz.underlying179 <|
 tc Tryz.underlying180 <|
 tc Tryz.underlying181 <|
 tc Tryz.underlying182 <|
 tc Tryz.underlying183 <|
 tc Tryz.underlying189 <|
 tc Tryz.underlying192 <|
 tc Tryz.underlying193 <|
 tc Tryz.underlying198 <|
 TabOk.nil _
noncomputable def IO:List (Nat×Frm):=[
 (3,{ fn:=Tryz.f3,n:=28,V:=7,cross:=[],ord:=fun _=>([],[]) }),
 (4,{ fn:=Tryz.f4,n:=31,V:=5,cross:=[],ord:=fun id=>match id with | 1=>([0,2,1,3,4,5,6,7,9,10,8,11,12,13,14,15,16,18,19,17,20,21,22,23,24,25,26],[1,3,8,11,17,20,24]) | _=>([],[]) }),
 (5,{ fn:=Tryz.f5,n:=31,V:=6,cross:=[14,18,29],ord:=fun id=>match id with | 1=>([0,2,1,3,4,5],[1,3]) | 7=>([0,1,2,3,4,5,6,7,8],[]) | _=>([],[]) }),
 (6,{ fn:=Tryz.f6,n:=65,V:=3,cross:=[4,5,6,7,20,26,47],ord:=fun _=>([],[]) }),
 (7,{ fn:=Tryz.f7,n:=46,V:=8,cross:=[15],ord:=fun _=>([],[]) }),
 (8,{ fn:=Tryz.f8,n:=30,V:=6,cross:=[9],ord:=fun _=>([],[]) }),
 (9,{ fn:=Tryz.f9,n:=33,V:=8,cross:=[11,26],ord:=fun id=>match id with | 4=>([0,2,3,1,4,5,6,7,8,9,10,11,12],[1,4,9,12]) | 6=>([0,1,2,3],[2,3]) | _=>([],[]) }),
 (10,{ fn:=Tryz.f10,n:=38,V:=5,cross:=[],ord:=fun _=>([],[]) }),
 (11,{ fn:=Tryz.f11,n:=26,V:=5,cross:=[],ord:=fun _=>([],[]) }),
 (12,{ fn:=Tryz.f12,n:=141,V:=5,cross:=[6,7,54],ord:=fun id=>match id with | 4=>([0,1,2,3,4,5,6,7,8,9,10,11,12,13,14,15,16,17,18,19,20],[17,18,19,20]) | _=>([],[]) }),
 (13,{ fn:=Tryz.f13,n:=29,V:=7,cross:=[13,28],ord:=fun _=>([],[]) }),
 (14,{ fn:=Tryz.f14,n:=29,V:=6,cross:=[11,28],ord:=fun _=>([],[]) }),
 (15,{ fn:=Tryz.f15,n:=17,V:=5,cross:=[],ord:=fun _=>([],[]) }),
 (16,{ fn:=Tryz.f16,n:=14,V:=5,cross:=[6],ord:=fun _=>([],[]) }),
 (17,{ fn:=Tryz.f17,n:=10,V:=3,cross:=[5],ord:=fun id=>match id with | 3=>([0,2,1,3,4],[1,3]) | _=>([],[]) }),
 (18,{ fn:=Tryz.f18,n:=34,V:=2,cross:=[4,5,6,7,11,17,33],ord:=fun id=>match id with | 8=>([0,1,2,3,4,5,6,7,8,9,10,11,12],[]) | _=>([],[]) }),
 (19,{ fn:=Tryz.f19,n:=10,V:=5,cross:=[],ord:=fun _=>([],[]) }),
 (20,{ fn:=Tryz.f20,n:=72,V:=5,cross:=[6,8,10,12,16,18,19,20,21,25,26,27,28,38,40,41,42,43,47,48,49,50,59,62],ord:=fun _=>([],[]) }),
 (21,{ fn:=Tryz.f21,n:=18,V:=5,cross:=[7,14],ord:=fun id=>match id with | 5=>([0,1,2,3],[2,3]) | _=>([],[]) }),
 (22,{ fn:=Tryz.f22,n:=50,V:=2,cross:=[4,5,6,7,10,11,12,13,20,33],ord:=fun id=>match id with | 10=>([0,1,2,3,4,5,6,7,8,9,10],[8,10]) | _=>([],[]) }),
 (23,{ fn:=Tryz.f23,n:=56,V:=4,cross:=[7,12,41,45,55],ord:=fun _=>([],[]) }),
 (24,{ fn:=Tryz.f24,n:=75,V:=3,cross:=[4,5,6,7,8,9,10,11,12,13,14,18,28,38,51,57],ord:=fun id=>match id with | 11=>([0,1,2,3],[3]) | 15=>([0,1,2,3],[3]) | _=>([],[]) }),
 (25,{ fn:=Tryz.f25,n:=21,V:=4,cross:=[],ord:=fun _=>([],[]) }),
 (26,{ fn:=Tryz.f26,n:=26,V:=2,cross:=[4,5,10,14,25],ord:=fun id=>match id with | 6=>([0,1,2,3,4,5,6,7,8],[]) | _=>([],[]) }),
 (27,{ fn:=Tryz.f27,n:=77,V:=2,cross:=[4,5,9,76],ord:=fun id=>match id with | 4=>([0,1,2,3,4,5,6,7,8,9,10,11,12,13,14,15,16,17,18,19,20,21,22,23,24,25,26,27,28,29,30,31,32,33,34,35,36,37,38,39,40,41,42,43,44,45,46,47,48,49,50,51,52,53,54,55,56,57,58,59,60,61,62,63,64],[48,62]) | _=>([],[]) }),
 (28,{ fn:=Tryz.f28,n:=23,V:=4,cross:=[],ord:=fun _=>([],[]) }),
 (29,{ fn:=Tryz.f29,n:=32,V:=3,cross:=[6,7,8,9,14,15,16,17,18,30],ord:=fun _=>([],[]) }),
 (30,{ fn:=Tryz.f30,n:=38,V:=5,cross:=[],ord:=fun _=>([],[]) }),
 (31,{ fn:=Tryz.f31,n:=19,V:=6,cross:=[7],ord:=fun _=>([],[]) }),
 (32,{ fn:=Tryz.f32,n:=84,V:=3,cross:=[4,6,7,8,10,11,13,16,25,32,33,34,35,46,51,52,53,54,59,72],ord:=fun id=>match id with | 19=>([0,1,2,3,4,5,6,7,8],[8]) | _=>([],[]) }),
 (33,{ fn:=Tryz.f33,n:=11,V:=1,cross:=[2],ord:=fun _=>([],[]) }),
 (34,{ fn:=Tryz.f34,n:=61,V:=1,cross:=[2,3,4,5,8,13,25,32,44],ord:=fun id=>match id with | 6=>([0,1,2,3,4,5,6,7,8,9],[]) | 11=>([0,1,2,3,4,5,6,7,8,9],[]) | _=>([],[]) }),
 (35,{ fn:=Tryz.f35,n:=65,V:=3,cross:=[4,5,6,7,9,14,31,51],ord:=fun _=>([],[]) }),
 (36,{ fn:=Tryz.f36,n:=104,V:=5,cross:=[6,7,8,9,10,11,12,13,16,27,36,53,62,87],ord:=fun id=>match id with | 8=>([0,1,2,3,4,5,6,7,8],[7]) | 14=>([0,1,2,3,4,5,6,7,8,9],[8]) | 15=>([0,1,2,3,4,5,6,7,8,9],[8]) | 17=>([0,1,2,3,4,5,6,7,8,9,10,11,12,13,14,15],[14,15]) | _=>([],[]) }),
 (37,{ fn:=Tryz.f37,n:=31,V:=5,cross:=[],ord:=fun _=>([],[]) }),
 (38,{ fn:=Tryz.f38,n:=14,V:=3,cross:=[5],ord:=fun _=>([],[]) }),
 (39,{ fn:=Tryz.f39,n:=13,V:=5,cross:=[],ord:=fun _=>([],[]) }),
 (40,{ fn:=Tryz.f40,n:=11,V:=5,cross:=[],ord:=fun _=>([],[]) }),
 (41,{ fn:=Tryz.f41,n:=128,V:=2,cross:=[4,5,6,8,9,14,15,16,17,32,37,38,57,98],ord:=fun _=>([],[]) }),
 (42,{ fn:=Tryz.f42,n:=6,V:=3,cross:=[],ord:=fun _=>([],[]) }),
 (43,{ fn:=Tryz.f43,n:=8,V:=1,cross:=[2,4],ord:=fun _=>([],[]) }),
 (44,{ fn:=Tryz.f44,n:=101,V:=2,cross:=[3,4,5,6,7,8,9,22,23,24,25,38,39,49,76,83],ord:=fun id=>match id with | 7=>([0,1,2,3,4,5,6,7],[5,7]) | 14=>([0,1,2,3,4,5,7,6,8,9,10],[6,8,10]) | 15=>([0,1,2,3,4,5,6,7,8,9,10,11],[]) | _=>([],[]) }),
 (45,{ fn:=Tryz.f45,n:=33,V:=3,cross:=[6],ord:=fun _=>([],[]) }),
 (46,{ fn:=Tryz.f46,n:=56,V:=2,cross:=[4,5,6,15,39],ord:=fun _=>([],[]) }),
 (47,{ fn:=Tryz.f47,n:=130,V:=1,cross:=[2,3,4,5,8,12,27,29,30,51,52,56,74,101,102,129],ord:=fun id=>match id with | 18=>([0,1,2,3,4,5,6,7,8,9,10,11,12,13,14,15],[]) | _=>([],[]) }),
 (48,{ fn:=Tryz.f48,n:=39,V:=1,cross:=[2,3,7,15],ord:=fun _=>([],[]) }),
 (49,{ fn:=Tryz.f49,n:=104,V:=17,cross:=[22,33,43,58,78,93],ord:=fun id=>match id with | 7=>([0,1,2,3,4,5,6,7],[6,7]) | 9=>([0,1,2,3,4,5,6,7],[6,7]) | 14=>([0,2,3,1,4,5,6,7,8,9,10,11,12],[1,4,9,12]) | 17=>([0,1,2,3],[2,3]) | 22=>([0,1,2,3,4,5,6,7,8,9,10,11,12,13],[6,10,11,12,13]) | 24=>([0,1,2,3],[2,3]) | _=>([],[]) }),
 (50,{ fn:=Tryz.f50,n:=54,V:=4,cross:=[6,7,8],ord:=fun id=>match id with | 3=>([0,1,2,3,4,5,8,9,10,11,12,14,6,7,13,15,16,17,18,19,20],[6,7,13,15,16,17,18,20]) | 4=>([0,1,2,3,4,5,8,9,10,11,12,14,6,7,13,15,16,17,18,19,20],[6,7,13,15,16,17,18,20]) | _=>([],[]) }),
 (51,{ fn:=Tryz.f51,n:=110,V:=6,cross:=[85,90,104],ord:=fun id=>match id with | 6=>([0,1,2,3,4,5,6,7,8,9,10,11],[10]) | _=>([],[]) }),
 (52,{ fn:=Tryz.f52,n:=8,V:=2,cross:=[4],ord:=fun _=>([],[]) }),
 (53,{ fn:=Tryz.f53,n:=80,V:=5,cross:=[],ord:=fun _=>([],[]) }),
 (54,{ fn:=Tryz.f54,n:=8,V:=4,cross:=[],ord:=fun _=>([],[]) }),
 (55,{ fn:=Tryz.f55,n:=9,V:=2,cross:=[4],ord:=fun _=>([],[]) }),
 (56,{ fn:=Tryz.f56,n:=9,V:=2,cross:=[4],ord:=fun _=>([],[]) }),
 (57,{ fn:=Tryz.f57,n:=19,V:=4,cross:=[],ord:=fun _=>([],[]) }),
 (58,{ fn:=Tryz.f58,n:=25,V:=2,cross:=[4,5,6,16],ord:=fun _=>([],[]) }),
 (59,{ fn:=Tryz.f59,n:=134,V:=4,cross:=[8,9,10,11,12,13,14,15,16,17,18,23,29,35,50,68,72,87,113],ord:=fun id=>match id with | 17=>([0,1,2,3,4,5,6,7,8,9,10,11,12,13,14],[12]) | _=>([],[]) }),
 (60,{ fn:=Tryz.f60,n:=8,V:=1,cross:=[2],ord:=fun _=>([],[]) }),
 (61,{ fn:=Tryz.f61,n:=55,V:=3,cross:=[4,5,6,7,8,9,10,15,31,39],ord:=fun id=>match id with | 9=>([0,1,2,3,4,5,6,7,8,9,10,11,12,13,14,15,16,17,18],[]) | _=>([],[]) }),
 (62,{ fn:=Tryz.f62,n:=47,V:=2,cross:=[4,5,6,18,32],ord:=fun _=>([],[]) }),
 (63,{ fn:=Tryz.f63,n:=59,V:=5,cross:=[],ord:=fun _=>([],[]) }),
 (64,{ fn:=Tryz.f64,n:=26,V:=4,cross:=[5,9,10,11,12],ord:=fun id=>match id with | 5=>([0,1,2,3,4,6,5,7,8,9],[5,7,8]) | _=>([],[]) }),
 (65,{ fn:=Tryz.f65,n:=8,V:=4,cross:=[],ord:=fun _=>([],[]) }),
 (66,{ fn:=Tryz.f66,n:=21,V:=4,cross:=[5,9,10,11,12,16],ord:=fun _=>([],[]) }),
 (67,{ fn:=Tryz.f67,n:=25,V:=3,cross:=[7,10],ord:=fun _=>([],[]) }),
 (68,{ fn:=Tryz.f68,n:=41,V:=3,cross:=[],ord:=fun _=>([],[]) }),
 (69,{ fn:=Tryz.f69,n:=75,V:=1,cross:=[2,3,4,5,30,32,33,34,57,60,66,68,74],ord:=fun _=>([],[]) }),
 (70,{ fn:=Tryz.f70,n:=9,V:=2,cross:=[4],ord:=fun _=>([],[]) }),
 (71,{ fn:=Tryz.f71,n:=7,V:=2,cross:=[3],ord:=fun _=>([],[]) }),
 (72,{ fn:=Tryz.f72,n:=10,V:=2,cross:=[3,4,5],ord:=fun _=>([],[]) }),
 (73,{ fn:=Tryz.f73,n:=47,V:=6,cross:=[32,33,34,35],ord:=fun id=>match id with | 1=>([0,1,2,3,4,6,7,8,10,11,12,5,9,13,14,15,16],[5,9,13,15,16]) | 7=>([0,1,2,3,4,5,6],[4,6]) | _=>([],[]) }),
 (74,{ fn:=Tryz.f74,n:=8,V:=1,cross:=[2,4],ord:=fun _=>([],[]) }),
 (75,{ fn:=Tryz.f75,n:=18,V:=2,cross:=[4],ord:=fun _=>([],[]) }),
 (76,{ fn:=Tryz.f76,n:=41,V:=3,cross:=[4,5,6,16],ord:=fun _=>([],[]) }),
 (77,{ fn:=Tryz.f77,n:=46,V:=4,cross:=[21,24,28,31,36,45],ord:=fun _=>([],[]) }),
 (78,{ fn:=Tryz.f78,n:=26,V:=3,cross:=[],ord:=fun _=>([],[]) }),
 (79,{ fn:=Tryz.f79,n:=47,V:=1,cross:=[2,3,14,18,46],ord:=fun _=>([],[]) }),
 (80,{ fn:=Tryz.f80,n:=28,V:=2,cross:=[4,5,9,27],ord:=fun _=>([],[]) }),
 (81,{ fn:=Tryz.f81,n:=55,V:=6,cross:=[35,40,54],ord:=fun id=>match id with | 6=>([0,1,2,3,4,5,6,7,8,9,10,11],[10]) | _=>([],[]) }),
 (82,{ fn:=Tryz.f82,n:=31,V:=5,cross:=[],ord:=fun _=>([],[]) }),
 (83,{ fn:=Tryz.f83,n:=32,V:=3,cross:=[6,7,8,9,14,15,16,17,18,30],ord:=fun _=>([],[]) }),
 (84,{ fn:=Tryz.f84,n:=19,V:=2,cross:=[4,5,7,8,9,16],ord:=fun _=>([],[]) }),
 (85,{ fn:=Tryz.f85,n:=19,V:=2,cross:=[4,5,7,8,9,16],ord:=fun _=>([],[]) }),
 (86,{ fn:=Tryz.f86,n:=49,V:=3,cross:=[6,7,12,30],ord:=fun id=>match id with | 4=>([0,1,2,3,4,5,6,7,8,9,10,11,12,13,14],[13]) | 6=>([0,1,2,3,4,5,6,7,8,9,10,11,12,13,14,15,16,17],[15,17]) | _=>([],[]) }),
 (87,{ fn:=Tryz.f87,n:=56,V:=3,cross:=[6,7,8,9,10,19,30],ord:=fun id=>match id with | 10=>([0,1,2,3,4,5,6,7,8,9,10,11,12,13,14,15,16,17,18,19],[17,19]) | _=>([],[]) }),
 (88,{ fn:=Tryz.f88,n:=65,V:=3,cross:=[6,7,8,9,10,15,33,43],ord:=fun id=>match id with | 10=>([0,1,2,3,4,5,6,7,8,9,10,11,12,13,14,15,16,17,18,19],[17,19]) | _=>([],[]) }),
 (89,{ fn:=Tryz.f89,n:=57,V:=3,cross:=[6,7,8,9,10,11,12,32,34,49,51,54],ord:=fun _=>([],[]) }),
 (90,{ fn:=Tryz.f90,n:=32,V:=3,cross:=[6,7,13],ord:=fun id=>match id with | 3=>([0,1,2,3,4,5,6,7,8,9,10,11,12,13,14,15],[13,15]) | _=>([],[]) }),
 (91,{ fn:=Tryz.f91,n:=133,V:=3,cross:=[6,7,8,9,10,14,32,37,41,61,65,78,98,103,116],ord:=fun id=>match id with | 5=>([0,1,2,3,4,5,6,7,8,9,10,11,12,13,14,15],[13]) | 11=>([0,1,2,3,4,5,6,7,8,9,10,11,12,13,14,15,16,17],[15,17]) | 16=>([0,1,2,3,4,5,6,7,8,9,10],[9]) | 17=>([0,1,2,3,4,5,6,7,8,9,10,11,12,13,14,15,16,17],[15,17]) | 22=>([0,1,2,3,4,5,6,7,8,9,10],[9]) | 23=>([0,1,2,3,4,5,6,7,8,9,10,11,12,13,14,15,16,17],[15,17]) | _=>([],[]) }),
 (92,{ fn:=Tryz.f92,n:=17,V:=2,cross:=[4],ord:=fun _=>([],[]) }),
 (93,{ fn:=Tryz.f93,n:=84,V:=4,cross:=[8,9,10,43,59,64],ord:=fun id=>match id with | 1=>([0,1,2,3,4,5,6,7,8,9,10,11,12,13,14,15],[13,15]) | 3=>([0,1,2,3,4,5,6,7,8,9,10,11,12,13,14],[12]) | 5=>([0,1,2,3,4,5,6,7,8,9,10,11,12,13],[12]) | 8=>([0,1,2,3,4,5,6,7,8,9,10,11,12,13,14,15],[13,15]) | _=>([],[]) }),
 (94,{ fn:=Tryz.f94,n:=168,V:=4,cross:=[8,9,10,11,43,60,65,112,129,134],ord:=fun id=>match id with | 1=>([0,1,2,3,4,5,6,7,8,9,10,11,12,13,14,15],[13,15]) | 3=>([0,1,2,3,4,5,6,7,8,9,10,11,12,13],[12]) | 5=>([0,1,2,3,4,5,6,7,8,9,10,11,12,13,14],[12]) | 8=>([0,1,2,3,4,5,6,7,8,9,10,11,12,13,14,15],[13,15]) | 10=>([0,1,2,3,4,5,6,7,8,9,10,11,12,13,14,15],[13,15]) | 13=>([0,1,2,3,4,5,6,7,8,9,10,11,12,13],[12]) | 15=>([0,1,2,3,4,5,6,7,8,9,10,11,12,13,14],[12]) | 18=>([0,1,2,3,4,5,6,7,8,9,10,11,12,13,14,15],[13,15]) | 21=>([0,1,2,3,4,5,6,7,8,9,10,11,12,13,14,15],[13,15]) | _=>([],[]) }),
 (95,{ fn:=Tryz.f95,n:=19,V:=1,cross:=[2,4,8],ord:=fun _=>([],[]) }),
 (96,{ fn:=Tryz.f96,n:=25,V:=1,cross:=[2,4,8,14],ord:=fun _=>([],[]) }),
 (97,{ fn:=Tryz.f97,n:=75,V:=3,cross:=[4],ord:=fun _=>([],[]) }),
 (98,{ fn:=Tryz.f98,n:=55,V:=5,cross:=[26,34,35,40,41,47,48,51],ord:=fun id=>match id with | 3=>([0,1,3,4,2,5,6,7],[2,5]) | _=>([],[]) }),
 (99,{ fn:=Tryz.f99,n:=104,V:=7,cross:=[10,12,13,49,64,71,82,89,93],ord:=fun _=>([],[]) }),
 (100,{ fn:=Tryz.f100,n:=146,V:=7,cross:=[8,9,37,50,64,76,87,110,117],ord:=fun id=>match id with | 4=>([0,1,2,3,4,5,6,7,8,9,10,11,12,13,14,15,16,17,18,20,21,22,19,23,24,25,26],[19,23,24]) | _=>([],[]) }),
 (101,{ fn:=Tryz.f101,n:=6,V:=3,cross:=[],ord:=fun _=>([],[]) }),
 (102,{ fn:=Tryz.f102,n:=14,V:=1,cross:=[2,3,10],ord:=fun _=>([],[]) }),
 (103,{ fn:=Tryz.f103,n:=14,V:=1,cross:=[2,3,10],ord:=fun _=>([],[]) }),
 (104,{ fn:=Tryz.f104,n:=19,V:=2,cross:=[4,5,7,8,9,16],ord:=fun _=>([],[]) }),
 (105,{ fn:=Tryz.f105,n:=20,V:=5,cross:=[],ord:=fun _=>([],[]) }),
 (106,{ fn:=Tryz.f106,n:=8,V:=4,cross:=[],ord:=fun id=>match id with | 1=>([0,2,1,3,4],[1,3]) | _=>([],[]) }),
 (107,{ fn:=Tryz.f107,n:=4,V:=3,cross:=[],ord:=fun _=>([],[]) }),
 (108,{ fn:=Tryz.f108,n:=49,V:=5,cross:=[31,38,42],ord:=fun id=>match id with | 3=>([0,1,3,4,2,5,6,7],[2,5]) | _=>([],[]) }),
 (109,{ fn:=Tryz.f109,n:=122,V:=4,cross:=[5,6,44,63,74,93,104],ord:=fun id=>match id with | 19=>([0,1,2,3,4,5,6,7,8,9,10,11,12,13,14,15,16],[1,5,13]) | _=>([],[]) }),
 (110,{ fn:=Tryz.f110,n:=119,V:=4,cross:=[6,8,9,15,24,40,50,60,70,82,99],ord:=fun _=>([],[]) }),
 (111,{ fn:=Tryz.f111,n:=89,V:=6,cross:=[64,69,83],ord:=fun id=>match id with | 6=>([0,1,2,3,4,5,6,7,8,9,10,11],[10]) | _=>([],[]) }),
 (112,{ fn:=Tryz.f112,n:=9,V:=1,cross:=[2],ord:=fun _=>([],[]) }),
 (113,{ fn:=Tryz.f113,n:=24,V:=3,cross:=[4,5,9,14,23],ord:=fun _=>([],[]) }),
 (114,{ fn:=Tryz.f114,n:=26,V:=2,cross:=[4,5,10,14,25],ord:=fun id=>match id with | 6=>([0,1,2,3,4,5,6,7,8],[]) | _=>([],[]) }),
 (115,{ fn:=Tryz.f115,n:=26,V:=2,cross:=[4,5,10,12,13,14,24],ord:=fun id=>match id with | 6=>([0,1,2,3,4,5,6,7,8],[]) | _=>([],[]) }),
 (116,{ fn:=Tryz.f116,n:=32,V:=3,cross:=[6,7,8,9,14,15,16,17,18,30],ord:=fun _=>([],[]) }),
 (117,{ fn:=Tryz.f117,n:=76,V:=4,cross:=[8,9,16,36,52],ord:=fun id=>match id with | 3=>([0,1,2,3,4,5,6,7,8,9,10,11,12,13,14,15,16,17,18,19],[18]) | 5=>([0,1,2,3,4,5,6,7,8,9,10,11,12,13],[12]) | 6=>([0,1,2,3,4,5,6,7,8,9,10,11,12,13,14,15,16,17,18,19,20,21,22,23],[21,23]) | _=>([],[]) }),
 (118,{ fn:=Tryz.f118,n:=7,V:=1,cross:=[2],ord:=fun _=>([],[]) }),
 (119,{ fn:=Tryz.f119,n:=33,V:=1,cross:=[2],ord:=fun id=>match id with | 1=>([0,1,2,3,4,5,6,7,8,9],[9]) | 2=>([0,1,2,3,4,5,6,7,8,9],[9]) | 3=>([0,1,2,3,4,5,6,7,8,9],[9]) | _=>([],[]) }),
 (120,{ fn:=Tryz.f120,n:=15,V:=3,cross:=[6],ord:=fun _=>([],[]) }),
 (121,{ fn:=Tryz.f121,n:=36,V:=5,cross:=[10],ord:=fun _=>([],[]) }),
 (122,{ fn:=Tryz.f122,n:=6,V:=1,cross:=[2],ord:=fun _=>([],[]) }),
 (123,{ fn:=Tryz.f123,n:=24,V:=3,cross:=[],ord:=fun _=>([],[]) }),
 (124,{ fn:=Tryz.f124,n:=16,V:=7,cross:=[],ord:=fun _=>([],[]) }),
 (125,{ fn:=Tryz.f125,n:=9,V:=3,cross:=[4],ord:=fun _=>([],[]) }),
 (126,{ fn:=Tryz.f126,n:=48,V:=2,cross:=[4,5,6,7,8,10,26,37],ord:=fun id=>match id with | 9=>([0,1,2,3,4,5,6,7,8,9],[7]) | _=>([],[]) }),
 (127,{ fn:=Tryz.f127,n:=19,V:=2,cross:=[3,8,18],ord:=fun _=>([],[]) }),
 (128,{ fn:=Tryz.f128,n:=64,V:=8,cross:=[14],ord:=fun _=>([],[]) }),
 (129,{ fn:=Tryz.f129,n:=11,V:=5,cross:=[],ord:=fun _=>([],[]) }),
 (130,{ fn:=Tryz.f130,n:=11,V:=1,cross:=[2,8,10],ord:=fun _=>([],[]) }),
 (131,{ fn:=Tryz.f131,n:=29,V:=3,cross:=[4,5,11,15,28],ord:=fun id=>match id with | 6=>([0,1,2,3,4,5,6,7,8,9,10],[]) | _=>([],[]) }),
 (132,{ fn:=Tryz.f132,n:=21,V:=3,cross:=[],ord:=fun _=>([],[]) }),
 (133,{ fn:=Tryz.f133,n:=64,V:=2,cross:=[4,5,9,63],ord:=fun id=>match id with | 4=>([0,1,2,3,4,5,6,7,8,9,10,11,12,13,14,15,16,17,18,19,20,21,22,23,24,25,26,27,28,29,30,31,32,33,34,35,36,37,38,39,40,41,42,43,44,45,46,47,48,49,50,51],[35,49]) | _=>([],[]) }),
 (134,{ fn:=Tryz.f134,n:=57,V:=2,cross:=[4,5,6,9,13,19,27,56],ord:=fun _=>([],[]) }),
 (135,{ fn:=Tryz.f135,n:=28,V:=4,cross:=[8,9,18],ord:=fun id=>match id with | 1=>([0,1,2,3,4,5,6,7,8],[8]) | _=>([],[]) }),
 (136,{ fn:=Tryz.f136,n:=87,V:=7,cross:=[8,9,10,12,13,14,15,19,22,23,24,25,45,55,56,57,58,69,84],ord:=fun id=>match id with | 10=>([0,1,2,3,4,5,6,7,8],[]) | _=>([],[]) }),
 (137,{ fn:=Tryz.f137,n:=44,V:=5,cross:=[12,13,16,20,25,29,34],ord:=fun id=>match id with | 1=>([0,1,2,3,4,5,6,7],[]) | _=>([],[]) }),
 (138,{ fn:=Tryz.f138,n:=9,V:=1,cross:=[2],ord:=fun _=>([],[]) }),
 (139,{ fn:=Tryz.f139,n:=17,V:=1,cross:=[2],ord:=fun _=>([],[]) }),
 (140,{ fn:=Tryz.f140,n:=32,V:=3,cross:=[6,7,8,9,14,15,16,17,18,30],ord:=fun _=>([],[]) }),
 (141,{ fn:=Tryz.f141,n:=9,V:=3,cross:=[4],ord:=fun _=>([],[]) }),
 (142,{ fn:=Tryz.f142,n:=30,V:=2,cross:=[4,5,6,7,8,9],ord:=fun _=>([],[]) }),
 (143,{ fn:=Tryz.f143,n:=107,V:=11,cross:=[18,23,30,43,48,76,81,94,105],ord:=fun id=>match id with | 9=>([0,2,3,1,4,5,6,7,8,9],[1,4]) | _=>([],[]) }),
 (144,{ fn:=Tryz.f144,n:=9,V:=2,cross:=[4],ord:=fun _=>([],[]) }),
 (145,{ fn:=Tryz.f145,n:=5,V:=1,cross:=[2],ord:=fun _=>([],[]) }),
 (146,{ fn:=Tryz.f146,n:=31,V:=1,cross:=[2,3,5,8,9,10,11,12,15,22,29],ord:=fun _=>([],[]) }),
 (147,{ fn:=Tryz.f147,n:=8,V:=1,cross:=[2,5],ord:=fun _=>([],[]) }),
 (148,{ fn:=Tryz.f148,n:=17,V:=2,cross:=[4,5,6],ord:=fun _=>([],[]) }),
 (149,{ fn:=Tryz.f149,n:=51,V:=2,cross:=[4,5,6,7,8,9,10,11,12,13],ord:=fun _=>([],[]) }),
 (150,{ fn:=Tryz.f150,n:=21,V:=1,cross:=[2,3,6,10,17,20],ord:=fun _=>([],[]) }),
 (151,{ fn:=Tryz.f151,n:=16,V:=3,cross:=[4,5,11],ord:=fun _=>([],[]) }),
 (152,{ fn:=Tryz.f152,n:=17,V:=1,cross:=[2,3,7,14],ord:=fun _=>([],[]) }),
 (153,{ fn:=Tryz.f153,n:=9,V:=1,cross:=[2],ord:=fun _=>([],[]) }),
 (154,{ fn:=Tryz.f154,n:=17,V:=1,cross:=[2],ord:=fun _=>([],[]) }),
 (155,{ fn:=Tryz.f155,n:=33,V:=5,cross:=[20],ord:=fun _=>([],[]) }),
 (156,{ fn:=Tryz.f156,n:=19,V:=2,cross:=[4,5,7,8,9,16],ord:=fun _=>([],[]) }),
 (157,{ fn:=Tryz.f157,n:=19,V:=1,cross:=[2,3,5,7,8,9,10,11],ord:=fun _=>([],[]) }),
 (158,{ fn:=Tryz.f158,n:=30,V:=1,cross:=[2,3,4,8,15,20,28],ord:=fun _=>([],[]) }),
 (159,{ fn:=Tryz.f159,n:=9,V:=2,cross:=[4],ord:=fun _=>([],[]) }),
 (160,{ fn:=Tryz.f160,n:=19,V:=2,cross:=[4,5,7,8,9,16],ord:=fun _=>([],[]) })]
abbrev eqs:List Nat:=[]
theorem Ic:∀t,eqs.contains t=true->Tryz.prog.eqGuardType Tryz.prog.depth t=false/\Tryz.prog.stoodInHeld t=false:=by
 intro t h
 exact absurd h (by simp[eqs])
theorem Ew:FrmOk Tryz.prog (EP IO) :=
 FrmOk.cons Tryz.func3 rfl (by decide) <|
 FrmOk.cons Tryz.func4 rfl (by decide) <|
 FrmOk.cons Tryz.func5 rfl (by decide) <|
 FrmOk.cons Tryz.func6 rfl (by decide) <|
 FrmOk.cons Tryz.func7 rfl (by decide) <|
 FrmOk.cons Tryz.func8 rfl (by decide) <|
 FrmOk.cons Tryz.func9 rfl (by decide) <|
 FrmOk.cons Tryz.func10 rfl (by decide) <|
 FrmOk.cons Tryz.func11 rfl (by decide) <|
 FrmOk.cons Tryz.func12 rfl (by decide) <|
 FrmOk.cons Tryz.func13 rfl (by decide) <|
 FrmOk.cons Tryz.func14 rfl (by decide) <|
 FrmOk.cons Tryz.func15 rfl (by decide) <|
 FrmOk.cons Tryz.func16 rfl (by decide) <|
 FrmOk.cons Tryz.func17 rfl (by decide) <|
 FrmOk.cons Tryz.func18 rfl (by decide) <|
 FrmOk.cons Tryz.func19 rfl (by decide) <|
 FrmOk.cons Tryz.func20 rfl (by decide) <|
 FrmOk.cons Tryz.func21 rfl (by decide) <|
 FrmOk.cons Tryz.func22 rfl (by decide) <|
 FrmOk.cons Tryz.func23 rfl (by decide) <|
 FrmOk.cons Tryz.func24 rfl (by decide) <|
 FrmOk.cons Tryz.func25 rfl (by decide) <|
 FrmOk.cons Tryz.func26 rfl (by decide) <|
 FrmOk.cons Tryz.func27 rfl (by decide) <|
 FrmOk.cons Tryz.func28 rfl (by decide) <|
 FrmOk.cons Tryz.func29 rfl (by decide) <|
 FrmOk.cons Tryz.func30 rfl (by decide) <|
 FrmOk.cons Tryz.func31 rfl (by decide) <|
 FrmOk.cons Tryz.func32 rfl (by decide) <|
 FrmOk.cons Tryz.func33 rfl (by decide) <|
 FrmOk.cons Tryz.func34 rfl (by decide) <|
 FrmOk.cons Tryz.func35 rfl (by decide) <|
 FrmOk.cons Tryz.func36 rfl (by decide) <|
 FrmOk.cons Tryz.func37 rfl (by decide) <|
 FrmOk.cons Tryz.func38 rfl (by decide) <|
 FrmOk.cons Tryz.func39 rfl (by decide) <|
 FrmOk.cons Tryz.func40 rfl (by decide) <|
 FrmOk.cons Tryz.func41 rfl (by decide) <|
 FrmOk.cons Tryz.func42 rfl (by decide) <|
 FrmOk.cons Tryz.func43 rfl (by decide) <|
 FrmOk.cons Tryz.func44 rfl (by decide) <|
 FrmOk.cons Tryz.func45 rfl (by decide) <|
 FrmOk.cons Tryz.func46 rfl (by decide) <|
 FrmOk.cons Tryz.func47 rfl (by decide) <|
 FrmOk.cons Tryz.func48 rfl (by decide) <|
 FrmOk.cons Tryz.func49 rfl (by decide) <|
 FrmOk.cons Tryz.func50 rfl (by decide) <|
 FrmOk.cons Tryz.func51 rfl (by decide) <|
 FrmOk.cons Tryz.func52 rfl (by decide) <|
 FrmOk.cons Tryz.func53 rfl (by decide) <|
 FrmOk.cons Tryz.func54 rfl (by decide) <|
 FrmOk.cons Tryz.func55 rfl (by decide) <|
 FrmOk.cons Tryz.func56 rfl (by decide) <|
 FrmOk.cons Tryz.func57 rfl (by decide) <|
 FrmOk.cons Tryz.func58 rfl (by decide) <|
 FrmOk.cons Tryz.func59 rfl (by decide) <|
 FrmOk.cons Tryz.func60 rfl (by decide) <|
 FrmOk.cons Tryz.func61 rfl (by decide) <|
 FrmOk.cons Tryz.func62 rfl (by decide) <|
 FrmOk.cons Tryz.func63 rfl (by decide) <|
 FrmOk.cons Tryz.func64 rfl (by decide) <|
 FrmOk.cons Tryz.func65 rfl (by decide) <|
 FrmOk.cons Tryz.func66 rfl (by decide) <|
 FrmOk.cons Tryz.func67 rfl (by decide) <|
 FrmOk.cons Tryz.func68 rfl (by decide) <|
 FrmOk.cons Tryz.func69 rfl (by decide) <|
 FrmOk.cons Tryz.func70 rfl (by decide) <|
 FrmOk.cons Tryz.func71 rfl (by decide) <|
 FrmOk.cons Tryz.func72 rfl (by decide) <|
 FrmOk.cons Tryz.func73 rfl (by decide) <|
 FrmOk.cons Tryz.func74 rfl (by decide) <|
 FrmOk.cons Tryz.func75 rfl (by decide) <|
 FrmOk.cons Tryz.func76 rfl (by decide) <|
 FrmOk.cons Tryz.func77 rfl (by decide) <|
 FrmOk.cons Tryz.func78 rfl (by decide) <|
 FrmOk.cons Tryz.func79 rfl (by decide) <|
 FrmOk.cons Tryz.func80 rfl (by decide) <|
 FrmOk.cons Tryz.func81 rfl (by decide) <|
 FrmOk.cons Tryz.func82 rfl (by decide) <|
 FrmOk.cons Tryz.func83 rfl (by decide) <|
 FrmOk.cons Tryz.func84 rfl (by decide) <|
 FrmOk.cons Tryz.func85 rfl (by decide) <|
 FrmOk.cons Tryz.func86 rfl (by decide) <|
 FrmOk.cons Tryz.func87 rfl (by decide) <|
 FrmOk.cons Tryz.func88 rfl (by decide) <|
 FrmOk.cons Tryz.func89 rfl (by decide) <|
 FrmOk.cons Tryz.func90 rfl (by decide) <|
 FrmOk.cons Tryz.func91 rfl (by decide) <|
 FrmOk.cons Tryz.func92 rfl (by decide) <|
 FrmOk.cons Tryz.func93 rfl (by decide) <|
 FrmOk.cons Tryz.func94 rfl (by decide) <|
 FrmOk.cons Tryz.func95 rfl (by decide) <|
 FrmOk.cons Tryz.func96 rfl (by decide) <|
 FrmOk.cons Tryz.func97 rfl (by decide) <|
 FrmOk.cons Tryz.func98 rfl (by decide) <|
 FrmOk.cons Tryz.func99 rfl (by decide) <|
 FrmOk.cons Tryz.func100 rfl (by decide) <|
 FrmOk.cons Tryz.func101 rfl (by decide) <|
 FrmOk.cons Tryz.func102 rfl (by decide) <|
 FrmOk.cons Tryz.func103 rfl (by decide) <|
 FrmOk.cons Tryz.func104 rfl (by decide) <|
 FrmOk.cons Tryz.func105 rfl (by decide) <|
 FrmOk.cons Tryz.func106 rfl (by decide) <|
 FrmOk.cons Tryz.func107 rfl (by decide) <|
 FrmOk.cons Tryz.func108 rfl (by decide) <|
 FrmOk.cons Tryz.func109 rfl (by decide) <|
 FrmOk.cons Tryz.func110 rfl (by decide) <|
 FrmOk.cons Tryz.func111 rfl (by decide) <|
 FrmOk.cons Tryz.func112 rfl (by decide) <|
 FrmOk.cons Tryz.func113 rfl (by decide) <|
 FrmOk.cons Tryz.func114 rfl (by decide) <|
 FrmOk.cons Tryz.func115 rfl (by decide) <|
 FrmOk.cons Tryz.func116 rfl (by decide) <|
 FrmOk.cons Tryz.func117 rfl (by decide) <|
 FrmOk.cons Tryz.func118 rfl (by decide) <|
 FrmOk.cons Tryz.func119 rfl (by decide) <|
 FrmOk.cons Tryz.func120 rfl (by decide) <|
 FrmOk.cons Tryz.func121 rfl (by decide) <|
 FrmOk.cons Tryz.func122 rfl (by decide) <|
 FrmOk.cons Tryz.func123 rfl (by decide) <|
 FrmOk.cons Tryz.func124 rfl (by decide) <|
 FrmOk.cons Tryz.func125 rfl (by decide) <|
 FrmOk.cons Tryz.func126 rfl (by decide) <|
 FrmOk.cons Tryz.func127 rfl (by decide) <|
 FrmOk.cons Tryz.func128 rfl (by decide) <|
 FrmOk.cons Tryz.func129 rfl (by decide) <|
 FrmOk.cons Tryz.func130 rfl (by decide) <|
 FrmOk.cons Tryz.func131 rfl (by decide) <|
 FrmOk.cons Tryz.func132 rfl (by decide) <|
 FrmOk.cons Tryz.func133 rfl (by decide) <|
 FrmOk.cons Tryz.func134 rfl (by decide) <|
 FrmOk.cons Tryz.func135 rfl (by decide) <|
 FrmOk.cons Tryz.func136 rfl (by decide) <|
 FrmOk.cons Tryz.func137 rfl (by decide) <|
 FrmOk.cons Tryz.func138 rfl (by decide) <|
 FrmOk.cons Tryz.func139 rfl (by decide) <|
 FrmOk.cons Tryz.func140 rfl (by decide) <|
 FrmOk.cons Tryz.func141 rfl (by decide) <|
 FrmOk.cons Tryz.func142 rfl (by decide) <|
 FrmOk.cons Tryz.func143 rfl (by decide) <|
 FrmOk.cons Tryz.func144 rfl (by decide) <|
 FrmOk.cons Tryz.func145 rfl (by decide) <|
 FrmOk.cons Tryz.func146 rfl (by decide) <|
 FrmOk.cons Tryz.func147 rfl (by decide) <|
 FrmOk.cons Tryz.func148 rfl (by decide) <|
 FrmOk.cons Tryz.func149 rfl (by decide) <|
 FrmOk.cons Tryz.func150 rfl (by decide) <|
 FrmOk.cons Tryz.func151 rfl (by decide) <|
 FrmOk.cons Tryz.func152 rfl (by decide) <|
 FrmOk.cons Tryz.func153 rfl (by decide) <|
 FrmOk.cons Tryz.func154 rfl (by decide) <|
 FrmOk.cons Tryz.func155 rfl (by decide) <|
 FrmOk.cons Tryz.func156 rfl (by decide) <|
 FrmOk.cons Tryz.func157 rfl (by decide) <|
 FrmOk.cons Tryz.func158 rfl (by decide) <|
 FrmOk.cons Tryz.func159 rfl (by decide) <|
 FrmOk.cons Tryz.func160 rfl (by decide) <|
 FrmOk.nil _
end Go.Proofs.YtfbfnhbafjmnaaaGreat
namespace Go.Proofs
open Go.Shelf
def Tryz.lays212_ren:Go.Shelf.Ren:=⟨fun | 212=>142 | 263=>148 | 264=>149 | n=>n,fun | 46=>103 | 51=>133 | 146=>174 | 53=>135 | 148=>176 | n=>n,fun | n=>n⟩
theorem Tryz.lays212:Go.Proofs.Lays.n212 Tryz.prog Tryz.lays212_ren:={
 mixed:=by kernel_rfl
 f212:=Tryz.func142.trans (congrArg some (by kernel_rfl))
 f263:=Tryz.func148.trans (congrArg some (by kernel_rfl))
 f264:=Tryz.func149.trans (congrArg some (by kernel_rfl))
 t46:=Tryz.underlying103
 a46:=Tryz.isAgg103
 z46:=Tryz.sizeOf103
 v46:=Tryz.zeroValue103
 t51:=Tryz.underlying133
 a51:=Tryz.isAgg133
 z51:=Tryz.sizeOf133
 v51:=Tryz.zeroValue133
 t53:=Tryz.underlying135
 a53:=Tryz.isAgg135
 z53:=Tryz.sizeOf135
 v53:=Tryz.zeroValue135
 t146:=Tryz.underlying174
 a146:=Tryz.isAgg174
 z146:=Tryz.sizeOf174
 v146:=Tryz.zeroValue174
 t148:=Tryz.underlying176
 a148:=Tryz.isAgg176
 z148:=Tryz.sizeOf176
 v148:=Tryz.zeroValue176 }
open Go.RowKit Go.Lib in
theorem Tryz.bits_Mul(x y : Nat)(hx : x<18446744073709551616)(hy : y<18446744073709551616)(w : World) :
  Calls Tryz.prog 142 #[.int .u64 x,.int .u64 y] w fun e w'=>e=.returned (.tuple #[.int .u64 ((x*y / 18446744073709551616:Nat):Int),.int .u64 ((x*y % 18446744073709551616:Nat):Int)])/\w'=w:=Any.bits_Mul Tryz.lays212 x y hx hy w
end Go.Proofs
namespace Go.Proofs.YtfbfnhbafjmnaaaGreat
open Go Go.Ab
theorem mix:Tryz.prog.follows .mixedOrders=true:=by kernel_rfl
def SM{α:Type}(x:α):Prop:=x=x
def Z0:Int:=0
def Z1:Int:=1
def N0:Nat:=0
def N1:Nat:=1
def N2:Nat:=2
def N4:Nat:=4
def N6:Nat:=6
def U0:UInt8:=0
def LN{α:Type}(l:List α):Nat:=List.length l
def LI{α:Type}(l:List α):Int:=(↑(List.length l):Int)
def BI(l:List UInt8)(i:Nat):Int:=(↑(UInt8.toNat (List.getD l i (0:UInt8))):Int)
def NI(x:Nat):Int:=(↑x:Int)
def TN(x:Nat):Nat:=Int.toNat (↑x:Int)
def GI(l:List Int)(i:Nat):Int:=List.getD l i (0:Int)
def ZI(a:Int):D:=D.int IntKind.i64 a
def SI(l:List Int):D:=D.sl 1 (List.length l) (fun i=>[D.int IntKind.i64 (List.getD l i (0:Int))]) Mode.any
abbrev Con:=Nat->List D->St->Option FnSpec
noncomputable def E0(con:Con)(n V:Nat)(cross:List Nat)(ord:Nat->List Nat×List Nat):Senv where
 P:=Tryz.prog
 tt:=IP tab
 n:=n
 dfs:=[]
 V:=V
 cross:=cross
 gh:=fun _=>[]
 gr:=[]
 unr:=fun _=>0
 cut:=fun _ _ _=>none
 ann:=fun _ _ _=>none
 ord:=ord
 con:=con
 eqs:=eqs
noncomputable def EC(con:Con)(n V:Nat)(cross:List Nat)(ord:Nat->List Nat×List Nat):Senv :=
 { E0 con n V cross ord with auto:=true,inl:=Tg { E0 con 0 0 [] (fun _=>([],[])) with auto:=true } (EP IO) 9 }
abbrev CK:Con:=fun _ _ _=>none
theorem BE:ConOk Tryz.prog CK:=fun _ _ _ _ h=>nomatch h
theorem eOk{con:Con}(hc:ConOk Tryz.prog con){E:Senv}(h:E={ EC con E.n E.V E.cross E.ord with gh:=E.gh,gr:=E.gr,unr:=E.unr,cut:=E.cut,ann:=E.ann,cut2:=E.cut2,ann2:=E.ann2,own:=E.own,gz:=E.gz,mg:=E.mg,pvt:=E.pvt,bcut:=E.bcut,bd:=E.bd }):EnvOk E:=by
 rw[h]
 exact⟨It,hc,mix,fun k ds S R h=>GT (E:={ E0 con 0 0 [] (fun _=>([],[])) with auto:=true }) It hc mix Ew Ic 9 k ds S R h,Ic⟩
def pC(ds:List D)(d:D)(p:Prop):FnSpec where
 β:=Unit
 α:=Unit
 args:=fun _=>ds
 st:=fun _=>⟨[],[]⟩
 pre:=fun _=>p
 post:=fun _ _=>True
 res:=fun _ _=>.ret d
 out:=fun _ _=>⟨[],[]⟩
 fit:=some ()
theorem BcA(S:St):leS ⟨[],[]⟩ S:=by simp[leS,Ba,Go.Ab.nodupB,leO,leT]
theorem C4{k : Nat}{ds : List D}{S : St}{us : List D}{d : D}{p : Prop}(h : p -> BS ds us /\ ACalls Tryz.prog k us ⟨[], []⟩ (SpecR (sC us d) ())) :
  (∀x,(pC us d p).pre x->ACalls Tryz.prog k ((pC us d p).args x) ((pC us d p).st x) (SpecR (pC us d p) x))/\(∀x,(pC us d p).fit=some x->(pC us d p).pre x->BS ds ((pC us d p).args x)/\leS ((pC us d p).st x) S)/\((pC us d p).all=true->∀x,(pC us d p).pre x->BS ds ((pC us d p).args x)/\(pC us d p).st x=S) :=
 ⟨fun _ hp=>(h hp).2.mono fun _ _ ⟨_,_h1,h2,h3⟩=>⟨(),trivial,h2,h3⟩,fun _ _ hp=>⟨(h hp).1,BcA S⟩,fun e=>nomatch e⟩
theorem BN{α:Type}[Inhabited α]{l:List α}{i:Nat}(h:i<l.length):l.drop i=l.getD i default::l.drop (i+1):=by
 rw[List.drop_eq_getElem_cons h]
 simp[List.getD_eq_getElem?_getD,h]
theorem Cf{α:Type}[Inhabited α]{l:List α}{i:Nat}(h:i<l.length):l.take (i+1)=l.take i++[l.getD i default]:=by
 rw[List.take_add_one]
 simp[List.getD_eq_getElem?_getD,h]
def RT(p:Prop):Prop:=True/\∃(y:Unit),True/\p/\True/\True
def isl(l:List Int)(m:Ab.Mode):D:=.sl 1 l.length (fun i=>[.int .i64 (l.getD i 0)]) m
inductive Arr where
 |mk (kind:Int) (shape nums:List Int) (items:List Arr)
def Cs(z:Int):Prop:=-9223372036854775808<=z/\z<=9223372036854775807
mutual
def Arr.row:Arr->List D
 |.mk k s n is=>[.int .i64 k,isl s .any,isl n .any,.sl 4 (M0 is).length (fun i=>(M0 is).getD i []) .any]
def M0:List Arr->List (List D)
 | []=>[]
 |a::r=>a.row::M0 r
end
mutual
def Arr.ok:Arr->Prop
 |.mk k s n is=>Cs k/\(∀z∈s,Cs z)/\(∀z∈n,Cs z)/\s.length<=maxLen/\n.length<=maxLen/\is.length<=maxLen/\okL is
def okL:List Arr->Prop
 | []=>True
 |a::r=>a.ok/\okL r
end
mutual
/-- Nothing in it is longer than a machine's memory. -/
def Arr.sm:Arr->Prop
 |.mk _ s n is=>s.length<=BX/\n.length<=BX/\is.length<=BX/\smL is
def smL:List Arr->Prop
 | []=>True
 |a::r=>a.sm/\smL r
end
theorem BgK:∀(l:List Arr),smL l↔∀a∈l,a.sm
 | []=>by simp[smL]
 |a::l=>by simp only[smL,List.forall_mem_cons,BgK l]
theorem BD{n:Nat}(h:n<=BX):n<=maxLen:=Nat.le_trans h (by decide)
theorem GZ:∀(l:List Arr),M0 l=l.map Arr.row
 | []=>rfl
 |a::l=>by simp only[M0,List.map_cons,GZ l]
theorem Ev:∀(l:List Arr),okL l↔∀a∈l,a.ok
 | []=>by simp[okL]
 |a::l=>by simp only[okL,List.forall_mem_cons,Ev l]
def RInts:List D->Prop:=fun ds=>∃l:List Int,(∀z∈l,Cs z)/\l.length<=BX/\ds=[isl l .any]
def RArr:List D->Prop:=fun ds=>∃a:Arr,(a.ok/\a.sm)/\ds=a.row
theorem Ey:∀x,RInt .i64 x->∃z,Cs z/\x=[.int .i64 z]:=by
 rintro x ⟨n,rfl,h1,h2⟩
 simp only[IntKind.min,IntKind.max,IntKind.signed,IntKind.bits] at h1 h2
 exact⟨n,⟨by simpa using h1,by simp at h2;omega⟩,rfl⟩
theorem BaQ(W:World)(n:Nat):ReadAt Tryz.prog W n 28 RInts:=by
 cases n with
 |zero=>exact .zero _ _
 |succ n =>
  refine (Eq (w:=1) Tryz.underlying28 (by kernel_rfl) (by decide) (by decide +kernel) (Ix Tryz.underlying3 W n)).weak ?_
  rintro _ ds vs ⟨l,h1,h2,rfl⟩ h
  obtain ⟨l',q,rfl⟩:=IL Ey l h1
  refine⟨_,⟨l',q,by simpa using h2,rfl⟩,CC _ _ ?_ _ _ h⟩
  simp only[isl,BS,Br,Ba]
  refine⟨⟨by simp,by simp,fun i hi=>?_,by simp[BG]⟩,trivial⟩
  have hi:i<l'.length:=by simpa using hi
  simp[List.getD_eq_getElem?_getD,hi]
theorem Beb(W:World):∀n,ReadAt Tryz.prog W n 45 RArr
 |0=>.zero _ _
 |n+1=>by
  have hi:ReadAt Tryz.prog W n 43 (RSliceA 4 RArr):=by
   cases n with
   |zero=>exact .zero _ _
   |succ m=>exact Eq (w:=4) Tryz.underlying43 (by kernel_rfl) (by decide) (by decide +kernel) (Beb W m)
  refine (EV Tryz.underlying45 (by kernel_rfl) (Rs:=[RInt .i64,RInts,RInts,RSliceA 4 RArr]) ⟨Ix (by kernel_rfl) W n,BaQ W n,BaQ W n,hi,trivial⟩).mono ?_
  rintro ds ⟨_,_,h1,⟨_,_,h2,⟨_,_,h3,⟨_,_,h4,h5,rfl⟩,rfl⟩,rfl⟩,rfl⟩
  obtain rfl:_=[]:=h5
  obtain ⟨k,hk,rfl⟩:=Ey _ h1
  obtain ⟨s,s1,s2,rfl⟩:=h2
  obtain ⟨m,m1,m2,rfl⟩:=h3
  obtain ⟨l,l1,l2,rfl⟩:=h4
  obtain ⟨is,q,rfl⟩:=IL (g:=Arr.row) (Q:=fun a=>a.ok/\a.sm) (fun x hx=>hx) l l1
  have l2:is.length<=BX:=by simpa using l2
  refine⟨.mk k s m is,⟨?_,?_⟩,?_⟩
  ·simp only[Arr.ok]
   exact⟨hk,s1,m1,BD s2,BD m2,BD l2,(Ev _).2 fun a ha=>(q a ha).1⟩
  ·simp only[Arr.sm]
   exact⟨s2,m2,l2,(BgK _).2 fun a ha=>(q a ha).2⟩
  ·simp only[Arr.row,GZ,List.cons_append,List.nil_append]
def gsl{α:Type}[Inhabited α](w:Nat)(g:α->List D)(l:List α):D:=.sl w l.length (fun i=>g (l.getD i default)) .any
instance:Inhabited Arr:=⟨.mk 0 [] [] []⟩
def DA:Arr:=Arr.mk (0:Int) [] [] []
def GA(l:List Arr)(i:Nat):Arr:=List.getD l i (Arr.mk (0:Int) [] [] [])
set_option maxRecDepth 100000
def Rw(P:Program)(TS:List Nat)(t:Nat):Bool :=
 match P.underlying t with
 |some (.slice e)=>TS.contains e&&decide (P.bytesOf e<=4096)
 |some (.struct fs)=>fs.toList.all fun f=>TS.contains f.type
 |some (.pointer e)=>TS.contains e
 |some (.array _ e)=>TS.contains e
 |some (.map k e)=>TS.contains e&&decide (P.bytesOf k+P.bytesOf e<=4096)
 |_=>true
theorem Bdf{H:Type}(d:DataW H):1<=Rows.uptoBulk d:=by
 cases d with
 |lit l=>cases l<;>simp[Rows.uptoBulk]
 |nil=>simp[Rows.uptoBulk]
 |ptr d=>simp[Rows.uptoBulk]
 |slice elems spare=>simp[Rows.uptoBulk]
 |agg parts=>simp[Rows.uptoBulk]
 |iface t d=>simp[Rows.uptoBulk]
 |map entries=>simp[Rows.uptoBulk]
 |held h=>simp[Rows.uptoBulk]
theorem WC{H:Type}:∀l:List (DataW H),l.length<=Rows.uptoBulkAll l
 | []=>by simp[Rows.uptoBulkAll]
 |x::r=>by
  have:=Bdf x
  have:=WC r
  simp only[Rows.uptoBulkAll,List.length_cons]
  omega
theorem Bel{H:Type}:∀l:List (Go.Lit×DataW H),l.length<=Rows.uptoBulkEntries l
 | []=>by simp[Rows.uptoBulkEntries]
 |(k,d)::r=>by
  have:=Bdf d
  have:=Bel r
  have h:1<=Rows.uptoBulkEntry (k,d):=by cases k<;>simp[Rows.uptoBulkEntry]
  simp only[Rows.uptoBulkEntries,List.length_cons]
  omega
theorem BcU{a b c:Nat}(h1:a<=c)(h2:b<=4096):a*b<=8192*c:=by
 calc a*b<=c*4096:=Nat.mul_le_mul h1 h2
  _<=8192*c:=by omega
mutual
theorem Bi9{P:Program}{TS:List Nat}(hT:∀t∈TS,Rw P TS t=true){H:Type}:∀(d:DataW H) (t:Nat),t∈TS->∀x∈d.weights P t,x<=8192*Rows.uptoBulk d
 |.lit l,t,_,x,hx=>by
  cases l with
  |string bytes =>
   simp only[DataW.weights,List.mem_singleton] at hx
   simp only[Rows.uptoBulk]
   omega
  |_=>simp[DataW.weights] at hx
 |.nil,t,_,x,hx=>by simp[DataW.weights] at hx
 |.ptr d,t,ht,x,hx=>by
  have ho:=hT t ht
  simp only[DataW.weights] at hx
  unfold Rw at ho
  split at hx
  ·rename_i e hu
   rw[hu] at ho
   have:=Bi9 hT d e (by simpa using ho) x hx
   simp only[Rows.uptoBulk]
   omega
  ·simp at hx
 |.slice elems spare,t,ht,x,hx=>by
  have ho:=hT t ht
  simp only[DataW.weights] at hx
  unfold Rw at ho
  split at hx
  ·rename_i e hu
   rw[hu] at ho
   simp only[Bool.and_eq_true,decide_eq_true_eq] at ho
   have he:e∈TS:=by simpa using ho.1
   simp only[Rows.uptoBulk]
   rcases List.mem_cons.1 hx with rfl | hx
   ·exact Nat.le_trans (BcU (Nat.add_le_add (WC elems) (WC spare)) ho.2) (by omega)
   ·rcases List.mem_append.1 hx with hx | hx
    ·have:=Wu hT elems e he x hx
     omega
    ·have:=Wu hT spare e he x hx
     omega
  ·simp at hx
 |.agg parts,t,ht,x,hx=>by
  have ho:=hT t ht
  simp only[DataW.weights] at hx
  unfold Rw at ho
  split at hx
  ·rename_i fs hu
   rw[hu] at ho
   have:=Rx hT (fs.toList.map (·.type)) parts (fun t h=>by
    obtain ⟨f,hf,rfl⟩:=List.mem_map.1 h
    simpa using List.all_eq_true.1 ho f hf) x hx
   simp only[Rows.uptoBulk]
   omega
  ·rename_i e hu
   rw[hu] at ho
   have:=Wu hT parts e (by simpa using ho) x hx
   simp only[Rows.uptoBulk]
   omega
  ·simp at hx
 |.iface _ _,t,_,x,hx=>by simp[DataW.weights] at hx
 |.map entries,t,ht,x,hx=>by
  have ho:=hT t ht
  simp only[DataW.weights] at hx
  unfold Rw at ho
  split at hx
  ·rename_i k e hu
   rw[hu] at ho
   simp only[Bool.and_eq_true,decide_eq_true_eq] at ho
   simp only[Rows.uptoBulk]
   rcases List.mem_cons.1 hx with rfl | hx
   ·exact Nat.le_trans (BcU (Bel entries) ho.2) (by omega)
   ·have:=Bga hT entries e (by simpa using ho.1) x hx
    omega
  ·simp at hx
 |.held _,t,_,x,hx=>by simp[DataW.weights] at hx
theorem Wu{P:Program}{TS:List Nat}(hT:∀t∈TS,Rw P TS t=true){H:Type}:∀(l:List (DataW H)) (e:Nat),e∈TS->∀x∈DataW.weightsAll P e l,x<=8192*Rows.uptoBulkAll l
 | [],e,_,x,hx=>by simp[DataW.weightsAll] at hx
 |d::r,e,he,x,hx=>by
  simp only[DataW.weightsAll] at hx
  simp only[Rows.uptoBulkAll]
  rcases List.mem_append.1 hx with hx | hx
  ·have:=Bi9 hT d e he x hx;omega
  ·have:=Wu hT r e he x hx;omega
theorem Rx{P:Program}{TS:List Nat}(hT:∀t∈TS,Rw P TS t=true){H:Type}:∀(ts:List Nat) (l:List (DataW H)),(∀t∈ts,t∈TS)->∀x∈DataW.weightsEach P ts l,x<=8192*Rows.uptoBulkAll l
 | [],l,_,x,hx=>by simp[DataW.weightsEach] at hx
 |t::ts,[],_,x,hx=>by simp[DataW.weightsEach] at hx
 |t::ts,d::r,ht,x,hx=>by
  simp only[DataW.weightsEach] at hx
  simp only[Rows.uptoBulkAll]
  rcases List.mem_append.1 hx with hx | hx
  ·have:=Bi9 hT d t (ht t (by simp)) x hx;omega
  ·have:=Rx hT ts r (fun u hu=>ht u (by simp[hu])) x hx;omega
theorem Bga{P:Program}{TS:List Nat}(hT:∀t∈TS,Rw P TS t=true){H:Type}:∀(l:List (Go.Lit×DataW H)) (e:Nat),e∈TS->∀x∈DataW.weightsEntries P e l,x<=8192*Rows.uptoBulkEntries l
 | [],e,_,x,hx=>by simp[DataW.weightsEntries] at hx
 |(k,d)::r,e,he,x,hx=>by
  simp only[DataW.weightsEntries] at hx
  simp only[Rows.uptoBulkEntries]
  rcases List.mem_append.1 hx with hx | hx
  ·cases k with
   |string bytes =>
    simp only[DataW.weightsEntry] at hx
    simp only[Rows.uptoBulkEntry]
    rcases List.mem_cons.1 hx with rfl | hx
    ·omega
    ·have:=Bi9 hT d e he x hx;omega
   |_ =>
    simp only[DataW.weightsEntry] at hx
    simp only[Rows.uptoBulkEntry]
    have:=Bi9 hT d e he x hx;omega
  ·have:=Bga hT r e he x hx;omega
end
theorem BbM{P:Program}{TS:List Nat}(hT:∀t∈TS,Rw P TS t=true){H:Type}{ts:List Nat}(hts:∀t∈ts,t∈TS){ds:List (DataW H)}(hk:Rows.uptoSmall H ds=true):(DataW.weightsEach P ts ds).all (·<=BX)=true:=by
 have hb:Rows.uptoBulkAll ds<=1048576:=of_decide_eq_true hk
 refine List.all_eq_true.2 fun x hx=>?_
 have:=Rx hT ts ds hts x hx
 unfold BX
 simp only[decide_eq_true_eq]
 omega
def BjV:List D->Int
 | [.int _ z]=>z
 |_=>0
def Bu(n:Nat)(f:Nat->List D):List Int:=(List.range n).map fun i=>BjV (f i)
theorem CL(l:List Int):Bu l.length (fun i=>[D.int .i64 (l.getD i 0)])=l:=by
 apply List.ext_getElem
 ·simp[Bu]
 ·intro i h1 h2
  simp[Bu,BjV,List.getD_eq_getElem?_getD,h2]
def IntsP(n:Nat)(f:Nat->List D):Prop:=∀i,i<n->f i=[.int .i64 (BjV (f i))]
theorem CN{n:Nat}{f:Nat->List D}{m:Ab.Mode}(h:IntsP n f):BS [.sl 1 n f m] [isl (Bu n f) .any]:=by
 simp only[isl,BS,Br,Ba]
 refine⟨⟨by simp,by simp[Bu],fun i hi=>?_,by simp[BG]⟩,trivial⟩
 have e:(Bu n f).getD i 0=BjV (f i):=by simp[Bu,List.getD_eq_getElem?_getD,hi]
 rw[e]
 exact h i hi
def goO:List Int->Int->Option Int
 | [],p=>some p
 |d::r,p=>if d<0\/65536<d then none else if d=0 then goO r p else if 65536<p*d then none else goO r (p*d)
def Ge(s:List Int):Bool:=decide (s.length<=8)&&(goO s 1).isSome
def Ec(s:List Int):Int:=if s.contains 0 then 0 else (goO s 1).getD 0
structure GoHead (l:List Int) (i:Nat) (p:Int):Prop where
 hi:i<=l.length
 h1:1<=p
 h2:p<=65536
 hg:goO (l.drop i) p=goO l 1
theorem GoHead.init(l:List Int):GoHead l 0 1:=⟨Nat.zero_le _,by omega,by omega,by simp⟩
theorem WR{l:List Int}{i:Nat}(h:i<l.length):l.drop i=l.getD i 0::l.drop (i+1):=BN h
theorem GoHead.step{l : List Int}{i : Nat}{p : Int}(h : GoHead l i p)(hlt : i<l.length) :
  (l.getD i 0<0->goO l 1=none)/\(65536<l.getD i 0->goO l 1=none)/\(l.getD i 0=0->GoHead l (i+1) p) /\
  (¬l.getD i 0<0->¬65536<l.getD i 0->0<=p*l.getD i 0/\p*l.getD i 0<=4294967296/\(65536<p*l.getD i 0->l.getD i 0≠0->goO l 1=none)/\(¬65536<p*l.getD i 0->l.getD i 0≠0->GoHead l (i+1) (p*l.getD i 0))):=by
 have hg:=h.hg
 rw[WR hlt,goO] at hg
 generalize l.getD i 0=d at *
 refine⟨fun h0=>?_,fun h0=>?_,fun h0=>?_,fun h0 h3=>?_⟩
 ·rw[if_pos (.inl h0)] at hg;exact hg.symm
 ·rw[if_pos (.inr h0)] at hg;exact hg.symm
 ·subst h0
  simp at hg
  exact⟨by omega,h.h1,h.h2,hg⟩
 ·have b1:0<=p*d:=Int.mul_nonneg (by have:=h.h1;omega) (by omega)
  have b2:p*d<=65536*65536:=Int.mul_le_mul h.h2 (by omega) (by omega) (by omega)
  refine⟨b1,by omega,fun h4 h5=>?_,fun h4 h5=>?_⟩
  ·rw[if_neg (by omega),if_neg h5,if_pos h4] at hg;exact hg.symm
  ·rw[if_neg (by omega),if_neg h5,if_neg h4] at hg
   refine⟨by omega,?_,by omega,hg⟩
   have:0<p*d:=Int.mul_pos (by have:=h.h1;omega) (by omega)
   omega
theorem GoHead.done{l:List Int}{i:Nat}{p:Int}(h:GoHead l i p)(hge:¬(i:Int)<l.length):goO l 1=some p:=by
 have hg:=h.hg
 have:i=l.length:=by have:=h.hi;omega
 rw[this,List.drop_length,goO] at hg
 exact hg.symm
noncomputable def Eright(l:List Int):Senv:={ EC CK 31 1 [2,3,5,8,9,10,11,12,15,22,29] (fun _=>([],[])) with
 ann:=fun b _ _=>match b with
  |0=>some { slots:=[11,3],keep:=[9,10],α:=Nat×Int,st:=fun y=>([.int .i64 y.1,.int .i64 y.2],⟨[],[]⟩),inv:=fun y=>GoHead l y.1 y.2,mu:=fun y=>l.length-y.1 }
  |_=>none }
noncomputable section
def QqS(a:List Int):Prop:=True/\∃(_y:Unit),True/\false=Ge a/\True/\True
def Qcd(a:List Int)(b:Nat):Int:=GI a (Int.toNat (↑b:Int))
def QqT(a:List Int)(b:Nat):Bool:=bif decide (Qcd a b<Z0) then true else decide ((65536:Int)<Qcd a b)
def QEJ(a:List Int):D:=SI a
def QtL(a:List Int):Prop:=SM (QEJ a)/\SM (ZI (LI a))/\True
end
theorem Bh4(l:List Int):ACalls Tryz.prog 146 [isl l .any] ⟨[],[]⟩ (SpecR (sC [isl l .any] (.bool (Ge l))) ()):=by
 refine Bh (A:=sC _ _) (x:=()) (E:=Eright l) (eOk BE rfl) Tryz.func146 rfl (by kernel_rfl) rfl (by simp[sC,Eright,EC,E0]) ?_
 refine Bl (T :=
  ifB (decide ((8:Int)<(LI l))) (QqS l) ((∃(x:Nat×Int),GoHead l x.1 x.2/\(Z0=(NI x.1)/\Z1=x.2/\True)/\True/\True)/\∀(x:Nat×Int),GoHead l x.1 x.2->ifB (decide ((NI x.1)<(LI l))) (Bf (Z0<=(NI x.1)/\(NI x.1)<(LI l)) (ifB (decide (Qcd l x.1<Z0)) (true=QqT l x.1/\True) (decide ((65536:Int)<Qcd l x.1)=QqT l x.1/\True)/\ifB (QqT l x.1) (QqS l) (ifB (Qcd l x.1==Z0) (QtL l/\∃(y:Nat×Int),GoHead l y.1 y.2/\LN l-y.1<LN l-x.1/\(IntKind.wrap IntKind.i64 ((NI x.1)+Z1)=(NI y.1)/\x.2=y.2/\True)/\True/\True) (ifB (decide ((65536:Int)<IntKind.wrap IntKind.i64 (x.2*Qcd l x.1))) (QqS l) (QtL l/\∃(y:Nat×Int),GoHead l y.1 y.2/\LN l-y.1<LN l-x.1/\(IntKind.wrap IntKind.i64 ((NI x.1)+Z1)=(NI y.1)/\IntKind.wrap IntKind.i64 (x.2*Qcd l x.1)=y.2/\True)/\True/\True))))) (RT (true=Ge l)))) (by kernel_rfl) ?_
 delta GI LI LN N1 NI SI SM Z0 Z1 ZI QqS Qcd QqT QEJ QtL RT
 simp only[Int.toNat_natCast,Bg,Be,decide_eq_true_eq,decide_eq_false_iff_not,true_and,and_true,beq_iff_eq,Bool.cond_true_left,beq_eq_false_iff_ne,ne_eq,exists_const]
 have no:goO l 1=none->false=Ge l:=fun h=>by simp[Ge,h]
 refine⟨fun h=>?_,fun h8=>⟨⟨(0,1),GoHead.init l,rfl,rfl⟩,?_⟩⟩
 ·have:¬l.length<=8:=by omega
  simp[Ge,this]
 rintro ⟨i,p⟩ hh
 simp only at hh ⊢
 refine⟨fun hlt=>?_,fun hge=>?_⟩
 rotate_left
 ·have:l.length<=8:=by omega
  simp[Ge,hh.done hge,this]
 have hlt':i<l.length:=by omega
 obtain ⟨s1,s2,s3,s4⟩:=hh.step hlt'
 refine⟨by omega,⟨fun h=>by rw[decide_eq_true h];rfl,fun h=>by rw[decide_eq_false h];rfl⟩,fun h=>no ?_,fun h=>?_⟩
 ·rw[Bool.or_eq_true,decide_eq_true_eq,decide_eq_true_eq] at h
  exact h.elim s1 s2
 ·rw[Bool.or_eq_false_iff,decide_eq_false_iff_not,decide_eq_false_iff_not] at h
  obtain ⟨b1,b2,s5,s6⟩:=s4 h.1 h.2
  have hw:IntKind.i64.wrap (p*l.getD i 0)=p*l.getD i 0:=Bb (by omega) (by omega)
  rw[hw]
  exact⟨fun hd=>⟨(i+1,p),s3 hd,by simp only;omega,Bb (by omega) (by omega),rfl⟩,fun hd=>⟨fun h4=>no (s5 h4 hd),fun h4=>⟨(i+1,p*l.getD i 0),s6 h4 hd,by simp only;omega,Bb (by omega) (by omega),rfl⟩⟩⟩
noncomputable def Erprod(l:List Int):Senv:={ EC CK 30 1 [2,3,4,8,15,20,28] (fun _=>([],[])) with
 ann:=fun b _ _=>match b with
  |0=>some { slots:=[4,3],keep:=[0],α:=Nat×Int,st:=fun y=>([.int .i64 y.1,.int .i64 y.2],⟨[],[]⟩),inv:=fun y=>GoHead l y.1 y.2,mu:=fun y=>l.length-y.1 }
  |_=>none }
noncomputable section
def QqU(a:List Int):Prop:=True/\∃(_y:Unit),True/\(65537:Int)=Option.getD (goO a Z1) (65537:Int)/\True/\True
def QEK(a:List Int):D:=SI a
def QtM(a:List Int):Prop:=SM (QEK a)/\True
end
theorem Bj7(l:List Int)(h0:∀z∈l,0<=z)(hl:l.length<=maxLen):ACalls Tryz.prog 158 [isl l .any] ⟨[],[]⟩ (SpecR (sC [isl l .any] (.int .i64 ((goO l 1).getD 65537))) ()):=by
 refine Bh (A:=sC _ _) (x:=()) (E:=Erprod l) (eOk BE rfl) Tryz.func158 rfl (by kernel_rfl) rfl (by simp[sC,Erprod,EC,E0]) ?_
 refine Bl (T :=
  (∃(x:Nat×Int),GoHead l x.1 x.2/\(Z0=(NI x.1)/\Z1=x.2/\True)/\True/\True)/\∀(x:Nat×Int),GoHead l x.1 x.2->ifB (decide ((NI x.1)<(LI l))) (Bf (Z0<=(NI x.1)/\(NI x.1)<(LI l)) (ifB (decide ((65536:Int)<GI l (TN x.1))) (QqU l) (Bf (Z0<=(NI x.1)/\(NI x.1)<(LI l)) (ifB (decide (Z0<GI l (TN x.1))) (Bf (Z0<=(NI x.1)/\(NI x.1)<(LI l)) (ifB (decide ((65536:Int)<IntKind.wrap IntKind.i64 (x.2*GI l (TN x.1)))) (QqU l) (QtM l/\∃(y:Nat×Int),GoHead l y.1 y.2/\LN l-y.1<LN l-x.1/\(IntKind.wrap IntKind.i64 ((NI x.1)+Z1)=(NI y.1)/\IntKind.wrap IntKind.i64 (x.2*GI l (TN x.1))=y.2/\True)/\True/\True))) (ifB (decide ((65536:Int)<x.2)) (QqU l) (QtM l/\∃(y:Nat×Int),GoHead l y.1 y.2/\LN l-y.1<LN l-x.1/\(IntKind.wrap IntKind.i64 ((NI x.1)+Z1)=(NI y.1)/\x.2=y.2/\True)/\True/\True)))))) (RT (x.2=Option.getD (goO l Z1) (65537:Int)))) (by kernel_rfl) ?_
 delta GI LI LN N1 NI SI SM TN Z0 Z1 ZI QqU QEK QtM RT
 simp only[Int.toNat_natCast,Bg,Be,decide_eq_true_eq,decide_eq_false_iff_not,true_and,and_true,exists_const]
 have no:goO l 1=none->(65537:Int)=(goO l 1).getD 65537:=fun h=>by simp[h]
 refine⟨⟨(0,1),GoHead.init l,rfl,rfl⟩,?_⟩
 rintro ⟨i,p⟩ hh
 simp only at hh ⊢
 refine⟨fun hlt=>?_,fun hge=>by simp[hh.done hge]⟩
 have hlt':i<l.length:=by omega
 obtain ⟨s1,s2,s3,s4⟩:=hh.step hlt'
 have hd0:0<=l.getD i 0:=h0 _ (by rw[List.getD_eq_getElem?_getD,List.getElem?_eq_getElem hlt'];exact List.getElem_mem hlt')
 simp only[maxLen] at hl
 refine⟨by omega,fun h=>no (s2 h),fun h=>⟨by omega,?_⟩⟩
 obtain ⟨b1,b2,s5,s6⟩:=s4 (by omega) h
 have hw:IntKind.i64.wrap (p*l.getD i 0)=p*l.getD i 0:=Bb (by omega) (by omega)
 rw[hw]
 refine⟨fun hd=>⟨by omega,fun h4=>no (s5 h4 (by omega)),fun h4=>⟨(i+1,p*l.getD i 0),s6 h4 (by omega),by simp only;omega,Bb (by omega) (by omega),rfl⟩⟩,fun hd=>⟨fun h4=>absurd h4 (by have:=hh.h2;omega),fun _=>⟨(i+1,p),s3 (by omega),by simp only;omega,Bb (by omega) (by omega),rfl⟩⟩⟩
def conR:Con:=CK
theorem BkJ:ConOk Tryz.prog conR:=BE
def MC(p:Int->Bool):List Int->Nat->Int
 | [],_=>-1
 |d::r,i=>if p d then (i:Int) else MC p r (i+1)
theorem Bad(p:Int->Bool):∀(l:List Int) (i:Nat),decide (0<=MC p l i)=l.any p
 | [],i=>rfl
 |d::r,i=>by
  rw[MC,List.any_cons]
  split
  ·rename_i h;rw[h];simp
  ·rename_i h
   rw[Bad p r (i+1)]
   simp[h]
structure IdxHead (p:Int->Bool) (l:List Int) (i:Nat):Prop where
 hi:i<=l.length
 hg:MC p (l.drop i) i=MC p l 0
theorem IdxHead.step{p:Int->Bool}{l:List Int}{i:Nat}(h:IdxHead p l i)(hlt:i<l.length):(p (l.getD i 0)=true->MC p l 0=i)/\(p (l.getD i 0)=false->IdxHead p l (i+1)):=by
 have hg:=h.hg
 rw[WR hlt,MC] at hg
 refine⟨fun e=>?_,fun e=>?_⟩
 ·rw[if_pos e] at hg;exact hg.symm
 ·rw[if_neg (by rw[e];exact Bool.false_ne_true)] at hg;exact⟨by omega,hg⟩
theorem IdxHead.done{p:Int->Bool}{l:List Int}{i:Nat}(h:IdxHead p l i)(hge:¬(i:Int)<l.length):MC p l 0 = -1:=by
 have hg:=h.hg
 have:i=l.length:=by have:=h.hi;omega
 rw[this,List.drop_length,MC] at hg
 exact hg.symm
def annI(p:Int->Bool)(l:List Int)(keep:List Nat):LoopAnn:={ slots:=[8],keep:=keep,α:=Nat,st:=fun i=>([.int .i64 i],⟨[],[]⟩),inv:=fun i=>IdxHead p l i,mu:=fun i=>l.length-i }
noncomputable def Eidx(l:List Int)(v:Int):Senv:={ EC CK 19 2 [4,5,7,8,9,16] (fun _=>([],[])) with
 ann:=fun b _ _=>match b with
  |0=>some (annI (fun d=>v==d) l [0,1,6,7])
  |_=>none }
noncomputable section
def QqV(a:Int)(b:List Int)(c:Nat):Prop:=IdxHead (fun (d:Int)=>a==d) b c
def QEL(a:List Int):D:=SI a
end
theorem Bmd(l:List Int)(v:Int)(hl:l.length<=maxLen):ACalls Tryz.prog 160 [isl l .any,.int .i64 v] ⟨[],[]⟩ (SpecR (sC [isl l .any,.int .i64 v] (.int .i64 (MC (fun d=>v==d) l 0))) ()):=by
 refine Bh (A:=sC _ _) (x:=()) (E:=Eidx l v) (eOk BE rfl) Tryz.func160 rfl (by kernel_rfl) rfl (by simp[sC,Eidx,EC,E0]) ?_
 refine Bl (T :=
  (∃(x:Nat),QqV v l x/\(Z0=(↑x:Int)/\True)/\True/\True)/\∀(x:Nat),QqV v l x->ifB (decide ((↑x:Int)<(LI l))) (Bf (Z0<=(↑x:Int)/\(↑x:Int)<(LI l)) (ifB (v==GI l (Int.toNat (↑x:Int))) (RT ((↑x:Int)=MC (fun (d:Int)=>v==d) l N0)) ((SM (QEL l)/\SM (ZI v)/\SM D.unk/\SM (ZI (LI l))/\True)/\∃(y:Nat),QqV v l y/\LN l-y<LN l-x/\(IntKind.wrap IntKind.i64 ((↑x:Int)+Z1)=(↑y:Int)/\True)/\True/\True))) (RT ((-1:Int)=MC (fun (d:Int)=>v==d) l N0))) (by kernel_rfl) ?_
 delta GI LI LN N0 N1 SI SM Z0 Z1 ZI QqV QEL RT
 simp only[Int.toNat_natCast,Bg,Be,decide_eq_true_eq,decide_eq_false_iff_not,true_and,and_true,exists_const]
 simp only[maxLen] at hl
 refine⟨⟨0,⟨Nat.zero_le _,by simp⟩,rfl⟩,fun i hh=>⟨fun hlt=>?_,fun hge=>(hh.done hge).symm⟩⟩
 have hlt':i<l.length:=by omega
 obtain ⟨s1,s2⟩:=hh.step hlt'
 exact⟨by omega,fun h=>(s1 h).symm,fun h=>⟨i+1,s2 h,by omega,Bb (by omega) (by omega)⟩⟩
noncomputable def Eneg(l:List Int):Senv:={ EC CK 19 2 [4,5,7,8,9,16] (fun _=>([],[])) with
 ann:=fun b _ _=>match b with
  |0=>some (annI (fun d=>decide (d<0)) l [0,1,6,7])
  |_=>none }
noncomputable section
def QqW(a:List Int)(b:Nat):Prop:=IdxHead (fun (d:Int)=>decide (d<Z0)) a b
def QtN(a:List Int):Int:=MC (fun (d:Int)=>decide (d<Z0)) a N0
def QEM(a:List Int):D:=SI a
end
theorem BmH(l:List Int)(hl:l.length<=maxLen):ACalls Tryz.prog 156 [isl l .any,.fn (.func 145) [] []] ⟨[],[]⟩ (SpecR (sC [isl l .any,.fn (.func 145) [] []] (.int .i64 (MC (fun d=>decide (d<0)) l 0))) ()):=by
 refine Bh (A:=sC _ _) (x:=()) (E:=Eneg l) (eOk BE rfl) Tryz.func156 rfl (by kernel_rfl) rfl (by simp[sC,Eneg,EC,E0]) ?_
 refine Bl (T :=
  (∃(x:Nat),QqW l x/\(Z0=(↑x:Int)/\True)/\True/\True)/\∀(x:Nat),QqW l x->ifB (decide ((↑x:Int)<(LI l))) (Bf (Z0<=(↑x:Int)/\(↑x:Int)<(LI l)) (True/\ifB (decide (GI l (Int.toNat (↑x:Int))<Z0)) (RT ((↑x:Int)=QtN l)) ((SM (QEM l)/\SM (D.fn (Fn.func (145:Nat)) [] [])/\SM D.unk/\SM (ZI (LI l))/\True)/\∃(y:Nat),QqW l y/\LN l-y<LN l-x/\(IntKind.wrap IntKind.i64 ((↑x:Int)+Z1)=(↑y:Int)/\True)/\True/\True))) (RT ((-1:Int)=QtN l))) (by kernel_rfl) ?_
 delta GI LI LN N0 N1 SI SM Z0 Z1 ZI QqW QtN QEM RT
 simp only[Int.toNat_natCast,Bg,Be,decide_eq_true_eq,decide_eq_false_iff_not,true_and,and_true,exists_const]
 simp only[maxLen] at hl
 refine⟨⟨0,⟨Nat.zero_le _,by simp⟩,rfl⟩,fun i hh=>⟨fun hlt=>?_,fun hge=>(hh.done hge).symm⟩⟩
 have hlt':i<l.length:=by omega
 obtain ⟨s1,s2⟩:=hh.step hlt'
 exact⟨by omega,fun h=>(s1 (decide_eq_true h)).symm,fun h=>⟨i+1,s2 (decide_eq_false h),by omega,Bb (by omega) (by omega)⟩⟩
theorem BU(l:List Int):IntsP l.length (fun i=>[D.int .i64 (l.getD i 0)]):=fun _ _=>rfl
def Bbj:Con:=fun k ds S=>match k with
 |160=>match ds with
  | [.sl 1 n f _,.int .i64 v]=>some (pC ds (.int .i64 (MC (fun d=>v==d) (Bu n f) 0)) (IntsP n f/\n<=maxLen))
  |_=>none
 |156=>match ds with
  | [.sl 1 n f _,.fn (.func 145) [] []]=>some (pC ds (.int .i64 (MC (fun d=>decide (d<0)) (Bu n f) 0)) (IntsP n f/\n<=maxLen))
  |_=>none
 |146=>match ds with
  | [.sl 1 n f _]=>some (pC ds (.bool (Ge (Bu n f))) (IntsP n f))
  |_=>none
 |158=>match ds with
  | [.sl 1 n f _]=>some (pC ds (.int .i64 ((goO (Bu n f) 1).getD 65537)) (IntsP n f/\(∀z∈Bu n f,0<=z)/\n<=maxLen))
  |_=>none
 |k=>conR k ds S
theorem Ck(n:Nat)(f:Nat->List D):(Bu n f).length=n:=by simp[Bu]
theorem CU{k:Nat}{ds us:List D}{d:D}(hw:BS ds us)(h:ACalls Tryz.prog k us ⟨[],[]⟩ (SpecR (sC us d) ())):ACalls Tryz.prog k ds ⟨[],[]⟩ (SpecR (sC ds d) ()) :=
 (ACalls.weakArgs h hw).mono fun _ _ ⟨_,_h1,h2,h3⟩=>⟨(),trivial,h2,h3⟩
theorem Uc:ConOk Tryz.prog Bbj:=by
 intro k ds S A h
 unfold Bbj at h
 split at h
 ·split at h
  ·injection h with h;subst h
   exact C4 fun ⟨h1,h2⟩=>⟨Bo _,CU (us:=[isl (Bu _ _) .any,_]) ⟨(CN h1).1,BY _,trivial⟩ (Bmd _ _ (by rw[Ck];exact h2))⟩
  ·cases h
 ·split at h
  ·injection h with h;subst h
   exact C4 fun ⟨h1,h2⟩=>⟨Bo _,CU (us:=[isl (Bu _ _) .any,_]) ⟨(CN h1).1,BY _,trivial⟩ (BmH _ (by rw[Ck];exact h2))⟩
  ·cases h
 ·split at h
  ·injection h with h;subst h
   exact C4 fun h1=>⟨Bo _,CU (CN h1) (Bh4 _)⟩
  ·cases h
 ·split at h
  ·injection h with h;subst h
   exact C4 fun ⟨h1,h2,h3⟩=>⟨Bo _,CU (CN h1) (Bj7 _ h2 (by rw[Ck];exact h3))⟩
  ·cases h
 ·exact BkJ _ _ _ _ h
noncomputable def Eprod(l:List Int):Senv:={ EC Bbj 19 1 [2,3,5,7,8,9,10,11] (fun _=>([],[])) with
 ann:=fun b _ _=>match b with
  |0=>some { slots:=[10,3],keep:=[8,9],α:=Nat×Int,st:=fun y=>([.int .i64 y.1,.int .i64 y.2],⟨[],[]⟩),inv:=fun y=>GoHead l y.1 y.2,mu:=fun y=>l.length-y.1 }
  |_=>none }
noncomputable section
def QEN(a:List Int):D:=SI a
end
theorem Bll(l:List Int)(h:Ge l=true):ACalls Tryz.prog 157 [isl l .any] ⟨[],[]⟩ (SpecR (sC [isl l .any] (.int .i64 (Ec l))) ()):=by
 refine Bh (A:=sC _ _) (x:=()) (E:=Eprod l) (eOk Uc rfl) Tryz.func157 rfl (by kernel_rfl) rfl (by simp[sC,Eprod,EC,E0]) ?_
 refine Bl (T :=
  ((IntsP (LN l) fun i=>[ZI (GI l i)])/\LN l<=9223372036854775807)/\∀(y:Unit),True->True/\ifB (decide (Z0<=MC (fun (d:Int)=>Z0==d) (Bu (LN l) fun i=>[ZI (GI l i)]) N0)) (RT (Z0=Ec l)) ((∃(x:Nat×Int),GoHead l x.1 x.2/\(Z0=(NI x.1)/\Z1=x.2/\True)/\True/\True)/\∀(x:Nat×Int),GoHead l x.1 x.2->ifB (decide ((NI x.1)<(LI l))) (Bf (Z0<=(NI x.1)/\(NI x.1)<(LI l)) ((SM (QEN l)/\SM (ZI (LI l))/\True)/\∃(y:Nat×Int),GoHead l y.1 y.2/\LN l-y.1<LN l-x.1/\(IntKind.wrap IntKind.i64 ((NI x.1)+Z1)=(NI y.1)/\IntKind.wrap IntKind.i64 (x.2*GI l (TN x.1))=y.2/\True)/\True/\True)) (RT (x.2=Ec l)))) (by kernel_rfl) ?_
 delta GI LI LN N0 N1 NI SI SM TN Z0 Z1 ZI QEN RT
 simp only[CL,Bad,Int.toNat_natCast,Bg,Be,decide_eq_true_eq,decide_eq_false_iff_not,true_and,and_true,exists_const]
 simp only[Ge,Bool.and_eq_true,decide_eq_true_eq] at h
 have hcon:(l.any fun d=>0==d)=l.contains 0:=by
  rw[Bool.eq_iff_iff,List.contains_iff_mem,List.any_eq_true]
  constructor
  ·rintro ⟨z,hz,e⟩
   have e:0=z:=by simpa using e
   rw[e];exact hz
  ·exact fun hm=>⟨0,hm,rfl⟩
 rw[hcon]
 refine⟨⟨BU l,by omega⟩,fun _ _=>⟨fun hz=>by rw[Ec,if_pos hz],fun hz=>⟨⟨(0,1),GoHead.init l,rfl,rfl⟩,?_⟩⟩⟩
 rintro ⟨i,p⟩ hh
 simp only at hh ⊢
 refine⟨fun hlt=>?_,fun hge=>by rw[Ec,if_neg (by rw[hz];exact Bool.false_ne_true),hh.done hge];rfl⟩
 have hlt':i<l.length:=by omega
 obtain ⟨s1,s2,s3,s4⟩:=hh.step hlt'
 have hne:l.getD i 0≠0:=by
  intro e
  have:l.contains 0=true:=by
   rw[List.contains_iff_mem,<- e,List.getD_eq_getElem?_getD,List.getElem?_eq_getElem hlt'];exact List.getElem_mem hlt'
  rw[this] at hz;cases hz
 have n1:¬l.getD i 0<0:=fun e=>by rw[s1 e] at h;exact absurd h.2 (by simp)
 have n2:¬65536<l.getD i 0:=fun e=>by rw[s2 e] at h;exact absurd h.2 (by simp)
 obtain ⟨b1,b2,s5,s6⟩:=s4 n1 n2
 have n3:¬65536<p*l.getD i 0:=fun e=>by rw[s5 e hne] at h;exact absurd h.2 (by simp)
 exact⟨by omega,(i+1,p*l.getD i 0),s6 n3 hne,by simp only;omega,Bb (by omega) (by omega),Bb (by omega) (by omega)⟩
noncomputable def Edims(l:List Int):Senv:={ EC Bbj 21 1 [2,3,6,10,17,20] (fun _=>([],[])) with
 ann:=fun b _ _=>match b with
  |0=>some { slots:=[3],keep:=[0],α:=Nat,st:=fun i=>([.int .i64 i],⟨[],[]⟩),inv:=fun i=>i<=l.length/\∀z∈l.take i,0<=z,mu:=fun i=>l.length-i }
  |_=>none }
theorem Bcm:∀(l:List Int) (p:Int),p<=65536->∀q,goO l p=some q->q<=65536
 | [],p,hp,q,h=>by rw[goO] at h;injection h with h;omega
 |d::r,p,hp,q,h=>by
  rw[goO] at h
  split at h
  ·cases h
  ·split at h
   ·exact Bcm r p hp q h
   ·split at h
    ·cases h
    ·exact Bcm r _ (by omega) q h
def Eb(s:List Int):Int:=if 8<s.length then 15 else if s.any (fun d=>decide (d<0)) then 16 else if (goO s 1).isSome then 0 else 21
noncomputable section
def Qmo(a:List Int):Int:=Eb a
def QqX(a:Nat)(b:List Int):Prop:=a<=LN b/\∀(z:Int),z∈List.take a b->Z0<=z
def QEO(a:List Int):D:=SI a
def QtO(a:List Int):List Int:=Bu (LN a) fun i=>[ZI (GI a i)]
end
theorem BkH(l:List Int):ACalls Tryz.prog 150 [isl l .any] ⟨[],[]⟩ (SpecR (sC [isl l .any] (.int .i64 (Eb l))) ()):=by
 refine Bh (A:=sC _ _) (x:=()) (E:=Edims l) (eOk Uc rfl) Tryz.func150 rfl (by kernel_rfl) rfl (by simp[sC,Edims,EC,E0]) ?_
 refine Bl (T :=
  ifB (decide ((8:Int)<(LI l))) (RT ((15:Int)=Qmo l)) ((∃(x:Nat),QqX x l/\(Z0=(↑x:Int)/\True)/\True/\True)/\∀(x:Nat),QqX x l->ifB (decide ((↑x:Int)<(LI l))) (Bf (Z0<=(↑x:Int)/\(↑x:Int)<(LI l)) (ifB (decide (GI l (Int.toNat (↑x:Int))<Z0)) (RT ((16:Int)=Qmo l)) ((SM (QEO l)/\True)/\∃(y:Nat),QqX y l/\LN l-y<LN l-x/\(IntKind.wrap IntKind.i64 ((↑x:Int)+Z1)=(↑y:Int)/\True)/\True/\True))) (((IntsP (LN l) fun i=>[ZI (GI l i)])/\(∀(z:Int),z∈QtO l->Z0<=z)/\LN l<=9223372036854775807)/\∀(y:Unit),True->ifB (decide ((65536:Int)<Option.getD (goO (QtO l) Z1) (65537:Int))) (RT ((21:Int)=Qmo l)) (RT (Z0=Qmo l))))) (by kernel_rfl) ?_
 delta GI LI LN N1 SI SM Z0 Z1 ZI Qmo QqX QEO QtO RT
 simp only[CL,Int.toNat_natCast,Bg,Be,decide_eq_true_eq,decide_eq_false_iff_not,true_and,and_true,exists_const]
 have tk:∀i,i<l.length->∀P:Int->Prop,(∀z∈l.take i,P z)->P (l.getD i 0)->∀z∈l.take (i+1),P z:=fun i hi P h1 h2 z hz=>by
  rw[List.take_add_one,List.mem_append] at hz
  rcases hz with hz | hz
  ·exact h1 z hz
  ·rw[List.getElem?_eq_getElem hi] at hz
   simp at hz
   rw[hz]
   simpa[List.getD_eq_getElem?_getD,hi] using h2
 refine⟨fun h=>?_,fun h8=>⟨⟨0,⟨Nat.zero_le _,by simp⟩,rfl⟩,fun i hh=>⟨fun hlt=>?_,fun hge=>?_⟩⟩⟩
 ·have:8<l.length:=by omega
  simp[Eb,this]
 ·have hlt':i<l.length:=by omega
  have h8':¬8<l.length:=by omega
  refine⟨by omega,fun h=>?_,fun h=>⟨i+1,⟨by omega,tk i hlt' _ hh.2 (by omega)⟩,by omega,Bb (by omega) (by omega)⟩⟩
  have:l.any (fun d=>decide (d<0))=true:=by
   rw[List.any_eq_true]
   refine⟨l.getD i 0,?_,decide_eq_true h⟩
   rw[List.getD_eq_getElem?_getD,List.getElem?_eq_getElem hlt'];exact List.getElem_mem hlt'
  rw[Eb,if_neg h8',if_pos this]
 ·have hi:i=l.length:=by omega
  rw[hi,List.take_length] at hh
  have h8':¬8<l.length:=by omega
  have hnn:¬l.any (fun d=>decide (d<0))=true:=by
   rw[List.any_eq_true]
   rintro ⟨z,hz,h⟩
   have:=hh.2 z hz
   simp at h
   omega
  refine⟨⟨BU l,hh.2,by omega⟩,fun _ _=>?_⟩
  rw[Eb,if_neg h8',if_neg hnn]
  have hb:=Bcm l 1 (by omega)
  cases hg:goO l 1 with
  |none=>simp
  |some p=>have:=hb p hg;simp;omega
noncomputable def Ecount(l:List Int):Senv:={ EC Bbj 17 1 [2,3,7,14] (fun _=>([],[])) with
 ann:=fun b _ _=>match b with
  |0=>some { slots:=[3],keep:=[0],α:=Nat,st:=fun i=>([.int .i64 i],⟨[],[]⟩),inv:=fun i=>i<=l.length/\∀z∈l.take i,z≠0,mu:=fun i=>l.length-i }
  |_=>none }
noncomputable section
def QqY(a:Nat)(b:List Int):Prop:=a<=LN b/\∀(z:Int),z∈List.take a b->z≠Z0
def QEP(a:List Int):D:=SI a
def QtP(a:List Int):List Int:=Bu (LN a) fun i=>[ZI (GI a i)]
end
theorem Bik(l:List Int)(h:Eb l=0):ACalls Tryz.prog 152 [isl l .any] ⟨[],[]⟩ (SpecR (sC [isl l .any] (.int .i64 (Ec l))) ()):=by
 refine Bh (A:=sC _ _) (x:=()) (E:=Ecount l) (eOk Uc rfl) Tryz.func152 rfl (by kernel_rfl) rfl (by simp[sC,Ecount,EC,E0]) ?_
 refine Bl (T :=
  (∃(x:Nat),QqY x l/\(Z0=(↑x:Int)/\True)/\True/\True)/\∀(x:Nat),QqY x l->ifB (decide ((↑x:Int)<(LI l))) (Bf (Z0<=(↑x:Int)/\(↑x:Int)<(LI l)) (ifB (GI l (Int.toNat (↑x:Int))==Z0) (RT (Z0=Ec l)) ((SM (QEP l)/\True)/\∃(y:Nat),QqY y l/\LN l-y<LN l-x/\(IntKind.wrap IntKind.i64 ((↑x:Int)+Z1)=(↑y:Int)/\True)/\True/\True))) (((IntsP (LN l) fun i=>[ZI (GI l i)])/\(∀(z:Int),z∈QtP l->Z0<=z)/\LN l<=9223372036854775807)/\∀(y:Unit),True->RT (Option.getD (goO (QtP l) Z1) (65537:Int)=Ec l))) (by kernel_rfl) ?_
 delta GI LI LN N1 SI SM Z0 Z1 ZI QqY QEP QtP RT
 simp only[CL,Int.toNat_natCast,Bg,Be,decide_eq_true_eq,decide_eq_false_iff_not,true_and,and_true,exists_const]
 have tk:∀i,i<l.length->∀P:Int->Prop,(∀z∈l.take i,P z)->P (l.getD i 0)->∀z∈l.take (i+1),P z:=fun i hi P h1 h2 z hz=>by
  rw[List.take_add_one,List.mem_append] at hz
  rcases hz with hz | hz
  ·exact h1 z hz
  ·rw[List.getElem?_eq_getElem hi] at hz
   simp at hz
   rw[hz]
   simpa[List.getD_eq_getElem?_getD,hi] using h2
 have hl8:l.length<=8:=by
  unfold Eb at h
  split at h
  ·cases h
  ·omega
 have hnn:∀z∈l,0<=z:=by
  intro z hz
  unfold Eb at h
  split at h
  ·cases h
  ·split at h
   ·cases h
   ·rename_i hn
    rw[List.any_eq_true] at hn
    by_cases h0:z<0
    ·exact (hn ⟨z,hz,decide_eq_true h0⟩).elim
    ·omega
 have hg:(goO l 1).isSome=true:=by
  unfold Eb at h
  (repeat' split at h)<;>first | assumption | (cases h;done)
 refine⟨⟨0,⟨Nat.zero_le _,by simp⟩,rfl⟩,fun i hh=>⟨fun hlt=>?_,fun hge=>?_⟩⟩
 ·have hlt':i<l.length:=by omega
  refine⟨by omega,fun h=>?_,fun h=>⟨i+1,⟨by omega,tk i hlt' _ hh.2 (by simpa using h)⟩,by omega,Bb (by omega) (by omega)⟩⟩
  have h0:l.getD i 0=0:=by simpa using h
  have:l.contains 0=true:=by
   rw[List.contains_iff_mem,<- h0,List.getD_eq_getElem?_getD,List.getElem?_eq_getElem hlt'];exact List.getElem_mem hlt'
  rw[Ec,if_pos this]
 ·have hi:i=l.length:=by omega
  rw[hi,List.take_length] at hh
  refine⟨⟨BU l,hnn,by omega⟩,fun _ _=>?_⟩
  have:¬l.contains 0=true:=by
   rw[List.contains_iff_mem]
   exact fun hm=>hh.2 0 hm rfl
  rw[Ec,if_neg this]
  cases hgo:goO l 1 with
  |none=>rw[hgo] at hg;cases hg
  |some p=>rfl
def Cg(k:Int)(s:List Int)(nn ni:Nat):Int :=
 if k=1\/k=2\/k=3 then
  if Eb s≠0 then Eb s
  else if ((if k=3 then (ni:Int) else nn)≠Ec s)\/((if k=3 then (nn:Int) else ni)≠0) then 16 else 0
 else 14
def Bbm:Con:=fun k ds S=>match k with
 |157=>match ds with
  | [.sl 1 n f _]=>some (pC ds (.int .i64 (Ec (Bu n f))) (IntsP n f/\Ge (Bu n f)=true))
  |_=>none
 |150=>match ds with
  | [.sl 1 n f _]=>some (pC ds (.int .i64 (Eb (Bu n f))) (IntsP n f))
  |_=>none
 |152=>match ds with
  | [.sl 1 n f _]=>some (pC ds (.int .i64 (Ec (Bu n f))) (IntsP n f/\Eb (Bu n f)=0))
  |_=>none
 |k=>Bbj k ds S
theorem Ud:ConOk Tryz.prog Bbm:=by
 intro k ds S A h
 unfold Bbm at h
 split at h
 ·split at h
  ·injection h with h;subst h
   exact C4 fun ⟨h1,h2⟩=>⟨Bo _,CU (CN h1) (Bll _ h2)⟩
  ·cases h
 ·split at h
  ·injection h with h;subst h
   exact C4 fun h1=>⟨Bo _,CU (CN h1) (BkH _)⟩
  ·cases h
 ·split at h
  ·injection h with h;subst h
   exact C4 fun ⟨h1,h2⟩=>⟨Bo _,CU (CN h1) (Bik _ h2)⟩
  ·cases h
 ·exact Uc _ _ _ _ h
noncomputable def Eform:Senv:=EC Bbm 44 5 [12,13,16,20,25,29,34] (fun id=>match id with | 1=>([0,1,2,3,4,5,6,7],[]) | _=>([],[]))
noncomputable section
def HO(a:Int)(b:List Int)(c d:Nat):Int:=Cg a b c d
def QcC(a:List Int):Prop:=IntsP (LN a) fun i=>[ZI (GI a i)]
def QtQ(a:List Int):Prop:=QcC a/\LN a<=9223372036854775807
def QqZ(a:List Int):List Int:=Bu (LN a) fun i=>[ZI (GI a i)]
def QtR(a:List Int):Bool:=decide (Z0<=MC (fun (d:Int)=>decide (d<Z0)) (QqZ a) N0)
def Qce(a:Int)(b:List Int)(c d:Nat):Prop:=RT ((16:Int)=HO a b c d)
def QtS(a:List Int):Bool:=Ge (QqZ a)
def Qmp(a:List Int):Bool:=!QtS a
def QtT(a:Int)(b:List Int)(c d:Nat):Prop:=True/\Qce a b c d
def QtU(a:List Int):Prop:=QcC a/\QtS a=true
def QtV(a:Nat)(b:List Int):Bool:=(↑a:Int) != Ec (QqZ b)
def QtW(a:Nat)(b:List Int)(c:Int)(d e:Nat):Prop:=SM a/\ifB (decide ((8:Int)<(LI b))) (RT ((15:Int)=HO c b d e)) (SM a/\QtQ b/\∀(y:Unit),True->True/\ifB (QtR b) (Qce c b d e) (SM a/\QcC b/\∀(y:Unit),True->ifB (Qmp b) (RT ((21:Int)=HO c b d e)) (SM a/\QcC b/\∀(y:Unit),True->ifB (Qmp b) (QtT c b d e) (QtU b/\∀(y:Unit),True->True/\ifB (QtV d b) (Qce c b d e) (ifB ((↑e:Int) != Z0) (Qce c b d e) (RT (Z0=HO c b d e)))))))
def QtX(a:Int)(b:Nat)(c:List Int)(d e:Nat):Prop:=ifB (a==3) (SM b/\ifB (decide ((8:Int)<(LI c))) (RT ((15:Int)=HO a c d e)) (SM b/\QtQ c/\∀(y:Unit),True->True/\ifB (QtR c) (Qce a c d e) (SM b/\QcC c/\∀(y:Unit),True->ifB (Qmp c) (RT ((21:Int)=HO a c d e)) (SM b/\QcC c/\∀(y:Unit),True->ifB (Qmp c) (QtT a c d e) (QtU c/\∀(y:Unit),True->True/\ifB (QtV e c) (Qce a c d e) (ifB ((↑d:Int) != Z0) (Qce a c d e) (RT (Z0=HO a c d e)))))))) (RT ((14:Int)=HO a c d e))
end
theorem Blb(k : Int)(s : List Int)(nn ni : Nat)(g h : Nat -> List D)(hs : s.length<=maxLen)(hn : nn<=maxLen)(hi : ni<=maxLen) :
  ACalls Tryz.prog 137 [.agg [.int .i64 k,isl s .any,.sl 1 nn g .any,.sl 4 ni h .any]] ⟨[],[]⟩ (SpecR (sC [.agg [.int .i64 k,isl s .any,.sl 1 nn g .any,.sl 4 ni h .any]] (.int .i64 (Cg k s nn ni))) ()):=by
 refine Bh (A:=sC _ _) (x:=()) (E:=Eform) (eOk Ud rfl) Tryz.func137 rfl (by kernel_rfl) rfl (by simp[sC,Eform,EC,E0]) ?_
 refine Bl (T :=
  ∀(x:Nat),True->SM x/\SM x/\SM x/\ifB (k==Z1) (ifB (k==Z1) (QtW x s k nn ni) (QtX k x s nn ni)) (ifB (k==2) (QtW x s k nn ni) (QtX k x s nn ni))) (by kernel_rfl) ?_
 delta GI LI LN N0 SM Z0 Z1 ZI HO QcC QtV QtW QtX QtQ QqZ QtR Qce QtS Qmp QtT QtU RT
 simp only[CL,Bad,Int.toNat_natCast,Bg,Be,decide_eq_true_eq,decide_eq_false_iff_not,true_and,and_true,beq_iff_eq,bne_iff_ne,Bool.cond_false_right,Bool.cond_true_left,Bool.and_eq_true,Bool.and_eq_false_iff,beq_eq_false_iff_ne,ne_eq,exists_const,forall_const]
 simp only[maxLen] at hs hn hi
 have n8:(8<(s.length:Int))↔8<s.length:=by omega
 simp only[n8]
 repeat' (first
  |exact BU s
  |refine And.intro ?_ ?_
  |intro _)
 all_goals first
  |omega
  |(simp_all[Cg,Eb,Ge];done)
  |grind [Cg,Eb,Ge]
  |skip
 all_goals trace_state
def Arr.k:Arr->Int | .mk k _ _ _=>k
def Arr.sh:Arr->List Int | .mk _ s _ _=>s
def Arr.nu:Arr->List Int | .mk _ _ n _=>n
def Arr.it:Arr->List Arr | .mk _ _ _ i=>i
def Arr.row1(a:Arr):List D:=[.int .i64 a.k,isl a.sh .any,isl a.nu .any,gsl 4 Arr.row a.it]
def Arr.row2(a:Arr):List D:=[.int .i64 a.k,isl a.sh .any,isl a.nu .any,gsl 4 Arr.row1 a.it]
theorem BfZ(l:List Arr):(M0 l).length=l.length:=by rw[GZ];simp
theorem Bjm(a:Arr):wkL a.row a.row1:=by
 cases a with
 |mk k s n is =>
  simp only[Arr.row,Arr.row1,Arr.k,Arr.sh,Arr.nu,Arr.it,gsl,isl,wkL,wkD,Br,Ba]
  refine⟨⟨by simp[kEq],trivial⟩,⟨by simp,trivial,fun i _=>by simp[kEq],by simp[BG]⟩,⟨by simp,trivial,fun i _=>by simp[kEq],by simp[BG]⟩,⟨by simp,BfZ is,fun i hi=>?_,by simp[BG]⟩,trivial⟩
  rw[BfZ] at hi
  have:(M0 is).getD i []=(is.getD i default).row:=by
   rw[GZ];simp[List.getD_eq_getElem?_getD,hi]
  rw[this]
  exact Bc _
theorem Eh(a:Arr):wkL a.row1 a.row2:=by
 simp only[Arr.row1,Arr.row2,gsl,isl,wkL,wkD,Br,Ba]
 exact⟨⟨by simp[kEq],trivial⟩,⟨by simp,trivial,fun i _=>by simp[kEq],by simp[BG]⟩,⟨by simp,trivial,fun i _=>by simp[kEq],by simp[BG]⟩,⟨by simp,trivial,fun i _=>Bjm _,by simp[BG]⟩,trivial⟩
def Uf(z:Int):Bool:=decide (-4611686018427387903<=z)&&decide (z<=4611686018427387903)
def Ug(z:Int):Bool:=decide (0<=z)&&decide (z<=1114111)&&(decide (z<55296)||decide (57343<z))
def Ek(k z:Int):Bool:=(k==1&&!Uf z)||(k==2&&!Ug z)
mutual
def BB:Arr->Int×Int×Int
 |.mk k s n is =>
  if Cg k s n.length is.length≠0 then (Cg k s n.length is.length,0,0)
  else if n.any (Ek k) then (17,0,0)
  else match CP is 0 ((n.length:Int)+is.length) with
   |none=>(17,0,0)
   |some r=>if 16<r.1\/262144<r.2 then (21,0,0) else (0,r.1,r.2)
def CP:List Arr->Int->Int->Option (Int×Int)
 | [],d,w=>some (d,w)
 |x::r,d,w=>if (BB x).1≠0 then none else CP r (if d<(BB x).2.1+1 then (BB x).2.1+1 else d) (if 262145<w+(BB x).2.2 then 262145 else w+(BB x).2.2)
end
theorem Bdb:∀(l:List Arr) (d w d' w':Int),CP l d w=some (d',w')->0<=d->0<=w->(∀x∈l,(BB x).1=0->0<=(BB x).2.1/\0<=(BB x).2.2)->0<=d'/\0<=w'
 | [],d,w,d',w',h,h1,h2,_=>by
  rw[CP] at h;injection h with h;injection h with e1 e2;omega
 |x::r,d,w,d',w',h,h1,h2,h3=>by
  rw[CP] at h
  split at h
  ·cases h
  ·rename_i hx
   have hx:(BB x).1=0:=by simpa using hx
   have:=h3 x (by simp) hx
   refine Bdb r _ _ d' w' h ?_ ?_ fun y hy=>h3 y (by simp[hy])
   ·split<;>omega
   ·split<;>omega
theorem C3:∀(a:Arr),(0<=(BB a).2.1/\(BB a).2.1<=16)/\0<=(BB a).2.2/\(BB a).2.2<=262144
 |.mk k s n is=>by
  rw[BB]
  split
  ·simp
  ·split
   ·simp
   ·split
    ·simp
    ·rename_i r hr
     split
     ·simp
     ·rename_i hb
      have:=Bdb is 0 _ r.1 r.2 hr (by omega) (by omega) fun x hx _=>by
       have:=C3 x
       omega
      simp only
      omega
termination_by a=>SizeOf.sizeOf a
decreasing_by
 have:=List.sizeOf_lt_of_mem hx
 simp;omega
mutual
inductive Nd where
 |mk (kd at_ cl:Int) (tx:List UInt8) (pr op:Int) (va:Arr) (ki:List Nd) (bo:List Sm) (de sl ss:Int)
inductive Sm where
 |mk (kd at_:Int) (nm:List UInt8) (sl:Int) (te nd:Nd)
end
def Nd.kd:Nd->Int | .mk x _ _ _ _ _ _ _ _ _ _ _=>x
def Nd.at_:Nd->Int | .mk _ x _ _ _ _ _ _ _ _ _ _=>x
def Nd.cl:Nd->Int | .mk _ _ x _ _ _ _ _ _ _ _ _=>x
def Nd.tx:Nd->List UInt8 | .mk _ _ _ x _ _ _ _ _ _ _ _=>x
def Nd.pr:Nd->Int | .mk _ _ _ _ x _ _ _ _ _ _ _=>x
def Nd.op:Nd->Int | .mk _ _ _ _ _ x _ _ _ _ _ _=>x
def Nd.va:Nd->Arr | .mk _ _ _ _ _ _ x _ _ _ _ _=>x
def Nd.ki:Nd->List Nd | .mk _ _ _ _ _ _ _ x _ _ _ _=>x
def Nd.bo:Nd->List Sm | .mk _ _ _ _ _ _ _ _ x _ _ _=>x
def Nd.de:Nd->Int | .mk _ _ _ _ _ _ _ _ _ x _ _=>x
def Nd.sl:Nd->Int | .mk _ _ _ _ _ _ _ _ _ _ x _=>x
def Nd.ss:Nd->Int | .mk _ _ _ _ _ _ _ _ _ _ _ x=>x
def Sm.kd:Sm->Int | .mk x _ _ _ _ _=>x
def Sm.at_:Sm->Int | .mk _ x _ _ _ _=>x
def Sm.nm:Sm->List UInt8 | .mk _ _ x _ _ _=>x
def Sm.sl:Sm->Int | .mk _ _ _ x _ _=>x
def Sm.te:Sm->Nd | .mk _ _ _ _ x _=>x
def Sm.nd:Sm->Nd | .mk _ _ _ _ _ x=>x
def nd0:Nd:=.mk 0 0 0 [] 0 0 (.mk 0 [] [] []) [] [] 0 0 0
instance:Inhabited Nd:=⟨nd0⟩
instance:Inhabited Sm:=⟨.mk 0 0 [] 0 nd0 nd0⟩
def lsl(w:Nat)(l:List (List D)):D:=.sl w l.length (fun i=>l.getD i []) .any
mutual
def Nd.row:Nd->List D
 |.mk kd at_ cl tx pr op va ki bo de sl ss=>[.int .i64 kd,.int .i64 at_,.int .i64 cl,.str tx,.int .i64 pr,.int .i64 op,.int .i64 va.k,isl va.sh .any,isl va.nu .any,gsl 4 Arr.row va.it,lsl 15 (Ii ki),lsl 34 (CV bo),.int .i64 de,.int .i64 sl,.int .i64 ss]
def Sm.row:Sm->List D
 |.mk kd at_ nm sl te nd=>.int .i64 kd::.int .i64 at_::.str nm::.int .i64 sl::(te.row++nd.row)
def Ii:List Nd->List (List D)
 | []=>[]
 |x::r=>x.row::Ii r
def CV:List Sm->List (List D)
 | []=>[]
 |x::r=>x.row::CV r
end
mutual
def Nd.ok:Nd->Prop
 |.mk kd at_ cl _ pr op va ki bo de sl ss=>(Cs kd/\Cs at_/\Cs cl/\Cs pr/\Cs op/\Cs de/\Cs sl/\Cs ss)/\va.ok/\IE ki/\GM bo
def Sm.ok:Sm->Prop
 |.mk kd at_ _ sl te nd=>(Cs kd/\Cs at_/\Cs sl)/\te.ok/\nd.ok
def IE:List Nd->Prop
 | []=>True
 |x::r=>x.ok/\IE r
def GM:List Sm->Prop
 | []=>True
 |x::r=>x.ok/\GM r
end
mutual
/-- Nothing in it is longer than a machine's memory. -/
def Nd.sm:Nd->Prop
 |.mk _ _ _ tx _ _ va ki bo _ _ _=>(tx.length<=BX/\ki.length<=BX/\bo.length<=BX)/\va.sm/\IF ki/\GL bo
def Sm.sm:Sm->Prop
 |.mk _ _ nm _ te nd=>nm.length<=BX/\te.sm/\nd.sm
def IF:List Nd->Prop
 | []=>True
 |x::r=>x.sm/\IF r
def GL:List Sm->Prop
 | []=>True
 |x::r=>x.sm/\GL r
end
theorem G8:∀(l:List Nd),Ii l=l.map Nd.row
 | []=>by simp only[Ii,List.map_nil]
 |a::l=>by simp only[Ii,List.map_cons,G8 l]
theorem CA:∀(l:List Sm),CV l=l.map Sm.row
 | []=>by simp only[CV,List.map_nil]
 |a::l=>by simp only[CV,List.map_cons,CA l]
theorem UC:∀(l:List Nd),IE l↔∀a∈l,a.ok
 | []=>by simp[IE]
 |a::l=>by simp only[IE,List.forall_mem_cons,UC l]
theorem Oy:∀(l:List Sm),GM l↔∀a∈l,a.ok
 | []=>by simp[GM]
 |a::l=>by simp only[GM,List.forall_mem_cons,Oy l]
theorem UJ:∀(l:List Nd),IF l↔∀a∈l,a.sm
 | []=>by simp[IF]
 |a::l=>by simp only[IF,List.forall_mem_cons,UJ l]
theorem IS:∀(l:List Sm),GL l↔∀a∈l,a.sm
 | []=>by simp[GL]
 |a::l=>by simp only[GL,List.forall_mem_cons,IS l]
def Nd.rowE(n:Nd):List D:=[.int .i64 n.kd,.int .i64 n.at_,.int .i64 n.cl,.str n.tx,.int .i64 n.pr,.int .i64 n.op,.int .i64 n.va.k,isl n.va.sh .any,isl n.va.nu .any,gsl 4 Arr.row n.va.it,gsl 15 Nd.row n.ki,gsl 34 Sm.row n.bo,.int .i64 n.de,.int .i64 n.sl,.int .i64 n.ss]
def Nd.row1(n:Nd):List D:=n.rowE
def Sm.row1(s:Sm):List D:=.int .i64 s.kd::.int .i64 s.at_::.str s.nm::.int .i64 s.sl::(s.te.rowE++s.nd.rowE)
def Nd.row2(n:Nd):List D:=[.int .i64 n.kd,.int .i64 n.at_,.int .i64 n.cl,.str n.tx,.int .i64 n.pr,.int .i64 n.op,.int .i64 n.va.k,isl n.va.sh .any,isl n.va.nu .any,gsl 4 Arr.row n.va.it,gsl 15 Nd.row1 n.ki,gsl 34 Sm.row1 n.bo,.int .i64 n.de,.int .i64 n.sl,.int .i64 n.ss]
def Sm.row2(s:Sm):List D:=.int .i64 s.kd::.int .i64 s.at_::.str s.nm::.int .i64 s.sl::(s.te.row2++s.nd.row2)
theorem Tu:∀ {a a' b b':List D},wkL a a'->wkL b b'->wkL (a++b) (a'++b')
 | [],[],_,_,_,h=>h
 | [],_::_,_,_,h,_=>by simp[wkL] at h
 |_::_,[],_,_,h,_=>by simp[wkL] at h
 |x::a,y::a',b,b',h,h2=>by
  simp only[wkL,List.cons_append] at h ⊢
  exact⟨h.1,Tu h.2 h2⟩
theorem BeR{α:Type}[Inhabited α]{w:Nat}{g:α->List D}{l:List α}:wkD (lsl w (l.map g)) (gsl w g l):=by
 simp only[lsl,gsl,wkD,Ba]
 refine⟨by simp,by simp,fun i hi=>?_,by simp[BG]⟩
 have hi:i<l.length:=by simpa using hi
 have:(l.map g).getD i []=g (l.getD i default):=by simp[List.getD_eq_getElem?_getD,hi]
 rw[this]
 exact Bc _
theorem O8{α:Type}[Inhabited α]{w:Nat}{g g':α->List D}{l:List α}(h:∀x,wkL (g x) (g' x)):wkD (gsl w g l) (gsl w g' l):=by
 simp only[gsl,wkD,Ba]
 exact⟨by simp,trivial,fun i _=>h _,by simp[BG]⟩
theorem Bf0(n:Nd):wkL n.row n.row1:=by
 cases n with
 |mk kd at_ cl tx pr op va ki bo de sl ss =>
  simp only[Nd.row,Nd.row1,Nd.rowE,Nd.kd,Nd.at_,Nd.cl,Nd.tx,Nd.pr,Nd.op,Nd.va,Nd.ki,Nd.bo,Nd.de,Nd.sl,Nd.ss,wkL,G8,CA]
  exact⟨Bd _,Bd _,Bd _,Bd _,Bd _,Bd _,Bd _,Bd _,Bd _,Bd _,BeR,BeR,Bd _,Bd _,Bd _,trivial⟩
theorem BfW(s:Sm):wkL s.row s.row1:=by
 cases s with
 |mk kd at_ nm sl te nd =>
  simp only[Sm.row,Sm.row1,Sm.kd,Sm.at_,Sm.nm,Sm.sl,Sm.te,Sm.nd,wkL]
  exact⟨Bd _,Bd _,Bd _,Bd _,Tu (Bf0 _) (Bf0 _)⟩
theorem Mk(n:Nd):wkL n.row1 n.row2:=by
 simp only[Nd.row1,Nd.rowE,Nd.row2,wkL]
 exact⟨Bd _,Bd _,Bd _,Bd _,Bd _,Bd _,Bd _,Bd _,Bd _,Bd _,O8 Bf0,O8 BfW,Bd _,Bd _,Bd _,trivial⟩
theorem dn:(default:Nd)=Nd.mk 0 0 0 [] 0 0 (Arr.mk 0 [] [] []) [] [] 0 0 0:=of_eq_true (eq_true rfl)
theorem dm:(default:Sm)=Sm.mk 0 0 [] 0 (Nd.mk 0 0 0 [] 0 0 (Arr.mk 0 [] [] []) [] [] 0 0 0) (Nd.mk 0 0 0 [] 0 0 (Arr.mk 0 [] [] []) [] [] 0 0 0):=of_eq_true (eq_true rfl)
def RNd:List D->Prop:=fun ds=>∃n:Nd,(n.ok/\n.sm)/\ds=n.row
def RSm:List D->Prop:=fun ds=>∃s:Sm,(s.ok/\s.sm)/\ds=s.row
theorem Wq(W:World)(m:Nat)(hn:∀k,k<m->ReadAt Tryz.prog W k 48 RNd):ReadAt Tryz.prog W m 55 RSm:=by
 cases m with
 |zero=>exact .zero _ _
 |succ k =>
  refine (EV Tryz.underlying55 (by kernel_rfl) (Rs:=[RInt .i64,RInt .i64,RStr,RInt .i64,RNd,RNd]) ⟨Ix (by kernel_rfl) W k,Ix (by kernel_rfl) W k,U7 (by kernel_rfl) W k,Ix (by kernel_rfl) W k,hn k (Nat.lt_succ_self k),hn k (Nat.lt_succ_self k),trivial⟩).mono ?_
  rintro ds ⟨_,_,h1,⟨_,_,h2,⟨_,_,h3,⟨_,_,h4,⟨_,_,h5,⟨_,_,h6,h7,rfl⟩,rfl⟩,rfl⟩,rfl⟩,rfl⟩,rfl⟩
  obtain rfl:_=[]:=h7
  obtain ⟨kd,kd1,rfl⟩:=Ey _ h1
  obtain ⟨at_,at1,rfl⟩:=Ey _ h2
  obtain ⟨nm,rfl,nm1⟩:=h3
  obtain ⟨sl,sl1,rfl⟩:=Ey _ h4
  obtain ⟨te,⟨te1,te2⟩,rfl⟩:=h5
  obtain ⟨nd,⟨nd1,nd2⟩,rfl⟩:=h6
  refine⟨.mk kd at_ nm sl te nd,⟨?_,?_⟩,?_⟩
  ·simp only[Sm.ok]
   exact⟨⟨kd1,at1,sl1⟩,te1,nd1⟩
  ·simp only[Sm.sm]
   exact⟨nm1,te2,nd2⟩
  ·simp only[Sm.row,List.cons_append,List.nil_append,List.append_nil]
theorem BcH(W:World):∀n,ReadAt Tryz.prog W n 48 RNd:=by
 intro n
 induction n using Nat.strongRecOn with
 |_ n ih =>
  cases n with
  |zero=>exact .zero _ _
  |succ m =>
   have hk:ReadAt Tryz.prog W m 46 (RSliceA 15 RNd):=by
    cases m with
    |zero=>exact .zero _ _
    |succ k=>exact Eq (w:=15) Tryz.underlying46 (by kernel_rfl) (by decide) (by decide +kernel) (ih k (by omega))
   have hb:ReadAt Tryz.prog W m 22 (RSliceA 34 RSm):=by
    cases m with
    |zero=>exact .zero _ _
    |succ k=>exact Eq (w:=34) Tryz.underlying22 (by kernel_rfl) (by decide) (by decide +kernel) (Wq W k fun j hj=>ih j (by omega))
   have ri:∀t,Tryz.prog.underlying t=some (.int .i64)->ReadAt Tryz.prog W m t (RInt .i64):=fun t ht=>Ix ht W m
   refine (EV Tryz.underlying48 (by kernel_rfl) (Rs:=[RInt .i64,RInt .i64,RInt .i64,RStr,RInt .i64,RInt .i64,RArr,RSliceA 15 RNd,RSliceA 34 RSm,RInt .i64,RInt .i64,RInt .i64])
    ⟨ri _ (by kernel_rfl),ri _ (by kernel_rfl),ri _ (by kernel_rfl),U7 (by kernel_rfl) W m,ri _ (by kernel_rfl),ri _ (by kernel_rfl),Beb W m,hk,hb,ri _ (by kernel_rfl),ri _ (by kernel_rfl),ri _ (by kernel_rfl),trivial⟩).weak ?_
   rintro _ ds vs ⟨_,_,h1,⟨_,_,h2,⟨_,_,h3,⟨_,_,h4,⟨_,_,h5,⟨_,_,h6,⟨_,_,h7,⟨_,_,h8,⟨_,_,h9,⟨_,_,h10,⟨_,_,h11,⟨_,_,h12,h13,rfl⟩,rfl⟩,rfl⟩,rfl⟩,rfl⟩,rfl⟩,rfl⟩,rfl⟩,rfl⟩,rfl⟩,rfl⟩,rfl⟩ hr
   obtain rfl:_=[]:=h13
   obtain ⟨kd,kd1,rfl⟩:=Ey _ h1
   obtain ⟨at_,at1,rfl⟩:=Ey _ h2
   obtain ⟨cl,cl1,rfl⟩:=Ey _ h3
   obtain ⟨tx,rfl,tx1⟩:=h4
   obtain ⟨pr,pr1,rfl⟩:=Ey _ h5
   obtain ⟨op,op1,rfl⟩:=Ey _ h6
   obtain ⟨va,⟨va1,va2⟩,rfl⟩:=h7
   obtain ⟨l,l1,l2,rfl⟩:=h8
   obtain ⟨b,b1,b2,rfl⟩:=h9
   obtain ⟨de,de1,rfl⟩:=Ey _ h10
   obtain ⟨sl,sl1,rfl⟩:=Ey _ h11
   obtain ⟨ss,ss1,rfl⟩:=Ey _ h12
   obtain ⟨ki,qk,rfl⟩:=IL (g:=Nd.row) (Q:=fun a=>a.ok/\a.sm) (fun x hx=>hx) l l1
   obtain ⟨bo,qb,rfl⟩:=IL (g:=Sm.row) (Q:=fun a=>a.ok/\a.sm) (fun x hx=>hx) b b1
   have l2:ki.length<=BX:=by simpa using l2
   have b2:bo.length<=BX:=by simpa using b2
   refine⟨(Nd.mk kd at_ cl tx pr op va ki bo de sl ss).row,⟨_,⟨?_,?_⟩,rfl⟩,MW _ _ ?_ _ _ hr⟩
   ·simp only[Nd.ok]
    exact⟨⟨kd1,at1,cl1,pr1,op1,de1,sl1,ss1⟩,va1,(UC _).2 fun a ha=>(qk a ha).1,(Oy _).2 fun a ha=>(qb a ha).1⟩
   ·simp only[Nd.sm]
    exact⟨⟨tx1,l2,b2⟩,va2,(UJ _).2 fun a ha=>(qk a ha).2,(IS _).2 fun a ha=>(qb a ha).2⟩
   ·simp only[Nd.row,G8,CA,List.cons_append,List.nil_append,List.append_nil,wkL]
    refine⟨Bd _,Bd _,Bd _,Bd _,Bd _,Bd _,?_⟩
    have h:=Tu (Bjm va) (Bc (lsl 15 (ki.map Nd.row)::lsl 34 (bo.map Sm.row)::[D.int .i64 de,D.int .i64 sl,D.int .i64 ss]))
    simp only[Arr.row1,List.cons_append,List.nil_append] at h
    exact h
def dig(b:UInt8):Bool:=decide (48<=b.toNat)&&decide (b.toNat<=57)
def low(b:UInt8):Bool:=decide (97<=b.toNat)&&decide (b.toNat<=122)
def asc(s:String):List UInt8:=s.toUTF8.data.toList
def resL : List (List UInt8) := ["X", "Y", "F", "G", "self", "arg", "min", "max", "and", "or", "not", "shape", "reshape", "tally", "depth", "stack", "iota", "take", "drop", "first", "reverse", "rotate", "transpose", "from", "pick", "select", "amend", "up", "down", "sort", "find", "in", "unique", "where", "copy", "expand", "cut", "encode", "decode", "box", "open", "same", "kind", "ord", "chr", "format", "left", "right", "each", "swap", "outer", "inner", "rank", "power", "stencil", "atop", "over"].map asc
def sgnL : List (List UInt8) := ["+", "-", "*", "%", "|", "^", "<", "<=", "=", "~=", ">=", ">", ",", "/", "\\"].map asc
def R8(s:List UInt8):Bool:=resL.contains s||sgnL.contains s
structure Tok where
 kind:Int
 at_:Int
 len:Int
 num:Int
 text:List UInt8
deriving Inhabited,DecidableEq
def Tok.row(t:Tok):List D:=[.int .i64 t.kind,.int .i64 t.at_,.int .i64 t.len,.int .i64 t.num,.str t.text]
def Ef:List UInt8->List UInt8->Bool
 | [],_=>false
 |b::r,s=>(b==32&&decide (s.length<r.length)&&r.take s.length==s&&r.getD s.length 0==32)||Ef r s
def EO(t s:List UInt8):Bool:=!s.isEmpty&&s.all (fun b=>b != 32)&&Ef t s
def TQ(ws:List (List UInt8)):List UInt8:=ws.flatMap (fun w=>32::w)++[32]
theorem WJ(w:List UInt8)(ws:List (List UInt8)):TQ (w::ws)=32::(w++TQ ws):=by simp[TQ]
theorem BfE(ws:List (List UInt8)):∃r,TQ ws=32::r:=by
 cases ws with
 |nil=>exact⟨[],rfl⟩
 |cons w ws=>exact⟨_,WJ w ws⟩
theorem U6(s r:List UInt8):∀(w:List UInt8),(∀b∈w,b≠32)->Ef (w++r) s=Ef r s
 | [],_=>rfl
 |b::w,h=>by
  have hb:(b==32)=false:=by simpa using h b (by simp)
  simp only[List.cons_append,Ef,hb,Bool.false_and,Bool.false_or]
  exact U6 s r w fun c hc=>h c (by simp[hc])
theorem BeX{s w r : List UInt8}(hs : ∀b∈s, b≠32)(hw : ∀b∈w, b≠32) :
  (decide (s.length<(w++32::r).length)&&(w++32::r).take s.length==s&&(w++32::r).getD s.length 0==32)=(s==w):=by
 by_cases h:s=w
 ·subst h
  simp
 ·have h2:(s==w)=false:=by simpa using h
  rw[h2]
  by_cases h3:(w++32::r).take s.length=s
  ·by_cases h4:(w++32::r).getD s.length 0=32
   ·exfalso
    rcases Nat.lt_trichotomy s.length w.length with hl | hl | hl
    ·rw[List.getD_eq_getElem?_getD,List.getElem?_append_left hl,List.getElem?_eq_getElem hl] at h4
     exact hw _ (List.getElem_mem hl) h4
    ·rw[hl,List.take_left] at h3
     exact h h3.symm
    ·have:(32:UInt8)∈s:=by
      rw[<- h3]
      have:s.length=w.length+(s.length-w.length-1+1):=by omega
      rw[this,List.take_append]
      simp
     exact hs _ this rfl
   ·have h4:((w++32::r).getD s.length 0==32)=false:=by simpa using h4
    rw[h4,Bool.and_false]
  ·have h3:((w++32::r).take s.length==s)=false:=by simpa using h3
   rw[h3,Bool.and_false,Bool.false_and]
theorem Tm{s:List UInt8}(hs:∀b∈s,b≠32):∀(ws:List (List UInt8)),(∀w∈ws,∀b∈w,b≠32)->Ef (TQ ws) s=ws.contains s
 | [],_=>by simp[TQ,Ef]
 |w::ws,h=>by
  obtain ⟨r,hr⟩:=BfE ws
  have ih:=Tm hs ws fun v hv=>h v (by simp[hv])
  rw[WJ]
  simp only[Ef,beq_self_eq_true,Bool.true_and,List.contains_cons]
  rw[U6 s _ w (h w (by simp)),ih]
  congr 1
  rw[hr]
  exact BeX hs (h w (by simp))
theorem TB{s:List UInt8}(ws:List (List UInt8))(h:(ws.all fun w=>!w.isEmpty&&w.all fun b=>b != 32)=true):EO (TQ ws) s=ws.contains s:=by
 have h1:∀w∈ws,w≠[]/\∀b∈w,b≠32:=fun w hw=>by
  have:=List.all_eq_true.1 h w hw
  simp only[Bool.and_eq_true,Bool.not_eq_true',List.isEmpty_eq_false_iff,List.all_eq_true,bne_iff_ne] at this
  exact this
 unfold EO
 cases he:s.isEmpty with
 |true =>
  have:s=[]:=List.isEmpty_iff.1 he
  subst this
  cases hc:ws.contains [] with
  |false=>rfl
  |true=>exact ((h1 [] (by simpa using hc)).1 rfl).elim
 |false =>
  cases ha:s.all fun b=>b != 32 with
  |false =>
   cases hc:ws.contains s with
   |false=>rfl
   |true =>
    have:=(h1 s (by simpa using hc)).2
    rw[List.all_eq_false] at ha
    obtain ⟨b,hb,hb2⟩:=ha
    exact (this b hb (by simpa using hb2)).elim
  |true =>
   simp only[Bool.not_false,Bool.true_and]
   exact Tm (fun b hb=>by simpa using List.all_eq_true.1 ha b hb) ws fun w hw=>(h1 w hw).2
def Bdi : List UInt8 := asc " X Y F G self arg min max and or not shape reshape tally depth stack iota take drop first reverse rotate transpose from pick select amend up down sort find in unique where copy expand cut encode decode box open same kind ord chr format left right each swap outer inner rank power stencil atop over "
def BdK : List UInt8 := asc " + - * % | ^ < <= = ~= >= > , / \\ "
theorem Bd8:Bdi=TQ resL:=by decide +kernel
theorem BcV:BdK=TQ sgnL:=by decide +kernel
theorem Bdw(s:List UInt8):EO Bdi s=resL.contains s:=by rw[Bd8];exact TB _ (by decide +kernel)
theorem Bds(s:List UInt8):EO BdK s=sgnL.contains s:=by rw[BcV];exact TB _ (by decide +kernel)
def Tc(w:List UInt8):Bool:=!w.isEmpty&&low (w.getD 0 0)&&w.all fun b=>low b||dig b
def Cb(w:List UInt8):Bool:=Tc w&&decide (w.length<=32)&&!R8 w
def Bs(s:Sm):List Nd:=if s.kd=3 then [s.te,s.nd] else [s.nd]
def B0(n:Nd):List Nd:=n.ki++n.bo.flatMap Bs
mutual
def dpN:Nd->Nat
 |.mk _ _ _ _ _ _ _ ki bo _ _ _=>1+max (dpL ki) (dpB bo)
def dpL:List Nd->Nat
 | []=>0
 |x::r=>max (dpN x) (dpL r)
def dpB:List Sm->Nat
 | []=>0
 |x::r=>max (dpM x) (dpB r)
def dpM:Sm->Nat
 |.mk kd _ _ _ te nd=>if kd=3 then max (dpN te) (dpN nd) else dpN nd
end
mutual
def szN:Nd->Nat
 |.mk _ _ _ _ _ _ _ ki bo _ _ _=>1+szL ki+szB bo
def szL:List Nd->Nat
 | []=>0
 |x::r=>szN x+szL r
def szB:List Sm->Nat
 | []=>0
 |x::r=>szM x+szB r
def szM:Sm->Nat
 |.mk kd _ _ _ te nd=>if kd=3 then szN te+szN nd else szN nd
end
theorem T6:∀a b:List Nd,dpL (a++b)=max (dpL a) (dpL b)
 | [],b=>by simp only[List.nil_append,dpL];omega
 |x::a,b=>by simp only[List.cons_append,dpL,T6 a b];omega
theorem GR:∀a b:List Nd,szL (a++b)=szL a+szL b
 | [],b=>by simp only[List.nil_append,szL];omega
 |x::a,b=>by simp only[List.cons_append,szL,GR a b];omega
theorem BhU(s:Sm):dpM s=dpL (Bs s):=by
 cases s with
 |mk kd at_ nm sl te nd =>
  have e:Bs (.mk kd at_ nm sl te nd)=if kd=3 then [te,nd] else [nd]:=rfl
  rw[e,dpM]
  split<;>(simp only[dpL];omega)
theorem BhI(s:Sm):szM s=szL (Bs s):=by
 cases s with
 |mk kd at_ nm sl te nd =>
  have e:Bs (.mk kd at_ nm sl te nd)=if kd=3 then [te,nd] else [nd]:=rfl
  rw[e,szM]
  split<;>(simp only[szL];omega)
theorem GY:∀l:List Sm,dpB l=dpL (l.flatMap Bs)
 | []=>by simp only[dpB,List.flatMap_nil,dpL]
 |s::l=>by rw[dpB,List.flatMap_cons,T6,BhU,GY l]
theorem Un:∀l:List Sm,szB l=szL (l.flatMap Bs)
 | []=>by simp only[szB,List.flatMap_nil,szL]
 |s::l=>by rw[szB,List.flatMap_cons,GR,BhI,Un l]
theorem EW(n:Nd):dpN n=1+dpL (B0 n):=by
 cases n
 simp only[dpN,B0,Nd.ki,Nd.bo,T6,GY]
theorem BaW(n:Nd):szN n=1+szL (B0 n):=by
 cases n
 simp only[szN,B0,Nd.ki,Nd.bo,GR,Un]
 omega
theorem BcK(n:Nd):1<=dpN n:=by rw[EW];omega
theorem E4:∀ {l:List Nd} {x:Nd},x∈l->dpN x<=dpL l
 |y::l,x,h=>by
  simp only[dpL]
  rcases List.mem_cons.1 h with rfl | h
  ·omega
  ·have:=E4 h;omega
theorem BgM:∀ {l:List Nd} {x:Nd},x∈l->szN x<=szL l
 |y::l,x,h=>by
  simp only[szL]
  rcases List.mem_cons.1 h with rfl | h
  ·omega
  ·have:=BgM h;omega
def primL : List (List UInt8) := ["", "+", "-", "*", "%", "|", "^", "min", "max", "<", "<=", "=", "~=", ">=", ">", "and", "or", "not", "shape", "reshape", "tally", "depth", ",", "stack", "iota", "take", "drop", "first", "reverse", "rotate", "transpose", "from", "pick", "select", "amend", "up", "down", "sort", "find", "in", "unique", "where", "copy", "expand", "cut", "encode", "decode", "box", "open", "same", "kind", "ord", "chr", "format", "left", "right"].map asc
def opL : List (List UInt8) := ["", "/", "\\", "each", "swap", "outer", "inner", "rank", "power", "stencil", "atop", "over"].map asc
def EF(p:Int):List UInt8:=if p<1\/56<=p then [] else primL.getD p.toNat []
def opT(p:Int):List UInt8:=if p<1\/12<=p then [] else opL.getD p.toNat []
def Gn(a:Arr):Bool:=a.k==0&&a.sh.isEmpty&&a.nu.isEmpty&&a.it.isEmpty
def ED(n:Nd)(k:Int):Bool :=
 n.kd==k&&decide (0<=n.at_)&&decide (0<=n.de)&&decide (0<=n.sl)&&decide (0<=n.ss)&&(n.tx.isEmpty||k==2)&&(n.pr==0||k==9)&&(n.op==0||k==17)&&(Gn n.va||k==1)&&(n.bo.isEmpty||k==10)
def B4(n:Nd):Bool:=n.kd==0&&n.at_==0&&n.cl==0&&n.de==0&&n.sl==0&&n.ss==0&&ED n 0&&n.ki.isEmpty
def Bj(n:Nd)(l:List Int):Bool:=n.ki.map Nd.cl==l
def EN(n:Nd):Bool :=
 n.ki.isEmpty&&(
  if n.kd=1 then n.cl==1&&(BB n.va).1==0&&((n.va.sh.isEmpty&&n.va.k != 3)||(n.va.sh.length==1&&n.va.k==2))
  else if n.kd=2 then decide (1<=n.cl)&&decide (n.cl<=4)&&Cb n.tx
  else if n.kd=6\/n.kd=7\/n.kd=8 then n.cl==1
  else if n.kd=9 then n.cl==2&&!(EF n.pr).isEmpty
  else if n.kd=11\/n.kd=12\/n.kd=13 then n.cl==2
  else if n.kd=17 then n.cl==(if n.op<=5 then 3 else 4)&&!(opT n.op).isEmpty
  else false)
def EG(n:Nd):Int:=if (n.ki.getD 0 default).kd=17/\((n.ki.getD 0 default).op=7\/(n.ki.getD 0 default).op=8\/(n.ki.getD 0 default).op=9) then 1 else 2
def Ej(n:Nd):Bool :=
 if n.kd=3 then n.cl==1&&decide (2<=n.ki.length)&&decide (n.ki.length<=1000)&&Bj n (List.replicate n.ki.length 1)
 else if n.kd=4 then n.cl==1&&Bj n [2,1]
 else if n.kd=5 then n.cl==1&&Bj n [2,1,1]
 else if n.kd=14 then n.cl==2&&Bj n [3,2]
 else if n.kd=15 then n.cl==2&&Bj n [4,2,EG n]
 else if n.kd=16 then n.cl==2&&(Bj n [2,2]||Bj n [2,2,2]||Bj n [1,2,2])
 else false
mutual
/-- A kind of leaf occurs outside inner lambdas. -/
def Gs(k:Int):Nd->Bool
 |.mk kd _ _ _ _ _ _ ki _ _ _ _=>kd==k||(kd != 10&&Bdg k ki)
def Bdg(k:Int):List Nd->Bool
 | []=>false
 |x::r=>Gs k x||Bdg k r
end
def C8(l:List Sm)(k:Int):Bool:=l.any fun s=>(Bs s).any (Gs k)
def Mz(n:Nd):Bool :=
 n.ki.isEmpty&&!n.bo.isEmpty&&(n.bo.getD (n.bo.length-1) default).kd==1 &&
  (if n.cl=2 then !(C8 n.bo 12)&&!(C8 n.bo 13) else if n.cl=3 then C8 n.bo 12&&!(C8 n.bo 13) else if n.cl=4 then C8 n.bo 13 else false)
def CD(k:Nat)(ds:List D)(d:D):Prop:=ACalls Tryz.prog k ds ⟨[],[]⟩ (SpecR (sC ds d) ())
def CS(k:Nat)(ds:List D)(S:St)(d:D):Prop:=ACalls Tryz.prog k ds S (fun r S'=>r=.ret d/\S'=S)
theorem CS.frame{k:Nat}{ds:List D}{S:St}{d:D}(F:St)(h:CS k ds S d):CS k ds (S.add F) d:=by
 refine ((ACalls.frame h F).from fun C F' w H=>H).mono ?_
 rintro r S' ⟨S0,⟨rfl,rfl⟩,rfl⟩
 exact⟨rfl,rfl⟩
theorem CD.at_{k:Nat}{ds:List D}{d:D}(h:CD k ds d)(S:St):CS k ds S d:=ACalls.whole S h
theorem CS.wk{k:Nat}{ds us:List D}{S:St}{d:D}(h:CS k us S d)(hw:wkL ds us):CS k ds S d:=ACalls.wkArgs h hw
theorem CS.cd{k:Nat}{ds:List D}{d:D}(h:CS k ds ⟨[],[]⟩ d):CD k ds d:=ACalls.mono h fun _ _ ⟨h1,h2⟩=>⟨(),trivial,h1,h2⟩
theorem B7{k : Nat}{β : Type}{ds : List D}{S : St}{d : β -> D}{p : β -> Prop}(h : ∀x, p x -> CS k ds S (d x)) :
  (∀x,(pE ds S d p).pre x->ACalls Tryz.prog k ((pE ds S d p).args x) ((pE ds S d p).st x) (SpecR (pE ds S d p) x))/\(∀x,(pE ds S d p).fit=some x->(pE ds S d p).pre x->BS ds ((pE ds S d p).args x)/\leS ((pE ds S d p).st x) S)/\((pE ds S d p).all=true->∀x,(pE ds S d p).pre x->BS ds ((pE ds S d p).args x)/\(pE ds S d p).st x=S) :=
 ⟨fun x hp=>ACalls.mono (h x hp) fun _ _ ⟨h1,h2⟩=>⟨(),trivial,h1,h2⟩,fun _ e=>(by cases e),fun _ _ _=>⟨Bo ds,rfl⟩⟩
def pA(ds:List D)(S:St)(d:D)(p:Prop):FnSpec:=pE (β:=Unit) ds S (fun _=>d) fun _=>p
theorem Bm{k : Nat}{ds : List D}{S : St}{d : D}{p : Prop}(h : p -> CS k ds S d) :
  (∀x,(pA ds S d p).pre x->ACalls Tryz.prog k ((pA ds S d p).args x) ((pA ds S d p).st x) (SpecR (pA ds S d p) x))/\(∀x,(pA ds S d p).fit=some x->(pA ds S d p).pre x->BS ds ((pA ds S d p).args x)/\leS ((pA ds S d p).st x) S)/\((pA ds S d p).all=true->∀x,(pA ds S d p).pre x->BS ds ((pA ds S d p).args x)/\(pA ds S d p).st x=S) :=
 B7 fun _ hp=>h hp
def sS(ds:List D)(S:St)(d:D):FnSpec where
 β:=Unit
 α:=Unit
 args:=fun _=>ds
 st:=fun _=>S
 pre:=fun _=>True
 post:=fun _ _=>True
 res:=fun _ _=>.ret d
 out:=fun _ _=>S
theorem CS.of{k:Nat}{ds:List D}{S:St}{d:D}(h:ACalls Tryz.prog k ((sS ds S d).args ()) ((sS ds S d).st ()) (SpecR (sS ds S d) ())):CS k ds S d :=
 ACalls.mono h fun _ _ ⟨_,_,h2,h3⟩=>⟨h2,h3⟩
theorem CS.to{k:Nat}{ds:List D}{S S':St}{d:D}(h:CS k ds S' d)(h1:StTo S S')(h2:StTo S' S):CS k ds S d :=
 ACalls.to (ACalls.from h h1) fun r S0 ⟨e1,e2⟩=>⟨S,by rw[e2];exact h2,e1,rfl⟩
theorem CS.front{k:Nat}{ds:List D}{os:List (Nat×Nat×AObj)}{d:D}(o:Nat×Nat×AObj)(h:CS k ds ⟨os,[]⟩ d):CS k ds ⟨o::os,[]⟩ d:=by
 have p:List.Perm (os.map (·.2)++[o.2]) (o.2::os.map (·.2)):=List.perm_append_singleton _ _
 refine CS.to (CS.frame ⟨[o],[]⟩ h) (StTo.perm (r1:=[]) (r2:=[]) ?_ ?_) (StTo.perm (r1:=[]) (r2:=[]) ?_ ?_)
 ·simp[St.add]
 ·simp[St.add]
 ·simpa[St.add] using p.symm
 ·simp[St.add]
def EB{α:Type}(p:α->Bool):List α->Int->Int
 | [],_=>-1
 |x::r,i=>if p x then i else EB p r (i+1)
theorem EL{α:Type}(p:α->Bool):∀(l:List α) (i:Int),0<=i->(decide (0<=EB p l i))=l.any p
 | [],i,_=>by simp[EB]
 |x::r,i,h=>by
  rw[EB]
  by_cases hx:p x=true
  ·rw[if_pos hx];simp[hx,h]
  ·rw[if_neg hx,EL p r (i+1) (by omega)];simp[hx]
structure IdxG {α:Type} (p:α->Bool) (l:List α) (i:Nat):Prop where
 hi:i<=l.length
 hg:EB p (l.drop i) i=EB p l 0
theorem IdxG.step{α:Type}[Inhabited α]{p:α->Bool}{l:List α}{i:Nat}(h:IdxG p l i)(hlt:i<l.length):(p (l.getD i default)=true->EB p l 0=i)/\(p (l.getD i default)=false->IdxG p l (i+1)):=by
 have hg:=h.hg
 rw[BN hlt,EB] at hg
 refine⟨fun e=>?_,fun e=>?_⟩
 ·rw[if_pos e] at hg;exact hg.symm
 ·rw[if_neg (by rw[e];exact Bool.false_ne_true)] at hg;exact⟨by omega,hg⟩
theorem IdxG.done{α:Type}{p:α->Bool}{l:List α}{i:Nat}(h:IdxG p l i)(hge:¬(i:Int)<l.length):EB p l 0 = -1:=by
 have hg:=h.hg
 have:i=l.length:=by have:=h.hi;omega
 rw[this,List.drop_length,EB] at hg
 exact hg.symm
def isN(b:Nd)(ds:List D)(ex:List D):Prop:=wkL ds (.agg b.row1::ex)
def isN2(b:Nd)(ds:List D)(ex:List D):Prop:=wkL ds (.agg b.row2::ex)
def isS(b:Sm)(ds:List D)(ex:List D):Prop:=wkL ds (.agg b.row1::ex)
theorem CD.wk{k:Nat}{ds us:List D}{d:D}(h:CD k us d)(hw:wkL ds us):CD k ds d:=BmN hw h
theorem BH(n:Nd)(ex:List D):isN n (.agg n.row1::ex) ex:=Bc _
theorem Cq(n:Nd)(ex:List D):isN2 n (.agg n.row2::ex) ex:=Bc _
theorem MA(s:Sm)(ex:List D):isS s (.agg s.row1::ex) ex:=Bc _
theorem CD.down{k:Nat}{n:Nd}{ex:List D}{d:D}(h:CD k (.agg n.row2::ex) d):CD k (.agg n.row1::ex) d :=
 h.wk (by simp only[wkL,wkD];exact⟨Mk n,Bc _⟩)
theorem CD.isN{k:Nat}{n:Nd}{ds ex:List D}{d:D}(h:CD k (.agg n.row2::ex) d)(hi:isN n ds ex):CD k ds d:=h.down.wk hi
theorem CD.isN2{k:Nat}{n:Nd}{ds ex:List D}{d:D}(h:CD k (.agg n.row2::ex) d)(hi:isN2 n ds ex):CD k ds d:=h.wk hi
theorem Ci{l:List Nd}{i:Nat}(h:i<l.length):l.getD i default∈l:=by
 rw[List.getD_eq_getElem?_getD,List.getElem?_eq_getElem h];exact List.getElem_mem h
theorem CT{l:List Sm}{i:Nat}(h:i<l.length):l.getD i default∈l:=by
 rw[List.getD_eq_getElem?_getD,List.getElem?_eq_getElem h];exact List.getElem_mem h
mutual
def BC:Nd->Bool
  | .mk kd at_ cl tx pr op va ki bo de sl ss =>
    ED (.mk kd at_ cl tx pr op va ki bo de sl ss) kd &&
      (if kd = 10 then Mz (.mk kd at_ cl tx pr op va ki bo de sl ss) && (decide (bo.length <= 1000) && BR true [] bo)
       else EN (.mk kd at_ cl tx pr op va ki bo de sl ss) || (Ej (.mk kd at_ cl tx pr op va ki bo de sl ss) && MP ki))
def MP:List Nd->Bool
 | []=>true
 |x::r=>BC x&&MP r
def BR(g:Bool)(names:List (List UInt8)):List Sm->Bool
 | []=>true
 |x::r=>Id g names x&&BR g (if x.kd=2 then names++[x.nm] else names) r
def Id(g:Bool)(names:List (List UInt8)):Sm->Bool
  | .mk kd at_ nm sl te nd => decide (0 <= at_) && BC nd &&
    (if kd = 1 then nd.cl == 1 && nm.isEmpty && sl == 0 && B4 te
     else if kd = 2 then Cb nm && !(names.contains nm) && (nd.cl == 1 || nd.cl == 2 || nd.kd == 10) && decide (0 <= sl) && B4 te
     else if kd = 3 then g && BC te && te.cl == 1 && nd.cl == 1 && nm.isEmpty && sl == 0
     else false)
end
def BF(g:Bool)(l:List Sm):Bool:=decide (l.length<=1000)&&BR g [] l
theorem Io(n:Nd):BC n=(ED n n.kd&&(if n.kd=10 then Mz n&&BF true n.bo else EN n||(Ej n&&n.ki.all BC))):=by
 have e:∀l:List Nd,MP l=l.all BC:=by
  intro l
  induction l with
  |nil=>simp only[MP,List.all_nil]
  |cons x r ih=>simp only[MP,List.all_cons,ih]
 cases n
 simp only[BC,e]
 rfl
theorem Et(g : Bool)(names : List (List UInt8))(s : Sm) : Id g names s = (decide (0 <= s.at_) && BC s.nd &&
    (if s.kd = 1 then s.nd.cl == 1 && s.nm.isEmpty && s.sl == 0 && B4 s.te
     else if s.kd = 2 then Cb s.nm && !(names.contains s.nm) && (s.nd.cl == 1 || s.nd.cl == 2 || s.nd.kd == 10) && decide (0 <= s.sl) && B4 s.te
     else if s.kd = 3 then g && BC s.te && s.te.cl == 1 && s.nd.cl == 1 && s.nm.isEmpty && s.sl == 0
     else false)) := by
  cases s
  simp only [Id]
  rfl
def TE(l:List Sm):Bool:=[6,7,11,12,13].any fun k=>C8 l k
def Bw(l:List Sm):Int :=
 if 1000<l.length then 2 else if 60<dpB l then 8 else if 16384<szB l then 21
 else if (BF false l&&!TE l)=true then 0 else 11
theorem BdL(k:Int):∀l:List Nd,Bdg k l=l.any (Gs k)
 | []=>by simp only[Bdg,List.any_nil]
 |x::r=>by simp only[Bdg,List.any_cons,BdL k r]
theorem BcI(k:Int)(n:Nd):Gs k n=(n.kd==k||(n.kd != 10&&n.ki.any (Gs k))):=by
 cases n
 simp only[Gs,BdL]
 rfl
theorem GW{α:Type}{p q:α->Bool}:∀ {l:List α},(∀x∈l,p x=q x)->l.any p=l.any q
 | [],_=>rfl
 |x::l,h=>by
  simp only[List.any_cons]
  rw[h x (by simp),GW fun y hy=>h y (by simp[hy])]
theorem Nd.size_kid{n x:Nd}(h:x∈n.ki):SizeOf.sizeOf x<SizeOf.sizeOf n:=by
 cases n with
 |mk kd at_ cl tx pr op va ki bo de sl ss =>
  have:=List.sizeOf_lt_of_mem (show x∈ki from h)
  simp only[Nd.mk.sizeOf_spec]
  omega
theorem Nd.size_stmt{n:Nd}{s:Sm}(h:s∈n.bo):SizeOf.sizeOf s<SizeOf.sizeOf n:=by
 cases n with
 |mk kd at_ cl tx pr op va ki bo de sl ss =>
  have:=List.sizeOf_lt_of_mem (show s∈bo from h)
  simp only[Nd.mk.sizeOf_spec]
  omega
theorem Sm.size_te(s:Sm):SizeOf.sizeOf s.te<SizeOf.sizeOf s:=by
 cases s
 simp only[Sm.te,Sm.mk.sizeOf_spec]
 omega
theorem Sm.size_nd(s:Sm):SizeOf.sizeOf s.nd<SizeOf.sizeOf s:=by
 cases s
 simp only[Sm.nd,Sm.mk.sizeOf_spec]
 omega
theorem ER{n:Nd}(h:BC n=true):(∀x∈n.ki,BC x=true)/\(n.kd=10->n.ki=[]):=by
 rw[Io,Bool.and_eq_true] at h
 have h:=h.2
 by_cases hk:n.kd=10
 ·rw[if_pos hk,Bool.and_eq_true] at h
  have h1:=h.1
  unfold Mz at h1
  simp only[Bool.and_eq_true,List.isEmpty_iff] at h1
  have e:n.ki=[]:=h1.1.1.1
  exact⟨fun x hx=>by rw[e] at hx;simp at hx,fun _=>e⟩
 ·rw[if_neg hk,Bool.or_eq_true,Bool.and_eq_true] at h
  refine⟨fun x hx=>?_,fun e=>(hk e).elim⟩
  rcases h with h | h
  ·unfold EN at h
   simp only[Bool.and_eq_true,List.isEmpty_iff] at h
   rw[h.1] at hx
   simp at hx
  ·exact List.all_eq_true.1 h.2 x hx
theorem Bkf{α:Type}[Inhabited α]{g:α->List D}{l r:List α}(i:Nat):Bt l.length (fun i=>g (l.getD i default)) (fun i=>g (r.getD i default)) i=g ((l++r).getD i default):=by
 unfold Bt
 split
 ·rename_i h
  simp[List.getD_eq_getElem?_getD,List.getElem?_append_left h,h]
 ·rename_i h
  simp[List.getD_eq_getElem?_getD,List.getElem?_append_right (Nat.le_of_not_lt h)]
theorem G6(s:Sm):(Bs s).length<=2:=by
 unfold Bs
 split<;>simp
theorem WU:∀l:List Sm,(l.flatMap Bs).length<=2*l.length
 | []=>by simp
 |s::l=>by
  have:=WU l
  have:=G6 s
  simp only[List.flatMap_cons,List.length_append,List.length_cons]
  omega
theorem BgZ(n:Nd):(B0 n).length<=n.ki.length+2*n.bo.length:=by
 have:=WU n.bo
 simp only[B0,List.length_append]
 omega
theorem Ba6{l:List Sm}{i:Nat}(h:i<l.length):(l.take (i+1)).flatMap Bs=(l.take i).flatMap Bs++Bs (l.getD i default):=by
 rw[Cf h,List.flatMap_append]
 simp
noncomputable def Epa:Senv:=EC CK 14 3 [5] (fun _=>([],[]))
noncomputable section
def Vk(a:Sm):Nd:=Sm.te a
def Qmq(a:Sm):Arr:=Nd.va (Vk a)
def QEQ(a:Sm):List Int:=Arr.sh (Qmq a)
def QER(a:Sm):List Int:=Arr.nu (Qmq a)
def QtY(a:Sm):List Arr:=Arr.it (Qmq a)
def Qmr:Arr:=DA
def QtZ(a:Sm):List Nd:=Nd.ki (Vk a)
def QcD:Nd:=Nd.mk Z0 Z0 Z0 [] Z0 Z0 Qmr [] [] Z0 Z0 Z0
def Qt0(a:Sm):List Sm:=Nd.bo (Vk a)
def Qq0:Sm:=Sm.mk Z0 Z0 [] Z0 QcD QcD
def Vl(a:Sm):Nd:=Sm.nd a
def Qms(a:Sm):Arr:=Nd.va (Vl a)
def QES(a:Sm):List Int:=Arr.sh (Qms a)
def QET(a:Sm):List Int:=Arr.nu (Qms a)
def Qt1(a:Sm):List Arr:=Arr.it (Qms a)
def Qt2(a:Sm):List Nd:=Nd.ki (Vl a)
def Qt3(a:Sm):List Sm:=Nd.bo (Vl a)
def Qt4(a:Sm):List (List D):=[[ZI (Nd.kd (Vl a)),ZI (Nd.at_ (Vl a)),ZI (Nd.cl (Vl a)),D.str (Nd.tx (Vl a)),ZI (Nd.pr (Vl a)),ZI (Nd.op (Vl a)),ZI (Arr.k (Qms a)),SI (QES a),SI (QET a),D.sl N4 (LN (Qt1 a)) (fun i=>Arr.row (List.getD (Qt1 a) i Qmr)) Mode.any,D.sl 15 (LN (Qt2 a)) (fun i=>Nd.row (List.getD (Qt2 a) i QcD)) Mode.any,D.sl 34 (LN (Qt3 a)) (fun i=>Sm.row (List.getD (Qt3 a) i Qq0)) Mode.any,ZI (Nd.de (Vl a)),ZI (Nd.sl (Vl a)),ZI (Nd.ss (Vl a))]]
def Vm(a:Sm)(b:Nat):Nd:=List.getD (Bs a) b QcD
def Qmt(a:Sm)(b:Nat):Arr:=Nd.va (Vm a b)
def QEU(a:Sm)(b:Nat):List Int:=Arr.sh (Qmt a b)
def QEV(a:Sm)(b:Nat):List Int:=Arr.nu (Qmt a b)
def Qt5(a:Sm)(b:Nat):List Arr:=Arr.it (Qmt a b)
def Qt6(a:Sm)(b:Nat):List Nd:=Nd.ki (Vm a b)
def Qt7(a:Sm)(b:Nat):List Sm:=Nd.bo (Vm a b)
def Qt8(a:Sm)(b:Nat):List D:=[ZI (Nd.kd (Vm a b)),ZI (Nd.at_ (Vm a b)),ZI (Nd.cl (Vm a b)),D.str (Nd.tx (Vm a b)),ZI (Nd.pr (Vm a b)),ZI (Nd.op (Vm a b)),ZI (Arr.k (Qmt a b)),SI (QEU a b),SI (QEV a b),D.sl N4 (LN (Qt5 a b)) (fun i=>Arr.row (List.getD (Qt5 a b) i Qmr)) Mode.any,D.sl 15 (LN (Qt6 a b)) (fun i=>Nd.row (List.getD (Qt6 a b) i QcD)) Mode.any,D.sl 34 (LN (Qt7 a b)) (fun i=>Sm.row (List.getD (Qt7 a b) i Qq0)) Mode.any,ZI (Nd.de (Vm a b)),ZI (Nd.sl (Vm a b)),ZI (Nd.ss (Vm a b))]
end
theorem Bjy(s:Sm):CD 38 [.agg s.row1] (gsl 15 Nd.row1 (Bs s)):=by
 refine Bh (A:=sC _ _) (x:=()) (E:=Epa) (eOk BE rfl) Tryz.func38 rfl (by kernel_rfl) rfl (by simp[sC,Epa,EC,E0]) ?_
 refine Bl (T :=
  ∀(x:Nat),True->SM x/\ifB (Sm.kd s==3) (SM x/\SM x/\True/\∃(y:Unit),True/\(N2=LN (Bs s)/\(∀(i:Nat),i<N2->List.getD ([ZI (Nd.kd (Vk s)),ZI (Nd.at_ (Vk s)),ZI (Nd.cl (Vk s)),D.str (Nd.tx (Vk s)),ZI (Nd.pr (Vk s)),ZI (Nd.op (Vk s)),ZI (Arr.k (Qmq s)),SI (QEQ s),SI (QER s),D.sl N4 (LN (QtY s)) (fun i=>Arr.row (List.getD (QtY s) i Qmr)) Mode.any,D.sl 15 (LN (QtZ s)) (fun i=>Nd.row (List.getD (QtZ s) i QcD)) Mode.any,D.sl 34 (LN (Qt0 s)) (fun i=>Sm.row (List.getD (Qt0 s) i Qq0)) Mode.any,ZI (Nd.de (Vk s)),ZI (Nd.sl (Vk s)),ZI (Nd.ss (Vk s))]::Qt4 s) i []=Qt8 s i)/\True)/\True/\True) (SM x/\True/\∃(y:Unit),True/\(N1=LN (Bs s)/\(∀(i:Nat),i<N1->List.getD (Qt4 s) i []=Qt8 s i)/\True)/\True/\True)) (by kernel_rfl) ?_
 delta DA GI LN N1 N2 N4 SI SM Z0 ZI Vk Qmq Vl Qms QES QET Qt1 Qt2 Qt3 Qt4 Vm Qmt QEQ QEU QEV Qt5 Qt6 Qt7 Qt8 QER QtY Qmr QtZ QcD Qt0 Qq0
 simp only[Bg,beq_iff_eq,beq_eq_false_iff_ne,true_and,and_true,exists_const]
 refine fun x _=>⟨fun h=>?_,fun h=>?_⟩
 ·have e:Bs s=[s.te,s.nd]:=if_pos h
  rw[e]
  refine⟨rfl,fun i hi=>?_⟩
  match i,hi with
  |0,_=>rfl
  |1,_=>rfl
 ·have e:Bs s=[s.nd]:=if_neg h
  rw[e]
  refine⟨rfl,fun i hi=>?_⟩
  match i,hi with
  |0,_=>rfl
def Bj8(_n:Nd):Con:=fun k ds S=>match k with
 |38=>some (pE (β:=Sm) ds S (fun s=>gsl 15 Nd.row1 (Bs s)) (fun s=>isS s ds []))
 |_=>none
theorem BjF(n:Nd):ConOk Tryz.prog (Bj8 n):=by
 intro k ds S A h
 unfold Bj8 at h
 split at h
 ·injection h with h;subst h
  exact B7 fun s e=>CD.at_ (CD.wk (Bjy s) e) _
 ·cases h
noncomputable def Ein0(n:Nd):Senv:={ EC (Bj8 n) 26 4 [5,9,10,11,12] (fun id=>match id with | 5=>([0,1,2,3,4,6,5,7,8,9],[5,7,8]) | _=>([],[])) with
 ann:=fun b _ S=>match b with
  |0=>some { slots:=[11,3],keep:=[0,1,9,10],α:=Nat×List Nd,st:=fun y=>([.int .i64 y.1,gsl 15 Nd.row1 y.2],S),inv:=fun y=>y.1<=n.bo.length/\y.2=n.ki++(n.bo.take y.1).flatMap Bs,mu:=fun y=>n.bo.length-y.1 }
  |_=>none }
noncomputable section
def Qmu(a:Nd):List Sm:=Nd.bo a
def Qcf(a:Nd):Nat:=LN (Qmu a)
def Qq1(a:Nat)(b:Nd)(c:List Nd):Prop:=a<=Qcf b/\c=Nd.ki b++List.flatMap Bs (List.take a (Qmu b))
def QlR(a:Nd):Nat:=LN (Nd.ki a)
def QcE:Arr:=DA
def Yi:Nd:=Nd.mk Z0 Z0 Z0 [] Z0 Z0 QcE [] [] Z0 Z0 Z0
def Qq2(a:Nd)(b:Nat):List D:=Nd.row1 (List.getD (Nd.ki a) b Yi)
def Qmv(a:List Nd)(b:Nat):List D:=Nd.row1 (List.getD a b Yi)
def Qt9(a:Nd):Int:=Nd.at_ a
def Qmw(a:Nd):Arr:=Nd.va a
def Qua(a:Nd):Int:=Arr.k (Qmw a)
def Qub(a:Nd):List Int:=Arr.sh (Qmw a)
def Qq3(a:Nd):Nat:=LN (Qub a)
def Quc(a:Nd)(b:Nat):List D:=[ZI (GI (Qub a) b)]
def Qud(a:Nd):List Int:=Arr.nu (Qmw a)
def Qq4(a:Nd):Nat:=LN (Qud a)
def Que(a:Nd)(b:Nat):List D:=[ZI (GI (Qud a) b)]
def Quf(a:Nd):List Arr:=Arr.it (Qmw a)
def Qq5(a:Nd):Nat:=LN (Quf a)
def Qug(a:Nd)(b:Nat):List D:=Arr.row (List.getD (Quf a) b QcE)
def QcF:Sm:=Sm.mk Z0 Z0 [] Z0 Yi Yi
def QcG(a:Nd)(b:Nat):Sm:=List.getD (Qmu a) b QcF
def Vn(a:Nd)(b:Nat):Nd:=Sm.te (QcG a b)
def Qmx(a:Nd)(b:Nat):Arr:=Nd.va (Vn a b)
def QEW(a:Nd)(b:Nat):List Int:=Arr.sh (Qmx a b)
def QEX(a:Nd)(b:Nat):List Int:=Arr.nu (Qmx a b)
def Quh(a:Nd)(b:Nat):List Arr:=Arr.it (Qmx a b)
def Qui(a:Nd)(b:Nat):List Nd:=Nd.ki (Vn a b)
def Quj(a:Nd)(b:Nat):List Sm:=Nd.bo (Vn a b)
def Vo(a:Nd)(b:Nat):Nd:=Sm.nd (QcG a b)
def Qmy(a:Nd)(b:Nat):Arr:=Nd.va (Vo a b)
def QEY(a:Nd)(b:Nat):List Int:=Arr.sh (Qmy a b)
def QEZ(a:Nd)(b:Nat):List Int:=Arr.nu (Qmy a b)
def Quk(a:Nd)(b:Nat):List Arr:=Arr.it (Qmy a b)
def Qul(a:Nd)(b:Nat):List Nd:=Nd.ki (Vo a b)
def Qum(a:Nd)(b:Nat):List Sm:=Nd.bo (Vo a b)
def Qun(a:Nd)(b:Nat):List D:=[ZI (Sm.kd (QcG a b)),ZI (Sm.at_ (QcG a b)),D.str (Sm.nm (QcG a b)),ZI (Sm.sl (QcG a b)),ZI (Nd.kd (Vn a b)),ZI (Nd.at_ (Vn a b)),ZI (Nd.cl (Vn a b)),D.str (Nd.tx (Vn a b)),ZI (Nd.pr (Vn a b)),ZI (Nd.op (Vn a b)),ZI (Arr.k (Qmx a b)),SI (QEW a b),SI (QEX a b),D.sl N4 (LN (Quh a b)) (fun i=>Arr.row (List.getD (Quh a b) i QcE)) Mode.any,D.sl 15 (LN (Qui a b)) (fun i=>Nd.row (List.getD (Qui a b) i Yi)) Mode.any,D.sl 34 (LN (Quj a b)) (fun i=>Sm.row (List.getD (Quj a b) i QcF)) Mode.any,ZI (Nd.de (Vn a b)),ZI (Nd.sl (Vn a b)),ZI (Nd.ss (Vn a b)),ZI (Nd.kd (Vo a b)),ZI (Nd.at_ (Vo a b)),ZI (Nd.cl (Vo a b)),D.str (Nd.tx (Vo a b)),ZI (Nd.pr (Vo a b)),ZI (Nd.op (Vo a b)),ZI (Arr.k (Qmy a b)),SI (QEY a b),SI (QEZ a b),D.sl N4 (LN (Quk a b)) (fun i=>Arr.row (List.getD (Quk a b) i QcE)) Mode.any,D.sl 15 (LN (Qul a b)) (fun i=>Nd.row (List.getD (Qul a b) i Yi)) Mode.any,D.sl 34 (LN (Qum a b)) (fun i=>Sm.row (List.getD (Qum a b) i QcF)) Mode.any,ZI (Nd.de (Vo a b)),ZI (Nd.sl (Vo a b)),ZI (Nd.ss (Vo a b))]
def Quo(a:Nat)(b:Nd):Prop:=(SM a/\(SM (Nd.kd b)/\SM (Qt9 b)/\SM (Nd.cl b)/\SM (Nd.tx b)/\SM (Nd.pr b)/\SM (Nd.op b)/\SM (Qua b)/\(SM (Qq3 b)/\(∀(i:Nat),i<Qq3 b->SM (Quc b i))/\True)/\(SM (Qq4 b)/\(∀(i:Nat),i<Qq4 b->SM (Que b i))/\True)/\(SM (Qq5 b)/\(∀(i:Nat),i<Qq5 b->SM (Qug b i))/\True)/\(SM (QlR b)/\(∀(i:Nat),i<QlR b->SM (Qq2 b i))/\True)/\(SM (Qcf b)/\(∀(i:Nat),i<Qcf b->SM (Qun b i))/\True)/\SM (Nd.de b)/\SM (Nd.sl b)/\SM (Nd.ss b)/\True)/\True)/\True
def Qq6(a:Nd):Int:=(NI (Qcf a))
def Qmz(a:List Nd):Prop:=SM (LI a)
def QcH(a:Nd)(b:Nat):Sm:=List.getD (Qmu a) (Int.toNat (↑b:Int)) QcF
def Vp(a:Nd)(b:Nat):Nd:=Sm.te (QcH a b)
def QmA(a:Nd)(b:Nat):Arr:=Nd.va (Vp a b)
def QE0(a:Nd)(b:Nat):List Int:=Arr.sh (QmA a b)
def QE1(a:Nd)(b:Nat):List Int:=Arr.nu (QmA a b)
def Qup(a:Nd)(b:Nat):List Arr:=Arr.it (QmA a b)
def Quq(a:Nd)(b:Nat):List Nd:=Nd.ki (Vp a b)
def Qur(a:Nd)(b:Nat):List Sm:=Nd.bo (Vp a b)
def Vq(a:Nd)(b:Nat):Nd:=Sm.nd (QcH a b)
def QmB(a:Nd)(b:Nat):Arr:=Nd.va (Vq a b)
def QE2(a:Nd)(b:Nat):List Int:=Arr.sh (QmB a b)
def QE3(a:Nd)(b:Nat):List Int:=Arr.nu (QmB a b)
def Qus(a:Nd)(b:Nat):List Arr:=Arr.it (QmB a b)
def Qut(a:Nd)(b:Nat):List Nd:=Nd.ki (Vq a b)
def Quu(a:Nd)(b:Nat):List Sm:=Nd.bo (Vq a b)
def Quv(a:Nd)(b:Nat):D:=D.agg [ZI (Sm.kd (QcH a b)),ZI (Sm.at_ (QcH a b)),D.str (Sm.nm (QcH a b)),ZI (Sm.sl (QcH a b)),ZI (Nd.kd (Vp a b)),ZI (Nd.at_ (Vp a b)),ZI (Nd.cl (Vp a b)),D.str (Nd.tx (Vp a b)),ZI (Nd.pr (Vp a b)),ZI (Nd.op (Vp a b)),ZI (Arr.k (QmA a b)),SI (QE0 a b),SI (QE1 a b),D.sl N4 (LN (Qup a b)) (fun i=>Arr.row (List.getD (Qup a b) i QcE)) Mode.any,D.sl 15 (LN (Quq a b)) (fun i=>Nd.row (List.getD (Quq a b) i Yi)) Mode.any,D.sl 34 (LN (Qur a b)) (fun i=>Sm.row (List.getD (Qur a b) i QcF)) Mode.any,ZI (Nd.de (Vp a b)),ZI (Nd.sl (Vp a b)),ZI (Nd.ss (Vp a b)),ZI (Nd.kd (Vq a b)),ZI (Nd.at_ (Vq a b)),ZI (Nd.cl (Vq a b)),D.str (Nd.tx (Vq a b)),ZI (Nd.pr (Vq a b)),ZI (Nd.op (Vq a b)),ZI (Arr.k (QmB a b)),SI (QE2 a b),SI (QE3 a b),D.sl N4 (LN (Qus a b)) (fun i=>Arr.row (List.getD (Qus a b) i QcE)) Mode.any,D.sl 15 (LN (Qut a b)) (fun i=>Nd.row (List.getD (Qut a b) i Yi)) Mode.any,D.sl 34 (LN (Quu a b)) (fun i=>Sm.row (List.getD (Quu a b) i QcF)) Mode.any,ZI (Nd.de (Vq a b)),ZI (Nd.sl (Vq a b)),ZI (Nd.ss (Vq a b))]
def Quw(a:Sm)(b:Nd)(c:Nat):Prop:=isS a [Quv b c] []
def QmC(a:List Nd)(b:Sm):Nat:=LN a+LN (Bs b)
def Qux(a:Nd):D:=D.sl 34 (Qcf a) (fun i=>Qun a i) Mode.any
def QE4(a:Nd):D:=D.agg [ZI (Nd.kd a),ZI (Qt9 a),ZI (Nd.cl a),D.str (Nd.tx a),ZI (Nd.pr a),ZI (Nd.op a),ZI (Qua a),D.sl N1 (Qq3 a) (fun i=>Quc a i) Mode.any,D.sl N1 (Qq4 a) (fun i=>Que a i) Mode.any,D.sl N4 (Qq5 a) (fun i=>Qug a i) Mode.any,D.sl 15 (QlR a) (fun i=>Qq2 a i) Mode.any,Qux a,ZI (Nd.de a),ZI (Nd.sl a),ZI (Nd.ss a)]
def Quy(a:Nat)(b:List Nd)(c:Sm)(d:Nd)(e f:Nat):Prop:=SM a/\Bf (QmC b c*208<=140737488355328/\QmC b c<=9223372036854775807) (∀(_t:Nat),(SM (QE4 d)/\SM (D.ref N0 e N0)/\SM (Qux d)/\SM (ZI (Qq6 d))/\True)/\∃(y:Nat×List Nd),Qq1 y.1 d y.2/\Qcf d-y.1<Qcf d-f/\(IntKind.wrap IntKind.i64 ((↑f:Int)+Z1)=(NI y.1)/\(QmC b c=LN y.2/\(∀(i:Nat),i<QmC b c->Bt (LN b) (fun i=>Qmv b i) (fun i=>Nd.row1 (List.getD (Bs c) i Yi)) i=Qmv y.2 i)/\True)/\True)/\Quo e d)
end
theorem BiN(n:Nd)(h1:n.ki.length<=BX)(h2:n.bo.length<=BX):CD 64 [.agg n.row2] (gsl 15 Nd.row1 (B0 n)):=by
 refine Bh (A:=sC _ _) (x:=()) (E:=Ein0 n) (eOk (BjF n) rfl) Tryz.func64 rfl (by kernel_rfl) rfl (by simp[sC,Ein0,EC,E0]) ?_
 refine Bl (T :=
  ∀(x:Nat),True->SM x/\SM x/\(∃(x_1:Nat×List Nd),Qq1 x_1.1 n x_1.2/\(Z0=(NI x_1.1)/\(QlR n=LN x_1.2/\(∀(i:Nat),i<QlR n->Qq2 n i=Qmv x_1.2 i)/\True)/\True)/\Quo x n)/\∀(x_1:Nat×List Nd),Qq1 x_1.1 n x_1.2->ifB (decide ((NI x_1.1)<Qq6 n)) (Bf (Z0<=(NI x_1.1)/\(NI x_1.1)<Qq6 n) (∀(x_2:Nat),x≠x_2/\True->SM x_2/\SM x_2/\(Qmz x_1.2/\Qmz x_1.2/\∀(t:Nat),(SM x_2/\SM (Quv n x_1.1))/\∃(x_3:Sm),Quw x_3 n x_1.1/\∀(y:Unit),True->Quy t x_1.2 x_3 n x x_1.1)/\∃(x_3:Sm),Quw x_3 n x_1.1/\∀(y:Unit),True->Qmz x_1.2/\Qmz x_1.2/\∀(t:Nat),Quy t x_1.2 x_3 n x x_1.1)) (True/\∃(y:Unit),True/\(LN x_1.2=LN (B0 n)/\(∀(i:Nat),i<LN x_1.2->Qmv x_1.2 i=Nd.row1 (List.getD (B0 n) i Yi))/\True)/\True/\True)) (by kernel_rfl) ?_
 delta DA GI LI LN N0 N1 N4 NI SI SM Z0 Z1 ZI Qmu Qcf Qq1 QlR QcE Yi Qq2 Qmv Qt9 Qmw Qua Qub Qq3 Quc Qud Qq4 Que Quf Qq5 Qug QcF QcG Vn Qmx QEW QEX Quh Qui Quj Vo Qmy QEY QEZ Quk Qul Qum Qun Quo Qq6 Qmz QcH Vp QmA QE0 QE1 Qup Quq Qur Vq QmB QE2 QE3 Qus Qut Quu Quv Quw QmC Qux QE4 Quy
 try simp only[<- dm]
 try simp only[<- dn]
 simp only[ne_eq,implies_true,Int.toNat_natCast,Bg,Be,decide_eq_true_eq,decide_eq_false_iff_not,true_and,and_true,exists_const,forall_const,Prod.exists]
 intro x
 unfold BX at h1 h2
 refine⟨⟨0,n.ki,⟨Nat.zero_le _,by simp⟩,rfl,rfl,fun _ _=>rfl⟩,?_⟩
 rintro ⟨i,l⟩ ⟨hi,hl⟩
 simp only at hi hl ⊢
 refine⟨fun hlt=>⟨⟨by omega,hlt⟩,fun _ _=>?_⟩,fun hge=>?_⟩
 ·have hlt':i<n.bo.length:=by omega
  have hf:=WU (n.bo.take i)
  have hlen:l.length=n.ki.length+((n.bo.take i).flatMap Bs).length:=by rw[hl,List.length_append]
  have ht:(n.bo.take i).length=i:=by rw[List.length_take];omega
  have h2p:=G6 (n.bo.getD i default)
  have w:IntKind.i64.wrap ((i:Int)+1)=((i+1:Nat):Int):=by rw[Bb (by omega) (by omega)];rfl
  refine⟨⟨n.bo.getD i default,MA _ _,⟨by omega,by omega⟩,i+1,l++Bs (n.bo.getD i default),⟨hlt',by rw[Ba6 hlt',hl,List.append_assoc]⟩,by omega,w,by rw[List.length_append],fun j _=>Bkf j⟩,n.bo.getD i default,MA _ _,⟨by omega,by omega⟩,i+1,l++Bs (n.bo.getD i default),⟨hlt',by rw[Ba6 hlt',hl,List.append_assoc]⟩,by omega,w,by rw[List.length_append],fun j _=>Bkf j⟩
 ·have e:i=n.bo.length:=by omega
  rw[e,List.take_length] at hl
  have e2:l=B0 n:=hl
  rw[e2]
  first
   |exact⟨rfl,fun _ _=>rfl⟩
   |trivial
def Ber(xm:Nat)(m:Int)(l:List Nd)(p:Nd->Bool):Con:=fun k ds S=>match k with
 |65=>some (pE (β:=Nd) ds S (fun b=>.bool (p b)) (fun b=>isN b ds [.ref 1 xm 0]/\b∈l/\S=⟨[(1,xm,.cells [.int .i64 m])],[]⟩))
 |_=>none
theorem Bhs(xm:Nat)(m:Int){l:List Nd}{p:Nd->Bool}(h:∀b∈l,CS 65 (.agg b.row1::[.ref 1 xm 0]) ⟨[(1,xm,.cells [.int .i64 m])],[]⟩ (.bool (p b))):ConOk Tryz.prog (Ber xm m l p):=by
 intro k ds S A hh
 unfold Ber at hh
 split at hh
 ·injection hh with hh;subst hh
  refine B7 fun b ⟨e,hb,hs⟩=>?_
  rw[hs]
  exact (h b hb).wk e
 ·cases hh
noncomputable def EDxx(xm:Nat)(m:Int)(l:List Nd)(p:Nd->Bool):Senv:={ EC (Ber xm m l p) 19 2 [4,5,7,8,9,16] (fun _=>([],[])) with
 ann:=fun b _ S=>match b with
  |0=>some { slots:=[8],keep:=[0,1,6,7],α:=Nat,st:=fun i=>([.int .i64 i],S),inv:=fun i=>IdxG p l i,mu:=fun i=>l.length-i }
  |_=>none }
noncomputable section
def QmD(a:Nat)(b:Int):Prop:=(SM a/\(SM b/\True)/\True)/\True
def Quz:Arr:=DA
def QlS:Nd:=Nd.mk Z0 Z0 Z0 [] Z0 Z0 Quz [] [] Z0 Z0 Z0
def Vr(a:List Nd)(b:Nat):Nd:=List.getD a (Int.toNat (↑b:Int)) QlS
def QmE(a:List Nd)(b:Nat):Arr:=Nd.va (Vr a b)
def QE5(a:List Nd)(b:Nat):List Int:=Arr.sh (QmE a b)
def QE6(a:List Nd)(b:Nat):List Int:=Arr.nu (QmE a b)
def QuA(a:List Nd)(b:Nat):List Arr:=Arr.it (QmE a b)
def QuB(a:List Nd)(b:Nat):List Nd:=Nd.ki (Vr a b)
def QuC(a:List Nd)(b:Nat):List Sm:=Nd.bo (Vr a b)
def QE7(a:Nat)(b:Int):St:=St.mk [(N1,a,AObj.cells [ZI b])] []
def QE8(a:List Nd):D:=D.sl 15 (LN a) (fun i=>Nd.row1 (List.getD a i QlS)) Mode.any
end
theorem Dxx_ok(xm : Nat)(m : Int)(l : List Nd)(p : Nd -> Bool)(h : ∀b∈l, CS 65 (.agg b.row1::[.ref 1 xm 0]) ⟨[(1, xm, .cells [.int .i64 m])], []⟩ (.bool (p b)))(hl : l.length<=maxLen) :
  CS 84 [gsl 15 Nd.row1 l,.fn (.func 65) [] [.ref 1 xm 0]] ⟨[(1,xm,.cells [.int .i64 m])],[]⟩ (.int .i64 (EB p l 0)):=by
 refine CS.of (Bh (A:=sS _ _ _) (x:=()) (E:=EDxx xm m l p) (eOk (Bhs xm m h) rfl) Tryz.func84 rfl (by kernel_rfl) rfl (by simp[sS,EDxx,EC,E0]) ?_)
 refine Bl (T :=
  (∃(x:Nat),IdxG p l x/\(Z0=(↑x:Int)/\True)/\QmD xm m)/\∀(x:Nat),IdxG p l x->ifB (decide ((↑x:Int)<(LI l))) (Bf (Z0<=(↑x:Int)/\(↑x:Int)<(LI l)) (∃(x_1:Nd),(isN x_1 [D.agg [ZI (Nd.kd (Vr l x)),ZI (Nd.at_ (Vr l x)),ZI (Nd.cl (Vr l x)),D.str (Nd.tx (Vr l x)),ZI (Nd.pr (Vr l x)),ZI (Nd.op (Vr l x)),ZI (Arr.k (QmE l x)),SI (QE5 l x),SI (QE6 l x),D.sl N4 (LN (QuA l x)) (fun i=>Arr.row (List.getD (QuA l x) i Quz)) Mode.any,D.sl 15 (LN (QuB l x)) (fun i=>Nd.row (List.getD (QuB l x) i QlS)) Mode.any,D.sl 34 (LN (QuC l x)) (fun i=>Sm.row (List.getD (QuC l x) i (Sm.mk Z0 Z0 [] Z0 QlS QlS))) Mode.any,ZI (Nd.de (Vr l x)),ZI (Nd.sl (Vr l x)),ZI (Nd.ss (Vr l x))],D.ref N1 xm N0] [D.ref N1 xm N0]/\x_1∈l/\SM (QE7 xm m))/\∀(y:Unit),True->ifB (p x_1) (True/\∃(y:Unit),True/\(↑x:Int)=EB p l Z0/\QmD xm m) ((SM (QE8 l)/\SM (D.fn (Fn.func (65:Nat)) [] [D.ref N1 xm N0])/\SM D.unk/\SM (ZI (LI l))/\True)/\∃(y:Nat),IdxG p l y/\LN l-y<LN l-x/\(IntKind.wrap IntKind.i64 ((↑x:Int)+Z1)=(↑y:Int)/\True)/\QmD xm m))) (True/\∃(y:Unit),True/\(-1:Int)=EB p l Z0/\QmD xm m)) (by kernel_rfl) ?_
 delta DA GI LI LN N0 N1 N4 SI SM Z0 Z1 ZI QmD Quz QE7 QE8 QlS Vr QmE QE5 QE6 QuA QuB QuC
 try simp only[<- dn]
 simp only[Int.toNat_natCast,Bg,Be,decide_eq_true_eq,decide_eq_false_iff_not,true_and,and_true,exists_const]
 simp only[maxLen] at hl
 refine⟨⟨0,⟨Nat.zero_le _,by simp⟩,rfl⟩,fun i hh=>⟨fun hlt=>?_,fun hge=>(hh.done hge).symm⟩⟩
 have hlt':i<l.length:=by omega
 obtain ⟨s1,s2⟩:=hh.step hlt'
 have hm:l.getD i default∈l:=by rw[List.getD_eq_getElem?_getD,List.getElem?_eq_getElem hlt'];exact List.getElem_mem hlt'
 refine⟨⟨by omega,hlt⟩,l.getD i default,?_,fun _ _=>⟨fun e=>(s1 e).symm,fun e=>⟨i+1,s2 e,by omega,Bb (by omega) (by omega)⟩⟩⟩
 first
  |exact⟨Bc _,hm,rfl⟩
  |exact⟨Bc _,hm⟩
def Bh5(xm:Nat)(m:Int)(l:List Nd)(p:Nd->Bool):Con:=fun k ds S=>match k with
 |84=>some (pA ds S (.int .i64 (EB p l 0)) (wkL ds [gsl 15 Nd.row1 l,.fn (.func 65) [] [.ref 1 xm 0]]/\S=⟨[(1,xm,.cells [.int .i64 m])],[]⟩))
 |_=>none
noncomputable def EDxc(xm:Nat)(m:Int)(l:List Nd)(p:Nd->Bool):Senv:=EC (Bh5 xm m l p) 9 2 [4] (fun _=>([],[]))
noncomputable section
def QuD(a:List Nd)(b:Nat):List D:=[D.sl 15 (LN a) (fun i=>Nd.row1 (List.getD a i (Nd.mk Z0 Z0 Z0 [] Z0 Z0 DA [] [] Z0 Z0 Z0))) Mode.any,D.fn (Fn.func (65:Nat)) [] [D.ref N1 b N0]]
def QE9(a:Nat)(b:Int):St:=St.mk [(N1,a,AObj.cells [ZI b])] []
end
theorem Dxc_ok(xm : Nat)(m : Int)(l : List Nd)(p : Nd -> Bool)(h : ∀b∈l, CS 65 (.agg b.row1::[.ref 1 xm 0]) ⟨[(1, xm, .cells [.int .i64 m])], []⟩ (.bool (p b)))(hl : l.length<=maxLen) :
  CS 55 [gsl 15 Nd.row1 l,.fn (.func 65) [] [.ref 1 xm 0]] ⟨[(1,xm,.cells [.int .i64 m])],[]⟩ (.bool (l.any p)):=by
 refine CS.of (Bh (A:=sS _ _ _) (x:=()) (E:=EDxc xm m l p) (eOk ?_ rfl) Tryz.func55 rfl (by kernel_rfl) rfl (by simp[sS,EDxc,EC,E0]) ?_)
 ·intro k ds S A hh
  try unfold Bh5 at hh
  try dsimp only at hh
  split at hh
  ·injection hh with hh;subst hh
   refine Bm fun ⟨e,hs⟩=>?_
   rw[hs]
   exact (Dxx_ok xm m l p h hl).wk e
  ·cases hh
 refine Bl (T :=
  ∃(x:Unit),(wkL (QuD l xm) (QuD l xm)/\SM (QE9 xm m))/\∀(y:Unit),True->True/\∃(y:Unit),True/\decide (Z0<=EB p l Z0)=List.any l p/\(SM xm/\(SM m/\True)/\True)/\True) (by kernel_rfl) ?_
 delta DA LN N0 N1 SM Z0 ZI QuD QE9
 simp only[true_and,and_true,exists_const,forall_const]
 first
  |exact⟨Bc _,EL _ l 0 (Int.le_refl _)⟩
  |exact⟨⟨Bc _,rfl⟩,EL _ l 0 (Int.le_refl _)⟩
def Bfq  (l:List Nd)(p:Nd->Bool):Con:=fun k ds S=>match k with
 |101=>some (pE (β:=Nd) ds S (fun b=>.bool (p b)) (fun b=>isN b ds []/\b∈l/\S=⟨[],[]⟩))
 |_=>none
theorem Bhf  {l:List Nd}{p:Nd->Bool}(h:∀b∈l,CS 101 (.agg b.row1::[]) ⟨[],[]⟩ (.bool (p b))):ConOk Tryz.prog (Bfq  l p):=by
 intro k ds S A hh
 unfold Bfq at hh
 split at hh
 ·injection hh with hh;subst hh
  refine B7 fun b ⟨e,hb,hs⟩=>?_
  rw[hs]
  exact (h b hb).wk e
 ·cases hh
noncomputable def ENxx  (l:List Nd)(p:Nd->Bool):Senv:={ EC (Bfq  l p) 19 2 [4,5,7,8,9,16] (fun _=>([],[])) with
 ann:=fun b _ S=>match b with
  |0=>some { slots:=[8],keep:=[0,1,6,7],α:=Nat,st:=fun i=>([.int .i64 i],S),inv:=fun i=>IdxG p l i,mu:=fun i=>l.length-i }
  |_=>none }
noncomputable section
def QuE:Arr:=DA
def QlT:Nd:=Nd.mk Z0 Z0 Z0 [] Z0 Z0 QuE [] [] Z0 Z0 Z0
def Vs(a:List Nd)(b:Nat):Nd:=List.getD a (Int.toNat (↑b:Int)) QlT
def QmF(a:List Nd)(b:Nat):Arr:=Nd.va (Vs a b)
def QFa(a:List Nd)(b:Nat):List Int:=Arr.sh (QmF a b)
def QFb(a:List Nd)(b:Nat):List Int:=Arr.nu (QmF a b)
def QuF(a:List Nd)(b:Nat):List Arr:=Arr.it (QmF a b)
def QuG(a:List Nd)(b:Nat):List Nd:=Nd.ki (Vs a b)
def QuH(a:List Nd)(b:Nat):List Sm:=Nd.bo (Vs a b)
def QFc(a:List Nd):D:=D.sl 15 (LN a) (fun i=>Nd.row1 (List.getD a i QlT)) Mode.any
end
theorem Nxx_ok  (l : List Nd)(p : Nd -> Bool)(h : ∀b∈l, CS 101 (.agg b.row1::[]) ⟨[], []⟩ (.bool (p b)))(hl : l.length<=maxLen) :
  CS 84 [gsl 15 Nd.row1 l,.fn (.func 101) [] []] ⟨[],[]⟩ (.int .i64 (EB p l 0)):=by
 refine CS.of (Bh (A:=sS _ _ _) (x:=()) (E:=ENxx  l p) (eOk (Bhf  h) rfl) Tryz.func84 rfl (by kernel_rfl) rfl (by simp[sS,ENxx,EC,E0]) ?_)
 refine Bl (T :=
  (∃(x:Nat),IdxG p l x/\(Z0=(↑x:Int)/\True)/\True/\True)/\∀(x:Nat),IdxG p l x->ifB (decide ((↑x:Int)<(LI l))) (Bf (Z0<=(↑x:Int)/\(↑x:Int)<(LI l)) (∃(x_1:Nd),(isN x_1 [D.agg [ZI (Nd.kd (Vs l x)),ZI (Nd.at_ (Vs l x)),ZI (Nd.cl (Vs l x)),D.str (Nd.tx (Vs l x)),ZI (Nd.pr (Vs l x)),ZI (Nd.op (Vs l x)),ZI (Arr.k (QmF l x)),SI (QFa l x),SI (QFb l x),D.sl N4 (LN (QuF l x)) (fun i=>Arr.row (List.getD (QuF l x) i QuE)) Mode.any,D.sl 15 (LN (QuG l x)) (fun i=>Nd.row (List.getD (QuG l x) i QlT)) Mode.any,D.sl 34 (LN (QuH l x)) (fun i=>Sm.row (List.getD (QuH l x) i (Sm.mk Z0 Z0 [] Z0 QlT QlT))) Mode.any,ZI (Nd.de (Vs l x)),ZI (Nd.sl (Vs l x)),ZI (Nd.ss (Vs l x))]] []/\x_1∈l/\SM (St.mk [] []))/\∀(y:Unit),True->ifB (p x_1) (RT ((↑x:Int)=EB p l Z0)) ((SM (QFc l)/\SM (D.fn (Fn.func (101:Nat)) [] [])/\SM D.unk/\SM (ZI (LI l))/\True)/\∃(y:Nat),IdxG p l y/\LN l-y<LN l-x/\(IntKind.wrap IntKind.i64 ((↑x:Int)+Z1)=(↑y:Int)/\True)/\True/\True))) (RT ((-1:Int)=EB p l Z0))) (by kernel_rfl) ?_
 delta DA GI LI LN N1 N4 SI SM Z0 Z1 ZI QuE QlT Vs QmF QFa QFb QuF QuG QuH QFc RT
 try simp only[<- dn]
 simp only[Int.toNat_natCast,Bg,Be,decide_eq_true_eq,decide_eq_false_iff_not,true_and,and_true,exists_const]
 simp only[maxLen] at hl
 refine⟨⟨0,⟨Nat.zero_le _,by simp⟩,rfl⟩,fun i hh=>⟨fun hlt=>?_,fun hge=>(hh.done hge).symm⟩⟩
 have hlt':i<l.length:=by omega
 obtain ⟨s1,s2⟩:=hh.step hlt'
 have hm:l.getD i default∈l:=by rw[List.getD_eq_getElem?_getD,List.getElem?_eq_getElem hlt'];exact List.getElem_mem hlt'
 refine⟨⟨by omega,hlt⟩,l.getD i default,?_,fun _ _=>⟨fun e=>(s1 e).symm,fun e=>⟨i+1,s2 e,by omega,Bb (by omega) (by omega)⟩⟩⟩
 first
  |exact⟨Bc _,hm,rfl⟩
  |exact⟨Bc _,hm⟩
def BiV  (l:List Nd)(p:Nd->Bool):Con:=fun k ds S=>match k with
 |84=>some (pA ds S (.int .i64 (EB p l 0)) (wkL ds [gsl 15 Nd.row1 l,.fn (.func 101) [] []]/\S=⟨[],[]⟩))
 |_=>none
noncomputable def ENxc  (l:List Nd)(p:Nd->Bool):Senv:=EC (BiV  l p) 9 2 [4] (fun _=>([],[]))
noncomputable section
def QuI(a:List Nd):List D:=[D.sl 15 (LN a) (fun i=>Nd.row1 (List.getD a i (Nd.mk Z0 Z0 Z0 [] Z0 Z0 DA [] [] Z0 Z0 Z0))) Mode.any,D.fn (Fn.func (101:Nat)) [] []]
end
theorem Nxc_ok  (l : List Nd)(p : Nd -> Bool)(h : ∀b∈l, CS 101 (.agg b.row1::[]) ⟨[], []⟩ (.bool (p b)))(hl : l.length<=maxLen) :
  CS 55 [gsl 15 Nd.row1 l,.fn (.func 101) [] []] ⟨[],[]⟩ (.bool (l.any p)):=by
 refine CS.of (Bh (A:=sS _ _ _) (x:=()) (E:=ENxc  l p) (eOk ?_ rfl) Tryz.func55 rfl (by kernel_rfl) rfl (by simp[sS,ENxc,EC,E0]) ?_)
 ·intro k ds S A hh
  try unfold BiV at hh
  try dsimp only at hh
  split at hh
  ·injection hh with hh;subst hh
   refine Bm fun ⟨e,hs⟩=>?_
   rw[hs]
   exact (Nxx_ok  l p h hl).wk e
  ·cases hh
 refine Bl (T :=
  ∃(x:Unit),(wkL (QuI l) (QuI l)/\SM (St.mk [] []))/\∀(y:Unit),True->RT (decide (Z0<=EB p l Z0)=List.any l p)) (by kernel_rfl) ?_
 delta DA LN SM Z0 QuI RT
 simp only[true_and,and_true,exists_const,forall_const]
 first
  |exact⟨Bc _,EL _ l 0 (Int.le_refl _)⟩
  |exact⟨⟨Bc _,rfl⟩,EL _ l 0 (Int.le_refl _)⟩
def Be9(xi:Nat)(xk:Nat)(q:Int)(l:List Nd)(p:Nd->Bool):Con:=fun k ds S=>match k with
 |105=>some (pE (β:=Nd) ds S (fun b=>.bool (p b)) (fun b=>isN b ds [.ref 0 xk 0,.ref 1 xi 0]/\b∈l/\S=⟨[(1,xi,.cells [.fn (.func 105) [] [.ref 0 xk 0,.ref 1 xi 0]]),(0,xk,.cells [.int .i64 q])],[]⟩))
 |_=>none
theorem Bhi(xi:Nat)(xk:Nat)(q:Int){l:List Nd}{p:Nd->Bool}(h:∀b∈l,CS 105 (.agg b.row1::[.ref 0 xk 0,.ref 1 xi 0]) ⟨[(1,xi,.cells [.fn (.func 105) [] [.ref 0 xk 0,.ref 1 xi 0]]),(0,xk,.cells [.int .i64 q])],[]⟩ (.bool (p b))):ConOk Tryz.prog (Be9 xi xk q l p):=by
 intro k ds S A hh
 unfold Be9 at hh
 split at hh
 ·injection hh with hh;subst hh
  refine B7 fun b ⟨e,hb,hs⟩=>?_
  rw[hs]
  exact (h b hb).wk e
 ·cases hh
noncomputable def EOxx(xi:Nat)(xk:Nat)(q:Int)(l:List Nd)(p:Nd->Bool):Senv:={ EC (Be9 xi xk q l p) 19 2 [4,5,7,8,9,16] (fun _=>([],[])) with
 ann:=fun b _ S=>match b with
  |0=>some { slots:=[8],keep:=[0,1,6,7],α:=Nat,st:=fun i=>([.int .i64 i],S),inv:=fun i=>IdxG p l i,mu:=fun i=>l.length-i }
  |_=>none }
noncomputable section
def Qq7(a b:Nat):List D:=[D.ref N0 a N0,D.ref N1 b N0]
def QuJ(a b:Nat):D:=D.fn (Fn.func (105:Nat)) [] (Qq7 a b)
def QuK(a b:Nat):Prop:=SM (QuJ a b)
def QmG(a b:Nat)(c:Int):Prop:=(SM a/\(QuK b a/\True)/\SM b/\(SM c/\True)/\True)/\True
def QuL:Arr:=DA
def QlU:Nd:=Nd.mk Z0 Z0 Z0 [] Z0 Z0 QuL [] [] Z0 Z0 Z0
def Vt(a:List Nd)(b:Nat):Nd:=List.getD a (Int.toNat (↑b:Int)) QlU
def QmH(a:List Nd)(b:Nat):Arr:=Nd.va (Vt a b)
def QFd(a:List Nd)(b:Nat):List Int:=Arr.sh (QmH a b)
def QFe(a:List Nd)(b:Nat):List Int:=Arr.nu (QmH a b)
def QuM(a:List Nd)(b:Nat):List Arr:=Arr.it (QmH a b)
def QuN(a:List Nd)(b:Nat):List Nd:=Nd.ki (Vt a b)
def QuO(a:List Nd)(b:Nat):List Sm:=Nd.bo (Vt a b)
def QFf(a b:Nat)(c:Int):St:=St.mk [(N1,a,AObj.cells [QuJ b a]),(N0,b,AObj.cells [ZI c])] []
def QFg(a:List Nd):D:=D.sl 15 (LN a) (fun i=>Nd.row1 (List.getD a i QlU)) Mode.any
end
theorem Oxx_ok(xi : Nat)(xk : Nat)(q : Int)(l : List Nd)(p : Nd -> Bool)(h : ∀b∈l, CS 105 (.agg b.row1::[.ref 0 xk 0, .ref 1 xi 0]) ⟨[(1, xi, .cells [.fn (.func 105) [] [.ref 0 xk 0, .ref 1 xi 0]]), (0, xk, .cells [.int .i64 q])], []⟩ (.bool (p b)))(hl : l.length<=maxLen) :
  CS 84 [gsl 15 Nd.row1 l,.fn (.func 105) [] [.ref 0 xk 0,.ref 1 xi 0]] ⟨[(1,xi,.cells [.fn (.func 105) [] [.ref 0 xk 0,.ref 1 xi 0]]),(0,xk,.cells [.int .i64 q])],[]⟩ (.int .i64 (EB p l 0)):=by
 refine CS.of (Bh (A:=sS _ _ _) (x:=()) (E:=EOxx xi xk q l p) (eOk (Bhi xi xk q h) rfl) Tryz.func84 rfl (by kernel_rfl) rfl (by simp[sS,EOxx,EC,E0]) ?_)
 refine Bl (T :=
  (∃(x:Nat),IdxG p l x/\(Z0=(↑x:Int)/\True)/\QmG xi xk q)/\∀(x:Nat),IdxG p l x->ifB (decide ((↑x:Int)<(LI l))) (Bf (Z0<=(↑x:Int)/\(↑x:Int)<(LI l)) (∃(x_1:Nd),(isN x_1 (D.agg [ZI (Nd.kd (Vt l x)),ZI (Nd.at_ (Vt l x)),ZI (Nd.cl (Vt l x)),D.str (Nd.tx (Vt l x)),ZI (Nd.pr (Vt l x)),ZI (Nd.op (Vt l x)),ZI (Arr.k (QmH l x)),SI (QFd l x),SI (QFe l x),D.sl N4 (LN (QuM l x)) (fun i=>Arr.row (List.getD (QuM l x) i QuL)) Mode.any,D.sl 15 (LN (QuN l x)) (fun i=>Nd.row (List.getD (QuN l x) i QlU)) Mode.any,D.sl 34 (LN (QuO l x)) (fun i=>Sm.row (List.getD (QuO l x) i (Sm.mk Z0 Z0 [] Z0 QlU QlU))) Mode.any,ZI (Nd.de (Vt l x)),ZI (Nd.sl (Vt l x)),ZI (Nd.ss (Vt l x))]::Qq7 xk xi) (Qq7 xk xi)/\x_1∈l/\SM (QFf xi xk q))/\∀(y:Unit),True->ifB (p x_1) (True/\∃(y:Unit),True/\(↑x:Int)=EB p l Z0/\QmG xi xk q) ((SM (QFg l)/\QuK xk xi/\SM D.unk/\SM (ZI (LI l))/\True)/\∃(y:Nat),IdxG p l y/\LN l-y<LN l-x/\(IntKind.wrap IntKind.i64 ((↑x:Int)+Z1)=(↑y:Int)/\True)/\QmG xi xk q))) (True/\∃(y:Unit),True/\(-1:Int)=EB p l Z0/\QmG xi xk q)) (by kernel_rfl) ?_
 delta DA GI LI LN N0 N1 N4 SI SM Z0 Z1 ZI Qq7 QuJ QuK QmG QuL QlU Vt QmH QFd QFe QuM QuN QuO QFf QFg
 try simp only[<- dn]
 simp only[Int.toNat_natCast,Bg,Be,decide_eq_true_eq,decide_eq_false_iff_not,true_and,and_true,exists_const]
 simp only[maxLen] at hl
 refine⟨⟨0,⟨Nat.zero_le _,by simp⟩,rfl⟩,fun i hh=>⟨fun hlt=>?_,fun hge=>(hh.done hge).symm⟩⟩
 have hlt':i<l.length:=by omega
 obtain ⟨s1,s2⟩:=hh.step hlt'
 have hm:l.getD i default∈l:=by rw[List.getD_eq_getElem?_getD,List.getElem?_eq_getElem hlt'];exact List.getElem_mem hlt'
 refine⟨⟨by omega,hlt⟩,l.getD i default,?_,fun _ _=>⟨fun e=>(s1 e).symm,fun e=>⟨i+1,s2 e,by omega,Bb (by omega) (by omega)⟩⟩⟩
 first
  |exact⟨Bc _,hm,rfl⟩
  |exact⟨Bc _,hm⟩
def Bi2(xi:Nat)(xk:Nat)(q:Int)(l:List Nd)(p:Nd->Bool):Con:=fun k ds S=>match k with
 |84=>some (pA ds S (.int .i64 (EB p l 0)) (wkL ds [gsl 15 Nd.row1 l,.fn (.func 105) [] [.ref 0 xk 0,.ref 1 xi 0]]/\S=⟨[(1,xi,.cells [.fn (.func 105) [] [.ref 0 xk 0,.ref 1 xi 0]]),(0,xk,.cells [.int .i64 q])],[]⟩))
 |_=>none
noncomputable def EOxc(xi:Nat)(xk:Nat)(q:Int)(l:List Nd)(p:Nd->Bool):Senv:=EC (Bi2 xi xk q l p) 9 2 [4] (fun _=>([],[]))
noncomputable section
def QuP(a b:Nat):D:=D.fn (Fn.func (105:Nat)) [] [D.ref N0 a N0,D.ref N1 b N0]
def QuQ(a b:Nat):List D:=[QuP a b]
def QuR(a:List Nd)(b c:Nat):List D:=D.sl 15 (LN a) (fun i=>Nd.row1 (List.getD a i (Nd.mk Z0 Z0 Z0 [] Z0 Z0 DA [] [] Z0 Z0 Z0))) Mode.any::QuQ b c
def QFh(a b:Nat)(c:Int):St:=St.mk [(N1,a,AObj.cells (QuQ b a)),(N0,b,AObj.cells [ZI c])] []
end
theorem Oxc_ok(xi : Nat)(xk : Nat)(q : Int)(l : List Nd)(p : Nd -> Bool)(h : ∀b∈l, CS 105 (.agg b.row1::[.ref 0 xk 0, .ref 1 xi 0]) ⟨[(1, xi, .cells [.fn (.func 105) [] [.ref 0 xk 0, .ref 1 xi 0]]), (0, xk, .cells [.int .i64 q])], []⟩ (.bool (p b)))(hl : l.length<=maxLen) :
  CS 55 [gsl 15 Nd.row1 l,.fn (.func 105) [] [.ref 0 xk 0,.ref 1 xi 0]] ⟨[(1,xi,.cells [.fn (.func 105) [] [.ref 0 xk 0,.ref 1 xi 0]]),(0,xk,.cells [.int .i64 q])],[]⟩ (.bool (l.any p)):=by
 refine CS.of (Bh (A:=sS _ _ _) (x:=()) (E:=EOxc xi xk q l p) (eOk ?_ rfl) Tryz.func55 rfl (by kernel_rfl) rfl (by simp[sS,EOxc,EC,E0]) ?_)
 ·intro k ds S A hh
  try unfold Bi2 at hh
  try dsimp only at hh
  split at hh
  ·injection hh with hh;subst hh
   refine Bm fun ⟨e,hs⟩=>?_
   rw[hs]
   exact (Oxx_ok xi xk q l p h hl).wk e
  ·cases hh
 refine Bl (T :=
  ∃(x:Unit),(wkL (QuR l xk xi) (QuR l xk xi)/\SM (QFh xi xk q))/\∀(y:Unit),True->True/\∃(y:Unit),True/\decide (Z0<=EB p l Z0)=List.any l p/\(SM xi/\(SM (QuP xk xi)/\True)/\SM xk/\(SM q/\True)/\True)/\True) (by kernel_rfl) ?_
 delta DA LN N0 N1 SM Z0 ZI QuP QuQ QuR QFh
 simp only[true_and,and_true,exists_const,forall_const]
 first
  |exact⟨Bc _,EL _ l 0 (Int.le_refl _)⟩
  |exact⟨⟨Bc _,rfl⟩,EL _ l 0 (Int.le_refl _)⟩
def Bfx(xi:Nat)(xk:Nat)(q:Int)(l:List Sm)(p:Sm->Bool):Con:=fun k ds S=>match k with
 |106=>some (pE (β:=Sm) ds S (fun b=>.bool (p b)) (fun b=>isS b ds [.ref 1 xi 0]/\b∈l/\S=⟨[(1,xi,.cells [.fn (.func 105) [] [.ref 0 xk 0,.ref 1 xi 0]]),(0,xk,.cells [.int .i64 q])],[]⟩))
 |_=>none
theorem Bhw(xi:Nat)(xk:Nat)(q:Int){l:List Sm}{p:Sm->Bool}(h:∀b∈l,CS 106 (.agg b.row1::[.ref 1 xi 0]) ⟨[(1,xi,.cells [.fn (.func 105) [] [.ref 0 xk 0,.ref 1 xi 0]]),(0,xk,.cells [.int .i64 q])],[]⟩ (.bool (p b))):ConOk Tryz.prog (Bfx xi xk q l p):=by
 intro k ds S A hh
 unfold Bfx at hh
 split at hh
 ·injection hh with hh;subst hh
  refine B7 fun b ⟨e,hb,hs⟩=>?_
  rw[hs]
  exact (h b hb).wk e
 ·cases hh
noncomputable def EPxx(xi:Nat)(xk:Nat)(q:Int)(l:List Sm)(p:Sm->Bool):Senv:={ EC (Bfx xi xk q l p) 19 2 [4,5,7,8,9,16] (fun _=>([],[])) with
 ann:=fun b _ S=>match b with
  |0=>some { slots:=[8],keep:=[0,1,6,7],α:=Nat,st:=fun i=>([.int .i64 i],S),inv:=fun i=>IdxG p l i,mu:=fun i=>l.length-i }
  |_=>none }
noncomputable section
def QuS(a b:Nat):D:=D.fn (Fn.func (105:Nat)) [] [D.ref N0 a N0,D.ref N1 b N0]
def QmI(a b:Nat)(c:Int):Prop:=(SM a/\(SM (QuS b a)/\True)/\SM b/\(SM c/\True)/\True)/\True
def Qq8:Arr:=DA
def QmJ:Nd:=Nd.mk Z0 Z0 Z0 [] Z0 Z0 Qq8 [] [] Z0 Z0 Z0
def QmK:Sm:=Sm.mk Z0 Z0 [] Z0 QmJ QmJ
def QcI(a:List Sm)(b:Nat):Sm:=List.getD a (Int.toNat (↑b:Int)) QmK
def Vu(a:List Sm)(b:Nat):Nd:=Sm.te (QcI a b)
def QmL(a:List Sm)(b:Nat):Arr:=Nd.va (Vu a b)
def QFi(a:List Sm)(b:Nat):List Int:=Arr.sh (QmL a b)
def QFj(a:List Sm)(b:Nat):List Int:=Arr.nu (QmL a b)
def QuT(a:List Sm)(b:Nat):List Arr:=Arr.it (QmL a b)
def QuU(a:List Sm)(b:Nat):List Nd:=Nd.ki (Vu a b)
def QuV(a:List Sm)(b:Nat):List Sm:=Nd.bo (Vu a b)
def Vv(a:List Sm)(b:Nat):Nd:=Sm.nd (QcI a b)
def QmM(a:List Sm)(b:Nat):Arr:=Nd.va (Vv a b)
def QFk(a:List Sm)(b:Nat):List Int:=Arr.sh (QmM a b)
def QFl(a:List Sm)(b:Nat):List Int:=Arr.nu (QmM a b)
def QuW(a:List Sm)(b:Nat):List Arr:=Arr.it (QmM a b)
def QuX(a:List Sm)(b:Nat):List Nd:=Nd.ki (Vv a b)
def QuY(a:List Sm)(b:Nat):List Sm:=Nd.bo (Vv a b)
def QFm(a b:Nat)(c:Int):St:=St.mk [(N1,a,AObj.cells [QuS b a]),(N0,b,AObj.cells [ZI c])] []
def QFn(a:List Sm):D:=D.sl 34 (LN a) (fun i=>Sm.row1 (List.getD a i QmK)) Mode.any
end
theorem Pxx_ok(xi : Nat)(xk : Nat)(q : Int)(l : List Sm)(p : Sm -> Bool)(h : ∀b∈l, CS 106 (.agg b.row1::[.ref 1 xi 0]) ⟨[(1, xi, .cells [.fn (.func 105) [] [.ref 0 xk 0, .ref 1 xi 0]]), (0, xk, .cells [.int .i64 q])], []⟩ (.bool (p b)))(hl : l.length<=maxLen) :
  CS 85 [gsl 34 Sm.row1 l,.fn (.func 106) [] [.ref 1 xi 0]] ⟨[(1,xi,.cells [.fn (.func 105) [] [.ref 0 xk 0,.ref 1 xi 0]]),(0,xk,.cells [.int .i64 q])],[]⟩ (.int .i64 (EB p l 0)):=by
 refine CS.of (Bh (A:=sS _ _ _) (x:=()) (E:=EPxx xi xk q l p) (eOk (Bhw xi xk q h) rfl) Tryz.func85 rfl (by kernel_rfl) rfl (by simp[sS,EPxx,EC,E0]) ?_)
 refine Bl (T :=
  (∃(x:Nat),IdxG p l x/\(Z0=(↑x:Int)/\True)/\QmI xi xk q)/\∀(x:Nat),IdxG p l x->ifB (decide ((↑x:Int)<(LI l))) (Bf (Z0<=(↑x:Int)/\(↑x:Int)<(LI l)) (∃(x_1:Sm),(isS x_1 [D.agg [ZI (Sm.kd (QcI l x)),ZI (Sm.at_ (QcI l x)),D.str (Sm.nm (QcI l x)),ZI (Sm.sl (QcI l x)),ZI (Nd.kd (Vu l x)),ZI (Nd.at_ (Vu l x)),ZI (Nd.cl (Vu l x)),D.str (Nd.tx (Vu l x)),ZI (Nd.pr (Vu l x)),ZI (Nd.op (Vu l x)),ZI (Arr.k (QmL l x)),SI (QFi l x),SI (QFj l x),D.sl N4 (LN (QuT l x)) (fun i=>Arr.row (List.getD (QuT l x) i Qq8)) Mode.any,D.sl 15 (LN (QuU l x)) (fun i=>Nd.row (List.getD (QuU l x) i QmJ)) Mode.any,D.sl 34 (LN (QuV l x)) (fun i=>Sm.row (List.getD (QuV l x) i QmK)) Mode.any,ZI (Nd.de (Vu l x)),ZI (Nd.sl (Vu l x)),ZI (Nd.ss (Vu l x)),ZI (Nd.kd (Vv l x)),ZI (Nd.at_ (Vv l x)),ZI (Nd.cl (Vv l x)),D.str (Nd.tx (Vv l x)),ZI (Nd.pr (Vv l x)),ZI (Nd.op (Vv l x)),ZI (Arr.k (QmM l x)),SI (QFk l x),SI (QFl l x),D.sl N4 (LN (QuW l x)) (fun i=>Arr.row (List.getD (QuW l x) i Qq8)) Mode.any,D.sl 15 (LN (QuX l x)) (fun i=>Nd.row (List.getD (QuX l x) i QmJ)) Mode.any,D.sl 34 (LN (QuY l x)) (fun i=>Sm.row (List.getD (QuY l x) i QmK)) Mode.any,ZI (Nd.de (Vv l x)),ZI (Nd.sl (Vv l x)),ZI (Nd.ss (Vv l x))],D.ref N1 xi N0] [D.ref N1 xi N0]/\x_1∈l/\SM (QFm xi xk q))/\∀(y:Unit),True->ifB (p x_1) (True/\∃(y:Unit),True/\(↑x:Int)=EB p l Z0/\QmI xi xk q) ((SM (QFn l)/\SM (D.fn (Fn.func (106:Nat)) [] [D.ref N1 xi N0])/\SM D.unk/\SM (ZI (LI l))/\True)/\∃(y:Nat),IdxG p l y/\LN l-y<LN l-x/\(IntKind.wrap IntKind.i64 ((↑x:Int)+Z1)=(↑y:Int)/\True)/\QmI xi xk q))) (True/\∃(y:Unit),True/\(-1:Int)=EB p l Z0/\QmI xi xk q)) (by kernel_rfl) ?_
 delta DA GI LI LN N0 N1 N4 SI SM Z0 Z1 ZI QuS QmI Qq8 QmJ QmK QcI Vu QmL QFi QFj QuT QuU QuV Vv QmM QFk QFl QuW QuX QuY QFm QFn
 try simp only[<- dn]
 simp only[Int.toNat_natCast,Bg,Be,decide_eq_true_eq,decide_eq_false_iff_not,true_and,and_true,exists_const]
 simp only[maxLen] at hl
 refine⟨⟨0,⟨Nat.zero_le _,by simp⟩,rfl⟩,fun i hh=>⟨fun hlt=>?_,fun hge=>(hh.done hge).symm⟩⟩
 have hlt':i<l.length:=by omega
 obtain ⟨s1,s2⟩:=hh.step hlt'
 have hm:l.getD i default∈l:=by rw[List.getD_eq_getElem?_getD,List.getElem?_eq_getElem hlt'];exact List.getElem_mem hlt'
 refine⟨⟨by omega,hlt⟩,l.getD i default,?_,fun _ _=>⟨fun e=>(s1 e).symm,fun e=>⟨i+1,s2 e,by omega,Bb (by omega) (by omega)⟩⟩⟩
 first
  |exact⟨Bc _,hm,rfl⟩
  |exact⟨Bc _,hm⟩
def BiX(xi:Nat)(xk:Nat)(q:Int)(l:List Sm)(p:Sm->Bool):Con:=fun k ds S=>match k with
 |85=>some (pA ds S (.int .i64 (EB p l 0)) (wkL ds [gsl 34 Sm.row1 l,.fn (.func 106) [] [.ref 1 xi 0]]/\S=⟨[(1,xi,.cells [.fn (.func 105) [] [.ref 0 xk 0,.ref 1 xi 0]]),(0,xk,.cells [.int .i64 q])],[]⟩))
 |_=>none
noncomputable def EPxc(xi:Nat)(xk:Nat)(q:Int)(l:List Sm)(p:Sm->Bool):Senv:=EC (BiX xi xk q l p) 9 2 [4] (fun _=>([],[]))
noncomputable section
def QuZ:Nd:=Nd.mk Z0 Z0 Z0 [] Z0 Z0 DA [] [] Z0 Z0 Z0
def Qu0(a:List Sm)(b:Nat):List D:=[D.sl 34 (LN a) (fun i=>Sm.row1 (List.getD a i (Sm.mk Z0 Z0 [] Z0 QuZ QuZ))) Mode.any,D.fn (Fn.func (106:Nat)) [] [D.ref N1 b N0]]
def Qu1(a b:Nat):D:=D.fn (Fn.func (105:Nat)) [] [D.ref N0 a N0,D.ref N1 b N0]
def QFo(a b:Nat)(c:Int):St:=St.mk [(N1,a,AObj.cells [Qu1 b a]),(N0,b,AObj.cells [ZI c])] []
end
theorem Pxc_ok(xi : Nat)(xk : Nat)(q : Int)(l : List Sm)(p : Sm -> Bool)(h : ∀b∈l, CS 106 (.agg b.row1::[.ref 1 xi 0]) ⟨[(1, xi, .cells [.fn (.func 105) [] [.ref 0 xk 0, .ref 1 xi 0]]), (0, xk, .cells [.int .i64 q])], []⟩ (.bool (p b)))(hl : l.length<=maxLen) :
  CS 56 [gsl 34 Sm.row1 l,.fn (.func 106) [] [.ref 1 xi 0]] ⟨[(1,xi,.cells [.fn (.func 105) [] [.ref 0 xk 0,.ref 1 xi 0]]),(0,xk,.cells [.int .i64 q])],[]⟩ (.bool (l.any p)):=by
 refine CS.of (Bh (A:=sS _ _ _) (x:=()) (E:=EPxc xi xk q l p) (eOk ?_ rfl) Tryz.func56 rfl (by kernel_rfl) rfl (by simp[sS,EPxc,EC,E0]) ?_)
 ·intro k ds S A hh
  try unfold BiX at hh
  try dsimp only at hh
  split at hh
  ·injection hh with hh;subst hh
   refine Bm fun ⟨e,hs⟩=>?_
   rw[hs]
   exact (Pxx_ok xi xk q l p h hl).wk e
  ·cases hh
 refine Bl (T :=
  ∃(x:Unit),(wkL (Qu0 l xi) (Qu0 l xi)/\SM (QFo xi xk q))/\∀(y:Unit),True->True/\∃(y:Unit),True/\decide (Z0<=EB p l Z0)=List.any l p/\(SM xi/\(SM (Qu1 xk xi)/\True)/\SM xk/\(SM q/\True)/\True)/\True) (by kernel_rfl) ?_
 delta DA LN N0 N1 SM Z0 ZI QuZ Qu0 Qu1 QFo
 simp only[true_and,and_true,exists_const,forall_const]
 first
  |exact⟨Bc _,EL _ l 0 (Int.le_refl _)⟩
  |exact⟨⟨Bc _,rfl⟩,EL _ l 0 (Int.le_refl _)⟩
theorem M6{n b:Nd}(h:b∈B0 n):szN b<szN n:=by
 have:=BgM h
 rw[BaW n]
 omega
theorem Cv{n b:Nd}(h:n.sm)(hb:b∈B0 n):b.sm:=by
 cases n with
 |mk kd at_ cl tx pr op va ki bo de sl ss =>
  simp only[Nd.sm] at h
  obtain ⟨_,_,h1,h2⟩:=h
  rcases List.mem_append.1 hb with hb | hb
  ·exact (UJ _).1 h1 b hb
  ·obtain ⟨s,hs,hb⟩:=List.mem_flatMap.1 hb
   have h3:=(IS _).1 h2 s hs
   cases s with
   |mk k2 a2 nm s2 te nd =>
    simp only[Sm.sm] at h3
    unfold Bs at hb
    split at hb
    ·rcases List.mem_cons.1 hb with rfl | hb
     ·exact h3.2.1
     ·rcases List.mem_cons.1 hb with rfl | hb
      ·exact h3.2.2
      ·cases hb
    ·rcases List.mem_cons.1 hb with rfl | hb
     ·exact h3.2.2
     ·cases hb
theorem BZ{n:Nd}(h:n.sm):n.tx.length<=BX/\n.ki.length<=BX/\n.bo.length<=BX:=by
 cases n with
 |mk kd at_ cl tx pr op va ki bo de sl ss =>
  simp only[Nd.sm] at h
  exact h.1
theorem BdY{n:Nd}(h:n.sm):(B0 n).length<=maxLen:=by
 obtain ⟨_,h1,h2⟩:=BZ h
 have:=BgZ n
 unfold BX at h1 h2
 unfold maxLen
 omega
def EE(n:Nd)(m:Int):Bool:=decide (m<(dpN n:Int))
theorem WM(m:Int):∀l:List Nd,(l.any fun b=>EE b m)=true↔(l≠[]/\m<(dpL l:Int))
 | []=>by simp
 | [x]=>by
  simp only[List.any_cons,List.any_nil,Bool.or_false,EE,decide_eq_true_eq,dpL]
  have:=BcK x
  constructor
  ·intro h;exact⟨by simp,by omega⟩
  ·rintro ⟨_,h⟩;omega
 |x::y::r=>by
  have ih:=WM m (y::r)
  have e:dpL (x::y::r)=max (dpN x) (dpL (y::r)):=by simp only[dpL]
  rw[List.any_cons,Bool.or_eq_true,ih,e]
  simp only[EE,decide_eq_true_eq,ne_eq,reduceCtorEq,not_false_eq_true,true_and]
  omega
theorem Bkn(n:Nd)(m:Int):EE n m=(decide (m<1)||(B0 n).any fun b=>EE b (m-1)):=by
 rw[Bool.eq_iff_iff,Bool.or_eq_true,WM,decide_eq_true_eq]
 unfold EE
 rw[decide_eq_true_eq,EW n]
 cases hi:B0 n with
 |nil =>
  simp only[dpL,ne_eq,not_true_eq_false,false_and,or_false]
  omega
 |cons x r =>
  simp only[ne_eq,reduceCtorEq,not_false_eq_true,true_and]
  have:=BcK x
  have:dpN x<=dpL (x::r):=E4 (by simp)
  omega
def BlP(b:Nd)(m:Int):Con:=fun k ds S=>match k with
 |39=>some (pA ds S (.bool (EE b m)) (isN b ds [.int .i64 m]))
 |_=>none
noncomputable def Ed1(b:Nd)(m:Int):Senv:=EC (BlP b (m-1)) 8 4 [] (fun _=>([],[]))
noncomputable section
def QmN(a:Nd):Arr:=Nd.va a
def QFp(a:Nd):List Int:=Arr.sh (QmN a)
def QFq(a:Nd):List Int:=Arr.nu (QmN a)
def Qu2(a:Nd):List Arr:=Arr.it (QmN a)
def Qu3:Arr:=DA
def Qq9:Nd:=Nd.mk Z0 Z0 Z0 [] Z0 Z0 Qu3 [] [] Z0 Z0 Z0
end
theorem Bnd(b : Nd)(m : Int)(hm : Cs m)(h1 : 1<=m)(h : CD 39 [.agg b.row1, .int .i64 (m-1)] (.bool (EE b (m-1))))(xm : Nat) :
  CS 65 [.agg b.row1,.ref 1 xm 0] ⟨[(1,xm,.cells [.int .i64 m])],[]⟩ (.bool (EE b (m-1))):=by
 refine CS.of (Bh (A:=sS _ _ _) (x:=()) (E:=Ed1 b m) (eOk ?_ rfl) Tryz.func65 rfl (by kernel_rfl) rfl (by simp[sS,Ed1,EC,E0]) ?_)
 ·intro k ds S A hh
  try unfold BlP at hh
  try dsimp only at hh
  split at hh
  ·injection hh with hh;subst hh
   exact Bm fun e=>CD.at_ (h.wk e) _
  ·cases hh
 refine Bl (T :=
  ∀(x:Nat),xm≠x/\True->SM x/\SM xm/\∃(x:Unit),isN b [D.agg [ZI (Nd.kd b),ZI (Nd.at_ b),ZI (Nd.cl b),D.str (Nd.tx b),ZI (Nd.pr b),ZI (Nd.op b),ZI (Arr.k (QmN b)),SI (QFp b),SI (QFq b),D.sl N4 (LN (Qu2 b)) (fun i=>Arr.row (List.getD (Qu2 b) i Qu3)) Mode.any,D.sl 15 (LN (Nd.ki b)) (fun i=>Nd.row (List.getD (Nd.ki b) i Qq9)) Mode.any,D.sl 34 (LN (Nd.bo b)) (fun i=>Sm.row (List.getD (Nd.bo b) i (Sm.mk Z0 Z0 [] Z0 Qq9 Qq9))) Mode.any,ZI (Nd.de b),ZI (Nd.sl b),ZI (Nd.ss b)],ZI (IntKind.wrap IntKind.i64 (m-Z1))] [ZI (m-Z1)]/\∀(y:Unit),True->True/\∃(y:Unit),True/\SM (EE b (m-Z1))/\(SM xm/\(SM m/\True)/\True)/\True) (by kernel_rfl) ?_
 delta DA GI LN N1 N4 SI SM Z0 Z1 ZI QmN QFp QFq Qu2 Qu3 Qq9
 simp only[eq_self,ne_eq,implies_true,true_and,and_true,exists_const]
 have w:IntKind.i64.wrap (m-1)=m-1:=by unfold Cs at hm;exact Bb (by omega) (by omega)
 rw[w]
 exact fun _ _=>BH _ _
def BlD(n:Nd)(m:Int):Con:=fun k ds S=>match k with
 |64=>some (pA ds S (gsl 15 Nd.row1 (B0 n)) (isN2 n ds []))
 |55=>match ds with
  | [_,.fn _ _ [.ref _ xm _]]=>some (pA ds S (.bool ((B0 n).any fun b=>EE b (m-1))) (1<=m/\wkL ds [gsl 15 Nd.row1 (B0 n),.fn (.func 65) [] [.ref 1 xm 0]]/\∃F,S=St.add ⟨[(1,xm,.cells [.int .i64 m])],[]⟩ F))
  |_=>none
 |_=>none
noncomputable def Ede(n:Nd)(m:Int):Senv:=EC (BlD n m) 13 5 [] (fun _=>([],[]))
noncomputable section
def QmO(a:Nd):Arr:=Nd.va a
def QFr(a:Nd):List Int:=Arr.sh (QmO a)
def QFs(a:Nd):List Int:=Arr.nu (QmO a)
def Qu4(a:Nd):List Arr:=Arr.it (QmO a)
def Qu5:Arr:=DA
def QmP:Nd:=Nd.mk Z0 Z0 Z0 [] Z0 Z0 Qu5 [] [] Z0 Z0 Z0
def Qu6(a:Nd):List D:=[ZI (Nd.kd a),ZI (Nd.at_ a),ZI (Nd.cl a),D.str (Nd.tx a),ZI (Nd.pr a),ZI (Nd.op a),ZI (Arr.k (QmO a)),SI (QFr a),SI (QFs a),D.sl N4 (LN (Qu4 a)) (fun i=>Arr.row (List.getD (Qu4 a) i Qu5)) Mode.any,D.sl 15 (LN (Nd.ki a)) (fun i=>Nd.row1 (List.getD (Nd.ki a) i QmP)) Mode.any,D.sl 34 (LN (Nd.bo a)) (fun i=>Sm.row1 (List.getD (Nd.bo a) i (Sm.mk Z0 Z0 [] Z0 QmP QmP))) Mode.any,ZI (Nd.de a),ZI (Nd.sl a),ZI (Nd.ss a)]
def Qra(a:Nd):List Nd:=B0 a
def Qu7(a:Nd):D:=D.sl 15 (LN (Qra a)) (fun i=>Nd.row1 (List.getD (Qra a) i QmP)) Mode.any
end
theorem Bku(n : Nd)(m : Int)(hn : n.sm)(hm : Cs m)(h : 1<=m -> ∀b∈B0 n, CD 39 [.agg b.row1, .int .i64 (m-1)] (.bool (EE b (m-1)))) :
  CD 39 [.agg n.row2,.int .i64 m] (.bool (EE n m)):=by
 obtain ⟨_,k1,k2⟩:=BZ hn
 refine Bh (A:=sC _ _) (x:=()) (E:=Ede n m) (eOk ?_ rfl) Tryz.func39 rfl (by kernel_rfl) rfl (by simp[sC,Ede,EC,E0]) ?_
 ·intro k ds S A hh
  try unfold BlD at hh
  try dsimp only at hh
  split at hh
  ·injection hh with hh;subst hh
   exact Bm fun e=>CD.at_ (CD.wk (BiN n k1 k2) e) _
  ·split at hh
   ·injection hh with hh;subst hh
    refine Bm fun ⟨h1,e,F,hS⟩=>?_
    rw[hS]
    exact CS.frame F (CS.wk (Dxc_ok _ m (B0 n) (fun b=>EE b (m-1)) (fun b hb=>Bnd b m hm h1 (h h1 b hb) _) (BdY hn)) e)
   ·cases hh
  ·cases hh
 refine Bl (T :=
  ∀(x:Nat),True->∀(x_1:Nat),x≠x_1/\True->SM x_1/\ifB (decide (m<Z1)) (RT (true=EE n m)) (SM x/\∃(x_2:Unit),isN2 n [D.agg (Qu6 n)] []/\∀(y:Unit),True->∃(x_3:Unit),(Z1<=m/\wkL [Qu7 n,D.fn (Fn.func (65:Nat)) [] [D.ref (max (N0+N1) N0) x_1 N0]] [Qu7 n,D.fn (Fn.func (65:Nat)) [] [D.ref N1 x_1 N0]]/\∃(F:St),St.mk [(max (N0+N1) N0,x_1,AObj.cells [ZI m]),(N0,x,AObj.cells (Qu6 n))] []=St.mk ((N1,x_1,AObj.cells [ZI m])::List.append [] (St.objs F)) ([]++St.toks F))/\∀(y:Unit),True->RT ((List.any (Qra n) fun (b:Nd)=>EE b (m-Z1))=EE n m))) (by kernel_rfl) ?_
 delta DA GI LN N0 N1 N4 SI SM Z0 Z1 ZI Qu5 QmP Qu6 Qra Qu7 QmO QFr QFs Qu4 RT
 simp only[eq_self,ne_eq,Bg,decide_eq_true_eq,decide_eq_false_iff_not,true_and,and_true,exists_const,forall_const]
 rw[Bkn]
 exact fun x x1 _=>⟨fun h=>by simp[h],fun h=>⟨Cq n _,⟨by omega,Bc _,⟨⟨[_],[]⟩,rfl⟩⟩,by simp[h]⟩⟩
theorem Blz(n:Nd)(m:Int)(hn:n.sm)(hm:Cs m):CD 39 [.agg n.row2,.int .i64 m] (.bool (EE n m)):=by
 refine Bku n m hn hm fun h1 b hb=>CD.down (Blz b (m-1) (Cv hn hb) ?_)
 unfold Cs at hm ⊢
 omega
termination_by szN n
decreasing_by exact M6 hb
def BcR(xi xk:Nat)(q:Int):St:=⟨[(1,xi,.cells [.fn (.func 105) [] [.ref 0 xk 0,.ref 1 xi 0]]),(0,xk,.cells [.int .i64 q])],[]⟩
theorem BQ{n b:Nd}(h:b∈n.ki):b∈B0 n:=List.mem_append.2 (.inl h)
def BgO(l:List Nd)(xi xk:Nat)(q:Int):Con:=fun k ds S=>match k with
 |38=>some (pE (β:=Sm) ds S (fun s=>gsl 15 Nd.row1 (Bs s)) (fun s=>isS s ds []))
 |55=>some (pA ds S (.bool (l.any (Gs q))) (wkL ds [gsl 15 Nd.row1 l,.fn (.func 105) [] [.ref 0 xk 0,.ref 1 xi 0]]/\∃o,S=⟨o::(BcR xi xk q).objs,[]⟩))
 |_=>none
theorem Bd9{l:List Nd}{xi xk:Nat}{q:Int}(hn:l.length<=maxLen)(h:∀b∈l,CS 105 [.agg b.row1,.ref 0 xk 0,.ref 1 xi 0] (BcR xi xk q) (.bool (Gs q b))):ConOk Tryz.prog (BgO l xi xk q):=by
 intro k ds S A hh
 unfold BgO at hh
 split at hh
 ·injection hh with hh;subst hh
  exact B7 fun s e=>CD.at_ (CD.wk (Bjy s) e) _
 ·injection hh with hh;subst hh
  refine Bm fun ⟨e,o,hS⟩=>?_
  rw[hS]
  exact CS.front o (CS.wk (Oxc_ok xi xk q l (Gs q) h hn) e)
 ·cases hh
noncomputable def Eo1(l:List Nd)(xi xk:Nat)(q:Int):Senv:=EC (BgO l xi xk q) 20 5 [] (fun _=>([],[]))
noncomputable section
def Qu8(a b:Nat):D:=D.fn (Fn.func (105:Nat)) [] [D.ref N0 a N0,D.ref N1 b N0]
def Qrb(a b:Nat)(c:Int):Prop:=(SM a/\(SM (Qu8 b a)/\True)/\SM b/\(SM c/\True)/\True)/\True
def Qu9:Arr:=DA
def Qrc:Nd:=Nd.mk Z0 Z0 Z0 [] Z0 Z0 Qu9 [] [] Z0 Z0 Z0
def Qva(a:Nd):D:=D.sl 15 (LN (Nd.ki a)) (fun i=>Nd.row1 (List.getD (Nd.ki a) i Qrc)) Mode.any
def Qvb(a b:Nat):List D:=[Qu8 a b]
def Qvc(a:Nd)(b c:Nat):List D:=Qva a::Qvb b c
def QmQ(a:Nd):Arr:=Nd.va a
def QFt(a:Nd):List Int:=Arr.sh (QmQ a)
def QFu(a:Nd):List Int:=Arr.nu (QmQ a)
def Qvd(a:Nd):List Arr:=Arr.it (QmQ a)
def Qve(a b:Nat)(c:Int):List (Nat×Nat×AObj):=[(N1,a,AObj.cells (Qvb b a)),(N0,b,AObj.cells [ZI c])]
end
theorem Bk8(n : Nd)(xi xk : Nat)(q : Int)(hn : n.ki.length<=maxLen)(h : ∀b∈n.ki, CS 105 [.agg b.row1, .ref 0 xk 0, .ref 1 xi 0] (BcR xi xk q) (.bool (Gs q b))) :
  CS 105 [.agg n.row2,.ref 0 xk 0,.ref 1 xi 0] (BcR xi xk q) (.bool (Gs q n)):=by
 refine CS.of (Bh (A:=sS _ _ _) (x:=()) (E:=Eo1 n.ki xi xk q) (eOk (Bd9 hn h) rfl) Tryz.func105 rfl (by kernel_rfl) rfl (by simp[sS,Eo1,EC,E0]) ?_)
 refine Bl (T :=
  ∀(x:Nat),xi≠x/\xk≠x/\True->SM x/\SM xk/\ifB (Nd.kd n==q) (True/\∃(y:Unit),True/\true=Gs q n/\Qrb xi xk q) (SM x/\ifB (Nd.kd n != (10:Int)) (SM x/\SM xi/\∃(x_1:Unit),(wkL (Qvc n xk xi) (Qvc n xk xi)/\∃(o:Nat×Nat×AObj),St.mk ((N2,x,AObj.cells [ZI (Nd.kd n),ZI (Nd.at_ n),ZI (Nd.cl n),D.str (Nd.tx n),ZI (Nd.pr n),ZI (Nd.op n),ZI (Arr.k (QmQ n)),SI (QFt n),SI (QFu n),D.sl N4 (LN (Qvd n)) (fun i=>Arr.row (List.getD (Qvd n) i Qu9)) Mode.any,Qva n,D.sl 34 (LN (Nd.bo n)) (fun i=>Sm.row1 (List.getD (Nd.bo n) i (Sm.mk Z0 Z0 [] Z0 Qrc Qrc))) Mode.any,ZI (Nd.de n),ZI (Nd.sl n),ZI (Nd.ss n)])::Qve xi xk q) []=St.mk (o::Qve xi xk q) [])/\∀(y:Unit),True->True/\∃(y:Unit),True/\List.any (Nd.ki n) (Gs q)=Gs q n/\Qrb xi xk q) (True/\∃(y:Unit),True/\false=Gs q n/\Qrb xi xk q))) (by kernel_rfl) ?_
 delta DA GI LN N0 N1 N2 N4 SI SM Z0 ZI Qu8 Qrb Qvd Qve Qu9 Qrc Qva Qvb Qvc QmQ QFt QFu
 try simp only[<- dm]
 try simp only[<- dn]
 simp only[ne_eq,Bg,true_and,and_true,beq_iff_eq,bne_iff_ne,bne_eq_false_iff_eq,beq_eq_false_iff_ne,exists_const,forall_const,Prod.exists]
 have e:=BcI q n
 refine fun x _=>⟨fun h=>?_,fun h=>⟨fun h2=>⟨⟨Bc _,_,_,_,rfl⟩,?_⟩,fun h2=>?_⟩⟩
 ·rw[e,h];simp
 ·have h3:(n.kd==q)=false:=by simpa using h
  have h4:(n.kd != 10)=true:=by simpa using h2
  rw[e,h3,h4];simp
 ·have h3:(n.kd==q)=false:=by simpa using h
  rw[e,h3,h2];simp
theorem Blr(n:Nd)(xi xk:Nat)(q:Int)(hn:n.sm):CS 105 [.agg n.row2,.ref 0 xk 0,.ref 1 xi 0] (BcR xi xk q) (.bool (Gs q n)) :=
 Bk8 n xi xk q (BD (BZ hn).2.1) fun b hb=>CS.wk (Blr b xi xk q (Cv hn (BQ hb))) (by simp only[wkL,wkD];exact⟨Mk _,by simp[Br,Ba],by simp[Br,Ba],trivial⟩)
termination_by szN n
decreasing_by exact M6 (BQ hb)
theorem Bl4(n:Nd)(xi xk:Nat)(q:Int)(hn:n.sm):CS 105 [.agg n.row1,.ref 0 xk 0,.ref 1 xi 0] (BcR xi xk q) (.bool (Gs q n)) :=
 CS.wk (Blr n xi xk q hn) (by simp only[wkL,wkD];exact⟨Mk _,by simp[Br,Ba],by simp[Br,Ba],trivial⟩)
theorem W9{s:Sm}(h:s.sm):∀b∈Bs s,b.sm:=by
 cases s with
 |mk kd at_ nm sl te nd =>
  simp only[Sm.sm] at h
  intro b hb
  unfold Bs at hb
  split at hb
  ·rcases List.mem_cons.1 hb with rfl | hb
   ·exact h.2.1
   ·rcases List.mem_cons.1 hb with rfl | hb
    ·exact h.2.2
    ·cases hb
  ·rcases List.mem_cons.1 hb with rfl | hb
   ·exact h.2.2
   ·cases hb
noncomputable def Eo2(s:Sm)(xi xk:Nat)(q:Int):Senv:=EC (BgO (Bs s) xi xk q) 8 4 [] (fun id=>match id with | 1=>([0,2,1,3,4],[1,3]) | _=>([],[]))
noncomputable section
def Vw(a:Sm):Nd:=Sm.te a
def QmR(a:Sm):Arr:=Nd.va (Vw a)
def QFv(a:Sm):List Int:=Arr.sh (QmR a)
def QFw(a:Sm):List Int:=Arr.nu (QmR a)
def Qvf(a:Sm):List Arr:=Arr.it (QmR a)
def Qrd:Arr:=DA
def Qvg(a:Sm):List Nd:=Nd.ki (Vw a)
def QlV:Nd:=Nd.mk Z0 Z0 Z0 [] Z0 Z0 Qrd [] [] Z0 Z0 Z0
def Qvh(a:Sm):List Sm:=Nd.bo (Vw a)
def Qvi:Sm:=Sm.mk Z0 Z0 [] Z0 QlV QlV
def Vx(a:Sm):Nd:=Sm.nd a
def QmS(a:Sm):Arr:=Nd.va (Vx a)
def QFx(a:Sm):List Int:=Arr.sh (QmS a)
def QFy(a:Sm):List Int:=Arr.nu (QmS a)
def Qvj(a:Sm):List Arr:=Arr.it (QmS a)
def Qvk(a:Sm):List Nd:=Nd.ki (Vx a)
def Qvl(a:Sm):List Sm:=Nd.bo (Vx a)
def Qvm(a:Sm):List D:=[ZI (Sm.kd a),ZI (Sm.at_ a),D.str (Sm.nm a),ZI (Sm.sl a),ZI (Nd.kd (Vw a)),ZI (Nd.at_ (Vw a)),ZI (Nd.cl (Vw a)),D.str (Nd.tx (Vw a)),ZI (Nd.pr (Vw a)),ZI (Nd.op (Vw a)),ZI (Arr.k (QmR a)),SI (QFv a),SI (QFw a),D.sl N4 (LN (Qvf a)) (fun i=>Arr.row (List.getD (Qvf a) i Qrd)) Mode.any,D.sl 15 (LN (Qvg a)) (fun i=>Nd.row (List.getD (Qvg a) i QlV)) Mode.any,D.sl 34 (LN (Qvh a)) (fun i=>Sm.row (List.getD (Qvh a) i Qvi)) Mode.any,ZI (Nd.de (Vw a)),ZI (Nd.sl (Vw a)),ZI (Nd.ss (Vw a)),ZI (Nd.kd (Vx a)),ZI (Nd.at_ (Vx a)),ZI (Nd.cl (Vx a)),D.str (Nd.tx (Vx a)),ZI (Nd.pr (Vx a)),ZI (Nd.op (Vx a)),ZI (Arr.k (QmS a)),SI (QFx a),SI (QFy a),D.sl N4 (LN (Qvj a)) (fun i=>Arr.row (List.getD (Qvj a) i Qrd)) Mode.any,D.sl 15 (LN (Qvk a)) (fun i=>Nd.row (List.getD (Qvk a) i QlV)) Mode.any,D.sl 34 (LN (Qvl a)) (fun i=>Sm.row (List.getD (Qvl a) i Qvi)) Mode.any,ZI (Nd.de (Vx a)),ZI (Nd.sl (Vx a)),ZI (Nd.ss (Vx a))]
def Qvn(a b:Nat):D:=D.fn (Fn.func (105:Nat)) [] [D.ref N0 a N0,D.ref N1 b N0]
def Qvo(a b:Nat):Prop:=SM (Qvn a b)
def Qre(a:Sm):List Nd:=Bs a
def Qvp(a b:Nat):List D:=[Qvn a b]
def Qvq(a:Sm)(b c:Nat):List D:=D.sl 15 (LN (Qre a)) (fun i=>Nd.row1 (List.getD (Qre a) i QlV)) Mode.any::Qvp b c
def Qvr(a b:Nat)(c:Int):List (Nat×Nat×AObj):=[(N1,a,AObj.cells (Qvp b a)),(N0,b,AObj.cells [ZI c])]
def QFz(a:Sm)(b:Int):Bool:=List.any (Qre a) (Gs b)
end
theorem BmZ(s:Sm)(xi xk:Nat)(q:Int)(hs:s.sm):CS 106 [.agg s.row1,.ref 1 xi 0] (BcR xi xk q) (.bool ((Bs s).any (Gs q))):=by
 have h2:=G6 s
 refine CS.of (Bh (A:=sS _ _ _) (x:=()) (E:=Eo2 s xi xk q) (eOk (Bd9 (by unfold maxLen;omega) fun b hb=>Bl4 b xi xk q (W9 hs b hb)) rfl) Tryz.func106 rfl (by kernel_rfl) rfl (by simp[sS,Eo2,EC,E0]) ?_)
 refine Bl (T :=
  ∀(x:Nat),xi≠x/\xk≠x/\True->SM x/\SM xi/\∃(x_1:Sm),isS x_1 [D.agg (Qvm s)] []/\∀(y:Unit),True->(SM xi/\Qvo xk xi)/\∃(x_2:Unit),(wkL (Qvq x_1 xk xi) (Qvq s xk xi)/\∃(o:Nat×Nat×AObj),St.mk ((N2,x,AObj.cells (Qvm s))::Qvr xi xk q) []=St.mk (o::Qvr xi xk q) [])/\∀(y:Unit),True->True/\∃(y:Unit),True/\SM (QFz s q)/\(SM xi/\(Qvo xk xi/\True)/\SM xk/\(SM q/\True)/\True)/\True) (by kernel_rfl) ?_
 delta DA GI LN N0 N1 N2 N4 SI SM Z0 ZI Vw QmR QFv QFw Qvf Qrd Qvg QlV Qvh Qvi Vx QmS QFx QFy Qvj Qvk Qvl Qvm Qvn Qvo Qre Qvp Qvq Qvr QFz
 try simp only[<- dm]
 try simp only[<- dn]
 simp only[ne_eq,implies_true,true_and,and_true,exists_const,forall_const,Prod.exists]
 refine fun x _=>?_
 first
  |exact⟨s,MA _ _,⟨Bc _,_,_,_,rfl⟩⟩
  |exact⟨⟨s,MA _ _,⟨Bc _,_,_,_,rfl⟩⟩,s,MA _ _,⟨Bc _,_,_,_,rfl⟩⟩
def BlH(l:List Sm)(q:Int):Con:=fun k ds S=>match k with
 |56=>match ds with
  | [_,.fn _ _ [.ref _ xi _]]=>some (pE (β:=Nat) ds S (fun _=>.bool (C8 l q)) (fun xk=>wkL ds [gsl 34 Sm.row1 l,.fn (.func 106) [] [.ref 1 xi 0]]/\S=BcR xi xk q))
  |_=>none
 |_=>none
noncomputable def Eoc(l:List Sm)(q:Int):Senv:=EC (BlH l q) 10 2 [3,4,5] (fun _=>([],[]))
noncomputable section
def Qvs:Nd:=Nd.mk Z0 Z0 Z0 [] Z0 Z0 DA [] [] Z0 Z0 Z0
def Qvt(a:List Sm)(b:Nat):List D:=[D.sl 34 (LN a) (fun i=>Sm.row1 (List.getD a i (Sm.mk Z0 Z0 [] Z0 Qvs Qvs))) Mode.any,D.fn (Fn.func (106:Nat)) [] [D.ref N1 b N0]]
def Qvu(a b:Nat)(c:Int):St:=St.mk [(N1,a,AObj.cells [D.fn (Fn.func (105:Nat)) [] [D.ref N0 b N0,D.ref N1 a N0]]),(N0,b,AObj.cells [ZI c])] []
end
theorem Blu(l:List Sm)(q:Int)(hl:l.length<=maxLen)(h:∀s∈l,s.sm):CD 72 [gsl 34 Sm.row1 l,.int .i64 q] (.bool (C8 l q)):=by
 refine Bh (A:=sC _ _) (x:=()) (E:=Eoc l q) (eOk ?_ rfl) Tryz.func72 rfl (by kernel_rfl) rfl (by simp[sC,Eoc,EC,E0]) ?_
 ·intro k ds S A hh
  try unfold BlH at hh
  try dsimp only at hh
  split at hh
  ·split at hh
   ·injection hh with hh;subst hh
    refine B7 fun xk ⟨e,hS⟩=>?_
    rw[hS]
    exact CS.wk (Pxc_ok _ xk q l (fun s=>(Bs s).any (Gs q)) (fun s hs=>BmZ s _ xk q (h s hs)) hl) e
   ·cases hh
  ·cases hh
 refine Bl (T :=
  ∀(x:Nat),True->∀(x_1:Nat),x≠x_1/\True->SM x_1/\∃(x_2:Nat),(wkL (Qvt l x_1) (Qvt l x_1)/\Qvu x_1 x q=Qvu x_1 x_2 q)/\∀(y:Unit),True->RT (SM (C8 l q))) (by kernel_rfl) ?_
 delta DA LN N0 N1 SM Z0 ZI Qvs Qvt Qvu RT
 try simp only[<- dm]
 try simp only[<- dn]
 simp only[ne_eq,implies_true,true_and,and_true,exists_const,forall_const]
 refine fun x x1 _=>⟨x,Bc _,?_⟩
 first
  |rfl
  |exact⟨rfl,rfl⟩
def Bg3(xl:Nat)(l:List Sm):St:=⟨[(0,xl,.cells [gsl 34 Sm.row1 l])],[]⟩
def Blp(l:List Sm)(q:Int):Con:=fun k ds S=>match k with
 |72=>some (pA ds S (.bool (C8 l q)) (wkL ds [gsl 34 Sm.row1 l,.int .i64 q]))
 |_=>none
noncomputable def Eu1(l:List Sm)(q:Int):Senv:=EC (Blp l q) 7 2 [3] (fun _=>([],[]))
noncomputable section
def Qvv:Nd:=Nd.mk Z0 Z0 Z0 [] Z0 Z0 DA [] [] Z0 Z0 Z0
def Qvw(a:List Sm)(b:Nat):List D:=Sm.row1 (List.getD a b (Sm.mk Z0 Z0 [] Z0 Qvv Qvv))
def Qvx(a:List Sm)(b:Int):List D:=[D.sl 34 (LN a) (fun i=>Qvw a i) Mode.any,ZI b]
end
theorem Bne(l:List Sm)(q:Int)(hl:l.length<=maxLen)(h:∀s∈l,s.sm)(xl:Nat):CS 71 [.int .i64 q,.ref 0 xl 0] (Bg3 xl l) (.bool (C8 l q)):=by
 refine CS.of (Bh (A:=sS _ _ _) (x:=()) (E:=Eu1 l q) (eOk ?_ rfl) Tryz.func71 rfl (by kernel_rfl) rfl (by simp[sS,Eu1,EC,E0]) ?_)
 ·intro k ds S A hh
  try unfold Blp at hh
  try dsimp only at hh
  split at hh
  ·injection hh with hh;subst hh
   exact Bm fun e=>CD.at_ (CD.wk (Blu l q hl h) e) _
  ·cases hh
 refine Bl (T :=
  SM xl/\∃(x:Unit),wkL (Qvx l q) (Qvx l q)/\∀(y:Unit),True->True/\∃(y:Unit),True/\SM (C8 l q)/\(SM xl/\((SM (LN l)/\(∀(i:Nat),i<LN l->SM (Qvw l i))/\True)/\True)/\True)/\True) (by kernel_rfl) ?_
 delta DA LN SM Z0 ZI Qvv Qvw Qvx
 try simp only[<- dm]
 try simp only[<- dn]
 simp only[implies_true,true_and,and_true,exists_const]
 first
  |exact Bc _
  |exact fun _=>Bc _
def Blx(l:List Sm)(xl:Nat):Con:=fun k ds S=>match k with
 |71=>match ds with
  | [.int .i64 q,_]=>some (pA ds S (.bool (C8 l q)) (wkL ds [.int .i64 q,.ref 0 xl 0]/\S=Bg3 xl l))
  |_=>none
 |_=>none
noncomputable def Eux(l:List Sm)(xl:Nat)(m:List Int):Senv:={ EC (Blx l xl) 19 2 [4,5,7,8,9,16] (fun _=>([],[])) with
 ann:=fun b _ S=>match b with
  |0=>some { slots:=[8],keep:=[0,1,6,7],α:=Nat,st:=fun i=>([.int .i64 i],S),inv:=fun i=>IdxG (fun q=>C8 l q) m i,mu:=fun i=>m.length-i }
  |_=>none }
noncomputable section
def Qrf(a:List Sm)(b:List Int)(c:Nat):Prop:=IdxG (fun (q:Int)=>C8 a q) b c
def Qvy:Nd:=Nd.mk Z0 Z0 Z0 [] Z0 Z0 DA [] [] Z0 Z0 Z0
def Qvz(a:List Sm)(b:Nat):List D:=Sm.row1 (List.getD a b (Sm.mk Z0 Z0 [] Z0 Qvy Qvy))
def QmT(a:Nat)(b:List Sm):Prop:=(SM a/\((SM (LN b)/\(∀(i:Nat),i<LN b->SM (Qvz b i))/\True)/\True)/\True)/\True
def QFA(a:Nat)(b:List Sm):St:=St.mk [(N0,a,AObj.cells [D.sl 34 (LN b) (fun i=>Qvz b i) Mode.any])] []
def QvA(a:List Sm)(b:List Int):Int:=EB (fun (q:Int)=>C8 a q) b Z0
def QFB(a:List Int):D:=SI a
end
theorem BmX(l : List Sm)(xl : Nat)(m : List Int)(hl : l.length<=maxLen)(h : ∀s∈l, s.sm)(hm : m.length<=maxLen) :
  CS 104 [isl m .any,.fn (.func 71) [] [.ref 0 xl 0]] (Bg3 xl l) (.int .i64 (EB (fun q=>C8 l q) m 0)):=by
 refine CS.of (Bh (A:=sS _ _ _) (x:=()) (E:=Eux l xl m) (eOk ?_ rfl) Tryz.func104 rfl (by kernel_rfl) rfl (by simp[sS,Eux,EC,E0]) ?_)
 ·intro k ds S A hh
  try unfold Blx at hh
  try dsimp only at hh
  split at hh
  ·split at hh
   ·injection hh with hh;subst hh
    refine Bm fun ⟨e,hS⟩=>?_
    rw[hS]
    exact CS.wk (Bne l _ hl h xl) e
   ·cases hh
  ·cases hh
 refine Bl (T :=
  (∃(x:Nat),Qrf l m x/\(Z0=(↑x:Int)/\True)/\QmT xl l)/\∀(x:Nat),Qrf l m x->ifB (decide ((↑x:Int)<(LI m))) (Bf (Z0<=(↑x:Int)/\(↑x:Int)<(LI m)) (∃(x_1:Unit),(wkL [ZI (GI m (Int.toNat (↑x:Int))),D.ref N0 xl N0] [ZI (GI m (Int.toNat (↑x:Int))),D.ref N0 xl N0]/\SM (QFA xl l))/\∀(y:Unit),True->ifB (C8 l (GI m (Int.toNat (↑x:Int)))) (True/\∃(y:Unit),True/\(↑x:Int)=QvA l m/\QmT xl l) ((SM (QFB m)/\SM (D.fn (Fn.func (71:Nat)) [] [D.ref N0 xl N0])/\SM D.unk/\SM (ZI (LI m))/\True)/\∃(y:Nat),Qrf l m y/\LN m-y<LN m-x/\(IntKind.wrap IntKind.i64 ((↑x:Int)+Z1)=(↑y:Int)/\True)/\QmT xl l))) (True/\∃(y:Unit),True/\(-1:Int)=QvA l m/\QmT xl l)) (by kernel_rfl) ?_
 delta DA GI LI LN N0 N1 SI SM Z0 Z1 ZI Qrf Qvy Qvz QmT QFA QvA QFB
 try simp only[<- dm]
 try simp only[<- dn]
 simp only[implies_true,Int.toNat_natCast,Bg,Be,decide_eq_true_eq,decide_eq_false_iff_not,true_and,and_true,exists_const,forall_const]
 simp only[maxLen] at hm
 refine⟨⟨0,⟨Nat.zero_le _,by simp⟩,rfl⟩,fun i hh=>⟨fun hlt=>?_,fun hge=>(hh.done hge).symm⟩⟩
 have hlt':i<m.length:=by omega
 obtain ⟨s1,s2⟩:=hh.step hlt'
 have e0:m.getD i default=m.getD i 0:=rfl
 rw[e0] at s1 s2
 refine⟨⟨by omega,hlt⟩,?_⟩
 exact⟨Bc _,fun e=>(s1 e).symm,fun e=>⟨i+1,s2 e,by omega,Bb (by omega) (by omega)⟩⟩
def BlN(l:List Sm)(xl:Nat)(m:List Int):Con:=fun k ds S=>match k with
 |104=>some (pA ds S (.int .i64 (EB (fun q=>C8 l q) m 0)) (wkL ds [isl m .any,.fn (.func 71) [] [.ref 0 xl 0]]/\S=Bg3 xl l))
 |_=>none
noncomputable def Euc(l:List Sm)(xl:Nat)(m:List Int):Senv:=EC (BlN l xl m) 9 2 [4] (fun _=>([],[]))
noncomputable section
def QvB(a:List Int)(b:Nat):List D:=[SI a,D.fn (Fn.func (71:Nat)) [] [D.ref N0 b N0]]
def QvC:Nd:=Nd.mk Z0 Z0 Z0 [] Z0 Z0 DA [] [] Z0 Z0 Z0
def QvD(a:List Sm)(b:Nat):List D:=Sm.row1 (List.getD a b (Sm.mk Z0 Z0 [] Z0 QvC QvC))
def QFC(a:Nat)(b:List Sm):St:=St.mk [(N0,a,AObj.cells [D.sl 34 (LN b) (fun i=>QvD b i) Mode.any])] []
end
theorem Bm8(l : List Sm)(xl : Nat)(m : List Int)(hl : l.length<=maxLen)(h : ∀s∈l, s.sm)(hm : m.length<=maxLen) :
  CS 70 [isl m .any,.fn (.func 71) [] [.ref 0 xl 0]] (Bg3 xl l) (.bool (m.any fun q=>C8 l q)):=by
 refine CS.of (Bh (A:=sS _ _ _) (x:=()) (E:=Euc l xl m) (eOk ?_ rfl) Tryz.func70 rfl (by kernel_rfl) rfl (by simp[sS,Euc,EC,E0]) ?_)
 ·intro k ds S A hh
  try unfold BlN at hh
  try dsimp only at hh
  split at hh
  ·injection hh with hh;subst hh
   refine Bm fun ⟨e,hS⟩=>?_
   rw[hS]
   exact CS.wk (BmX l xl m hl h hm) e
  ·cases hh
 refine Bl (T :=
  ∃(x:Unit),(wkL (QvB m xl) (QvB m xl)/\SM (QFC xl l))/\∀(y:Unit),True->True/\∃(y:Unit),True/\(decide (Z0<=EB (fun (q:Int)=>C8 l q) m Z0)=List.any m fun (q:Int)=>C8 l q)/\(SM xl/\((SM (LN l)/\(∀(i:Nat),i<LN l->SM (QvD l i))/\True)/\True)/\True)/\True) (by kernel_rfl) ?_
 delta DA GI LN N0 N1 SI SM Z0 ZI QvB QvC QvD QFC
 simp only[true_and,and_true,exists_const,forall_const]
 have e:=EL (fun q=>C8 l q) m 0 (Int.le_refl _)
 first
  |exact⟨Bc _,e⟩
  |exact⟨⟨Bc _,rfl⟩,e⟩
  |exact⟨Bc _,e,fun _ _=>trivial⟩
def BlE(l:List Sm):Con:=fun k ds S=>match k with
 |70=>match ds with
  | [_,.fn _ _ [.ref _ xl _]]=>some (pA ds S (.bool (TE l)) (wkL ds [isl [6,7,11,12,13] .any,.fn (.func 71) [] [.ref 0 xl 0]]/\S=Bg3 xl l))
  |_=>none
 |_=>none
noncomputable def Eou(l:List Sm):Senv:=EC (BlE l) 6 3 [] (fun _=>([],[]))
noncomputable section
def QvE(a:Nat):List D:=[D.fn (Fn.func (71:Nat)) [] [D.ref N0 a N0]]
def QvF:Nd:=Nd.mk Z0 Z0 Z0 [] Z0 Z0 DA [] [] Z0 Z0 Z0
def QFD(a:Nat)(b:List Sm):St:=St.mk [(N0,a,AObj.cells [D.sl 34 (LN b) (fun i=>Sm.row1 (List.getD b i (Sm.mk Z0 Z0 [] Z0 QvF QvF))) Mode.any])] []
end
theorem BmM(l:List Sm)(hl:l.length<=maxLen)(h:∀s∈l,s.sm):CD 42 [gsl 34 Sm.row1 l] (.bool (TE l)):=by
 refine Bh (A:=sC _ _) (x:=()) (E:=Eou l) (eOk ?_ rfl) Tryz.func42 rfl (by kernel_rfl) rfl (by simp[sC,Eou,EC,E0]) ?_
 ·intro k ds S A hh
  try unfold BlE at hh
  try dsimp only at hh
  split at hh
  ·split at hh
   ·injection hh with hh;subst hh
    refine Bm fun ⟨e,hS⟩=>?_
    rw[hS]
    exact CS.wk (Bm8 l _ [6,7,11,12,13] hl h (by decide)) e
   ·cases hh
  ·cases hh
 refine Bl (T :=
  ∀(x:Nat),True->∃(x_1:Unit),(wkL (D.sl N1 (5:Nat) (fun i=>List.getD [[ZI 6],[ZI 7],[ZI 11],[ZI 12],[ZI 13]] i []) Mode.full::QvE x) (D.sl N1 (5:Nat) (fun i=>[ZI (GI [(6:Int),(7:Int),(11:Int),(12:Int),(13:Int)] i)]) Mode.any::QvE x)/\SM (QFD x l))/\∀(y:Unit),True->RT (SM (TE l))) (by kernel_rfl) ?_
 delta DA GI LN N0 N1 SM Z0 ZI QvE QvF QFD RT
 try simp only[<- dm]
 try simp only[<- dn]
 simp only[implies_true,and_true,exists_const,forall_const]
 intro x
 simp only[wkL,wkD,Ba]
 refine⟨⟨by simp,by simp,fun i hi=>?_,by simp[BG]⟩,by simp[Br],trivial⟩
 match i,hi with
 |0,_=>exact Bc _
 |1,_=>exact Bc _
 |2,_=>exact Bc _
 |3,_=>exact Bc _
 |4,_=>exact Bc _
theorem Bdv{L:List D}{M:List (List UInt8)}(h:L=M.map D.str){n:Nat}(hn:n<M.length):Br (L.getD n D.unk) (.str (M.getD n [])):=by
 subst h
 have:(M.map D.str).getD n D.unk=.str (M.getD n []):=by simp[List.getD_eq_getElem?_getD,hn]
 rw[this]
 exact BY _
theorem Bhu:primL.length=56:=by decide +kernel
theorem Bks:opL.length=12:=by decide +kernel
theorem Bc1{p:Int}(h:p<1\/56<=p):EF p=[]:=if_pos h
theorem BiP{p:Int}(h:p<1\/12<=p):opT p=[]:=if_pos h
theorem Bkx{p:Int}(h:¬(p<1\/56<=p)):EF p=primL.getD p.toNat []:=if_neg h
theorem Bni{p:Int}(h:¬(p<1\/12<=p)):opT p=opL.getD p.toNat []:=if_neg h
noncomputable def Epn:Senv:={ EC CK 14 1 [2,3,10] (fun _=>([],[])) with mg:=fun _=>2 }
noncomputable section
def QvG(a:Int):Prop:=True/\∃(_y:Unit),True/\BV (List UInt8) [] (EF a)/\True/\True
end
theorem BlQ(p:Int):ACalls Tryz.prog 102 [.int .i64 p] ⟨[],[]⟩ (SpecR (sC [.int .i64 p] (.str (EF p))) ()):=by
 refine Bh (A:=sC _ _) (x:=()) (E:=Epn) (eOk BE rfl) Tryz.func102 rfl (by kernel_rfl) rfl (by simp[sC,Epn,EC,E0]) ?_
 refine Bl (T :=
  ∀(x:Nat),True->SM x/\ifB (decide (p<Z1)) (QvG p) (ifB (decide ((56:Int)<=p)) (QvG p) (Bf (Z0<=p/\p<56) (SM x/\Bf (N0+Int.toNat p*N1+N1<=56) (True/\∃(y:Unit),True/\Br (List.getD [D.str [],D.str [43],D.str [45],D.str [42],D.str [37],D.str [124],D.str [94],D.str [109,105,110],D.str [109,97,120],D.str [60],D.str [60,61],D.str [61],D.str [126,61],D.str [62,61],D.str [62],D.str [97,110,100],D.str [111,114],D.str [110,111,116],D.str [115,104,97,112,101],D.str [114,101,115,104,97,112,101],D.str [116,97,108,108,121],D.str [100,101,112,116,104],D.str [44],D.str [115,116,97,99,107],D.str [105,111,116,97],D.str [116,97,107,101],D.str [100,114,111,112],D.str [102,105,114,115,116],D.str [114,101,118,101,114,115,101],D.str [114,111,116,97,116,101],D.str [116,114,97,110,115,112,111,115,101],D.str [102,114,111,109],D.str [112,105,99,107],D.str [115,101,108,101,99,116],D.str [97,109,101,110,100],D.str [117,112],D.str [100,111,119,110],D.str [115,111,114,116],D.str [102,105,110,100],D.str [105,110],D.str [117,110,105,113,117,101],D.str [119,104,101,114,101],D.str [99,111,112,121],D.str [101,120,112,97,110,100],D.str [99,117,116],D.str [101,110,99,111,100,101],D.str [100,101,99,111,100,101],D.str [98,111,120],D.str [111,112,101,110],D.str [115,97,109,101],D.str [107,105,110,100],D.str [111,114,100],D.str [99,104,114],D.str [102,111,114,109,97,116],D.str [108,101,102,116],D.str [114,105,103,104,116]] (N0+Int.toNat p*N1) D.unk) (D.str (EF p))/\True/\True))))) (by kernel_rfl) ?_
 delta N0 N1 SM Z0 Z1 QvG
 simp only[Bg,Be,decide_eq_true_eq,decide_eq_false_iff_not,Nat.mul_one,true_and,and_true,exists_const]
 refine fun x _=>⟨fun h=>(Bc1 (.inl h)).symm,fun h1=>⟨fun h=>(Bc1 (.inr h)).symm,fun h2=>⟨⟨by omega,by omega⟩,by omega,?_⟩⟩⟩
 rw[Bkx (by omega),Nat.zero_add]
 exact Bdv (M:=primL) (by kernel_rfl) (by rw[Bhu];omega)
noncomputable def Eon:Senv:={ EC CK 14 1 [2,3,10] (fun _=>([],[])) with mg:=fun _=>2 }
noncomputable section
def QvH(a:Int):Prop:=True/\∃(_y:Unit),True/\BV (List UInt8) [] (opT a)/\True/\True
end
theorem BlK(p:Int):ACalls Tryz.prog 103 [.int .i64 p] ⟨[],[]⟩ (SpecR (sC [.int .i64 p] (.str (opT p))) ()):=by
 refine Bh (A:=sC _ _) (x:=()) (E:=Eon) (eOk BE rfl) Tryz.func103 rfl (by kernel_rfl) rfl (by simp[sC,Eon,EC,E0]) ?_
 refine Bl (T :=
  ∀(x:Nat),True->SM x/\ifB (decide (p<Z1)) (QvH p) (ifB (decide ((12:Int)<=p)) (QvH p) (Bf (Z0<=p/\p<12) (SM x/\Bf (N0+Int.toNat p*N1+N1<=12) (True/\∃(y:Unit),True/\Br (List.getD [D.str [],D.str [47],D.str [92],D.str [101,97,99,104],D.str [115,119,97,112],D.str [111,117,116,101,114],D.str [105,110,110,101,114],D.str [114,97,110,107],D.str [112,111,119,101,114],D.str [115,116,101,110,99,105,108],D.str [97,116,111,112],D.str [111,118,101,114]] (N0+Int.toNat p*N1) D.unk) (D.str (opT p))/\True/\True))))) (by kernel_rfl) ?_
 delta N0 N1 SM Z0 Z1 QvH
 simp only[Bg,Be,decide_eq_true_eq,decide_eq_false_iff_not,Nat.mul_one,true_and,and_true,exists_const]
 refine fun x _=>⟨fun h=>(BiP (.inl h)).symm,fun h1=>⟨fun h=>(BiP (.inr h)).symm,fun h2=>⟨⟨by omega,by omega⟩,by omega,?_⟩⟩⟩
 rw[Bni (by omega),Nat.zero_add]
 exact Bdv (M:=opL) (by kernel_rfl) (by rw[Bks];omega)
def ssl(l:List (List UInt8))(m:Ab.Mode):D:=.sl 1 l.length (fun i=>[.str (l.getD i [])]) m
end Go.Proofs.YtfbfnhbafjmnaaaGreat
