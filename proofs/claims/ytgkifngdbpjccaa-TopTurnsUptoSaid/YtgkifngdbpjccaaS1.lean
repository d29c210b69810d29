/- Functions of the given program and what each of them computes: lemmas towards the statement, their conditions stated with each of them. -/
import Derived.Test.YtgkifngdbpjccaaAb2
import Derived.Test.YtgkifngdbpjccaaProg
import Derived.KernelRfl
import Derived.Test.YtgkifngdbpjccaaRows
import Derived.Deep.DeepHandedRow
import Derived.Shelf.Lay
import Derived.Shelf.LaySoft
namespace Go.Proofs.Ytgkifngdbpjccaa
open Go Go.Ab
noncomputable section
noncomputable def tab:List (Nat×TI):=[
 (0,⟨TypeDesc.tuple #[],1,0,[.unk]⟩),
 (1,⟨TypeDesc.func #[] #[] false,1,8,[.nilf]⟩),
 (2,⟨TypeDesc.int .i64,1,8,[.int .i64 0]⟩),
 (3,⟨TypeDesc.int .i64,1,8,[.int .i64 0]⟩),
 (4,⟨TypeDesc.bool,1,1,[.bool false]⟩),
 (5,⟨TypeDesc.int .u8,1,1,[.int .u8 0]⟩),
 (9,⟨TypeDesc.string,1,16,[.str []]⟩),
 (20,⟨TypeDesc.interface #[],1,16,[.nili]⟩),
 (21,⟨TypeDesc.int .i32,1,4,[.int .i32 0]⟩),
 (22,⟨TypeDesc.int .i64,1,8,[.int .i64 0]⟩),
 (23,⟨TypeDesc.slice 3,1,24,[.sl 1 0 (fun _=>[]) .nil]⟩),
 (24,⟨TypeDesc.slice 26,1,24,[.sl 1 0 (fun _=>[]) .nil]⟩),
 (25,⟨Try.t25.desc,4,80,[.int .i64 0,.sl 1 0 (fun _=>[]) .nil,.sl 1 0 (fun _=>[]) .nil,.sl 1 0 (fun _=>[]) .nil]⟩),
 (26,⟨Try.t25.desc,4,80,[.int .i64 0,.sl 1 0 (fun _=>[]) .nil,.sl 1 0 (fun _=>[]) .nil,.sl 1 0 (fun _=>[]) .nil]⟩),
 (27,⟨TypeDesc.func #[26,3] #[4] false,1,8,[.nilf]⟩),
 (28,⟨TypeDesc.func #[] #[4] false,1,8,[.nilf]⟩),
 (29,⟨TypeDesc.int .i64,1,8,[.int .i64 0]⟩),
 (30,⟨TypeDesc.tuple #[26,29],1,0,[.unk]⟩),
 (31,⟨TypeDesc.func #[26,26] #[26,29] false,1,8,[.nilf]⟩),
 (32,⟨TypeDesc.func #[26] #[26] false,1,8,[.nilf]⟩),
 (33,⟨TypeDesc.func #[26,26] #[4] false,1,8,[.nilf]⟩),
 (34,⟨TypeDesc.func #[26] #[3] false,1,8,[.nilf]⟩),
 (35,⟨TypeDesc.func #[3] #[26] false,1,8,[.nilf]⟩),
 (36,⟨TypeDesc.func #[3,26] #[4] false,1,8,[.nilf]⟩),
 (37,⟨TypeDesc.func #[26] #[29] false,1,8,[.nilf]⟩),
 (38,⟨TypeDesc.func #[23] #[26] true,1,8,[.nilf]⟩),
 (39,⟨TypeDesc.func #[26,26,4] #[26,29] false,1,8,[.nilf]⟩),
 (40,⟨TypeDesc.func #[26,41] #[26] false,1,8,[.nilf]⟩),
 (41,⟨TypeDesc.func #[3,3] #[3] false,1,8,[.nilf]⟩),
 (42,⟨TypeDesc.func #[23,26,23] #[26] false,1,8,[.nilf]⟩),
 (43,⟨TypeDesc.func #[23,23] #[23] false,1,8,[.nilf]⟩),
 (44,⟨TypeDesc.func #[23,23] #[4] false,1,8,[.nilf]⟩),
 (45,⟨TypeDesc.func #[24,24,33] #[4] false,1,8,[.nilf]⟩),
 (46,⟨TypeDesc.tuple #[23,26,29],1,0,[.unk]⟩),
 (47,⟨TypeDesc.func #[26,26] #[23,26,29] false,1,8,[.nilf]⟩),
 (48,⟨TypeDesc.func #[23] #[23] false,1,8,[.nilf]⟩),
 (49,⟨TypeDesc.func #[3] #[3] false,1,8,[.nilf]⟩),
 (50,⟨TypeDesc.func #[26,23,41] #[26,29] false,1,8,[.nilf]⟩),
 (51,⟨TypeDesc.tuple #[29,3],1,0,[.unk]⟩),
 (52,⟨TypeDesc.func #[26] #[29,3] false,1,8,[.nilf]⟩),
 (53,⟨Try.t53.desc,5,104,[.int .i64 0,.sl 1 0 (fun _=>[]) .nil,.sl 1 0 (fun _=>[]) .nil,.sl 1 0 (fun _=>[]) .nil,.sl 1 0 (fun _=>[]) .nil]⟩),
 (54,⟨Try.t53.desc,5,104,[.int .i64 0,.sl 1 0 (fun _=>[]) .nil,.sl 1 0 (fun _=>[]) .nil,.sl 1 0 (fun _=>[]) .nil,.sl 1 0 (fun _=>[]) .nil]⟩),
 (55,⟨TypeDesc.func #[26,23,3,3] #[54] false,1,8,[.nilf]⟩),
 (56,⟨TypeDesc.func #[23] #[4] false,1,8,[.nilf]⟩),
 (57,⟨TypeDesc.func #[] #[3] false,1,8,[.nilf]⟩),
 (58,⟨TypeDesc.tuple #[3,3],1,0,[.unk]⟩),
 (59,⟨TypeDesc.func #[23,3] #[3,3] false,1,8,[.nilf]⟩),
 (60,⟨TypeDesc.array 2 3,2,16,[.int .i64 0,.int .i64 0]⟩),
 (61,⟨TypeDesc.func #[62,3,3] #[] false,1,8,[.nilf]⟩),
 (62,⟨TypeDesc.pointer 26,1,8,[.nilp]⟩),
 (63,⟨TypeDesc.func #[26] #[29,3,3] false,1,8,[.nilf]⟩),
 (64,⟨TypeDesc.func #[3] #[4] false,1,8,[.nilf]⟩),
 (65,⟨TypeDesc.tuple #[29,3,3],1,0,[.unk]⟩),
 (66,⟨TypeDesc.func #[23] #[3] false,1,8,[.nilf]⟩),
 (67,⟨TypeDesc.tuple #[23,4],1,0,[.unk]⟩),
 (68,⟨TypeDesc.func #[23,3] #[23,4] false,1,8,[.nilf]⟩),
 (69,⟨TypeDesc.tuple #[3,4],1,0,[.unk]⟩),
 (70,⟨TypeDesc.func #[23,23] #[3,4] false,1,8,[.nilf]⟩),
 (71,⟨TypeDesc.func #[23,3] #[23] false,1,8,[.nilf]⟩),
 (72,⟨TypeDesc.array 8 3,8,64,[.int .i64 0,.int .i64 0,.int .i64 0,.int .i64 0,.int .i64 0,.int .i64 0,.int .i64 0,.int .i64 0]⟩),
 (73,⟨TypeDesc.func #[23] #[29] false,1,8,[.nilf]⟩),
 (74,⟨TypeDesc.func #[23,3,23] #[23] true,1,8,[.nilf]⟩),
 (75,⟨TypeDesc.func #[23,64] #[4] false,1,8,[.nilf]⟩),
 (76,⟨TypeDesc.int .u64,1,8,[.int .u64 0]⟩),
 (77,⟨TypeDesc.tuple #[76,76],1,0,[.unk]⟩),
 (78,⟨TypeDesc.func #[76,76] #[76,76] false,1,8,[.nilf]⟩),
 (79,⟨TypeDesc.func #[23,3] #[] false,1,8,[.nilf]⟩),
 (80,⟨TypeDesc.func #[23,3] #[4] false,1,8,[.nilf]⟩),
 (81,⟨TypeDesc.func #[23,64] #[3] false,1,8,[.nilf]⟩),
 (82,⟨TypeDesc.int .u32,1,4,[.int .u32 0]⟩),
 (83,⟨TypeDesc.tuple #[82,82],1,0,[.unk]⟩),
 (84,⟨TypeDesc.func #[82,82] #[82,82] false,1,8,[.nilf]⟩),
 (85,⟨TypeDesc.int .u64,1,8,[.int .u64 0]⟩),
 (86,⟨TypeDesc.tuple #[85,85],1,0,[.unk]⟩),
 (87,⟨TypeDesc.func #[85,85] #[85,85] false,1,8,[.nilf]⟩),
 (88,⟨TypeDesc.func #[23,3] #[3] false,1,8,[.nilf]⟩),
 (89,⟨TypeDesc.func #[23] #[] false,1,8,[.nilf]⟩),
 (90,⟨TypeDesc.func #[] #[9] false,1,8,[.nilf]⟩),
 (98,⟨TypeDesc.func #[104,104] #[4] false,1,8,[.nilf]⟩),
 (99,⟨TypeDesc.pointer 5,1,8,[.nilp]⟩),
 (104,⟨TypeDesc.unsafePointer,1,8,[.nilp]⟩)]
theorem tc{P:Program}{l:List (Nat×TI)}{t:Nat}{d:TypeDesc}{a b:Nat}{z:List D}(h1:P.underlying t=some d)(h:TabOk P (ED l))(h2:(P.info? t).map (fun i=>(i.size,i.bytes,i.zero.map fun z=>(z.cells.size,z.cells.toList.map GO)))=some (a,b,some (a,z)):=by kernel_rfl):TabOk P (ED ((t,⟨d,a,b,z⟩)::l)):=TabOk.cons (ti:=⟨d,a,b,z⟩) h1 h2 h
theorem Wk:TabOk Try.prog (ED tab) :=
 TabOk.cons (ti:=⟨_,_,_,_⟩) Try.underlying0 (by kernel_rfl) <|
 TabOk.cons (ti:=⟨_,_,_,_⟩) Try.underlying1 (by kernel_rfl) <|
 TabOk.cons (ti:=⟨_,_,_,_⟩) Try.underlying2 (by kernel_rfl) <|
 TabOk.cons (ti:=⟨_,_,_,_⟩) Try.underlying3 (by kernel_rfl) <|
 TabOk.cons (ti:=⟨_,_,_,_⟩) Try.underlying4 (by kernel_rfl) <|
 TabOk.cons (ti:=⟨_,_,_,_⟩) Try.underlying5 (by kernel_rfl) <|
 TabOk.cons (ti:=⟨_,_,_,_⟩) Try.underlying9 (by kernel_rfl) <|
 TabOk.cons (ti:=⟨_,_,_,_⟩) Try.underlying20 (by kernel_rfl) <|
 TabOk.cons (ti:=⟨_,_,_,_⟩) Try.underlying21 (by kernel_rfl) <|
 TabOk.cons (ti:=⟨_,_,_,_⟩) Try.underlying22 (by kernel_rfl) <|
 TabOk.cons (ti:=⟨_,_,_,_⟩) Try.underlying23 (by kernel_rfl) <|
 TabOk.cons (ti:=⟨_,_,_,_⟩) Try.underlying24 (by kernel_rfl) <|
 TabOk.cons (ti:=⟨_,_,_,_⟩) Try.underlying25 (by kernel_rfl) <|
 TabOk.cons (ti:=⟨_,_,_,_⟩) Try.underlying26 (by kernel_rfl) <|
 TabOk.cons (ti:=⟨_,_,_,_⟩) Try.underlying27 (by kernel_rfl) <|
 TabOk.cons (ti:=⟨_,_,_,_⟩) Try.underlying28 (by kernel_rfl) <|
 TabOk.cons (ti:=⟨_,_,_,_⟩) Try.underlying29 (by kernel_rfl) <|
 TabOk.cons (ti:=⟨_,_,_,_⟩) Try.underlying30 (by kernel_rfl) <|
 TabOk.cons (ti:=⟨_,_,_,_⟩) Try.underlying31 (by kernel_rfl) <|
 TabOk.cons (ti:=⟨_,_,_,_⟩) Try.underlying32 (by kernel_rfl) <|
 TabOk.cons (ti:=⟨_,_,_,_⟩) Try.underlying33 (by kernel_rfl) <|
 TabOk.cons (ti:=⟨_,_,_,_⟩) Try.underlying34 (by kernel_rfl) <|
 TabOk.cons (ti:=⟨_,_,_,_⟩) Try.underlying35 (by kernel_rfl) <|
 TabOk.cons (ti:=⟨_,_,_,_⟩) Try.underlying36 (by kernel_rfl) <|
 TabOk.cons (ti:=⟨_,_,_,_⟩) Try.underlying37 (by kernel_rfl) <|
 TabOk.cons (ti:=⟨_,_,_,_⟩) Try.underlying38 (by kernel_rfl) <|
 TabOk.cons (ti:=⟨_,_,_,_⟩) Try.underlying39 (by kernel_rfl) <|
 TabOk.cons (ti:=⟨_,_,_,_⟩) Try.underlying40 (by kernel_rfl) <|
 TabOk.cons (ti:=⟨_,_,_,_⟩) Try.underlying41 (by kernel_rfl) <|
 TabOk.cons (ti:=⟨_,_,_,_⟩) Try.underlying42 (by kernel_rfl) <|
 TabOk.cons (ti:=⟨_,_,_,_⟩) Try.underlying43 (by kernel_rfl) <|
 TabOk.cons (ti:=⟨_,_,_,_⟩) Try.underlying44 (by kernel_rfl) <|
 TabOk.cons (ti:=⟨_,_,_,_⟩) Try.underlying45 (by kernel_rfl) <|
 TabOk.cons (ti:=⟨_,_,_,_⟩) Try.underlying46 (by kernel_rfl) <|
 TabOk.cons (ti:=⟨_,_,_,_⟩) Try.underlying47 (by kernel_rfl) <|
 TabOk.cons (ti:=⟨_,_,_,_⟩) Try.underlying48 (by kernel_rfl) <|
 TabOk.cons (ti:=⟨_,_,_,_⟩) Try.underlying49 (by kernel_rfl) <|
 TabOk.cons (ti:=⟨_,_,_,_⟩) Try.underlying50 (by kernel_rfl) <|
 TabOk.cons (ti:=⟨_,_,_,_⟩) Try.underlying51 (by kernel_rfl) <|
 TabOk.cons (ti:=⟨_,_,_,_⟩) Try.underlying52 (by kernel_rfl) <|
 TabOk.cons (ti:=⟨_,_,_,_⟩) Try.underlying53 (by kernel_rfl) <|
 TabOk.cons (ti:=⟨_,_,_,_⟩) Try.underlying54 (by kernel_rfl) <|
 TabOk.cons (ti:=⟨_,_,_,_⟩) Try.underlying55 (by kernel_rfl) <|
 TabOk.cons (ti:=⟨_,_,_,_⟩) Try.underlying56 (by kernel_rfl) <|
 TabOk.cons (ti:=⟨_,_,_,_⟩) Try.underlying57 (by kernel_rfl) <|
 TabOk.cons (ti:=⟨_,_,_,_⟩) Try.underlying58 (by kernel_rfl) <|
 TabOk.cons (ti:=⟨_,_,_,_⟩) Try.underlying59 (by kernel_rfl) <|
 TabOk.cons (ti:=⟨_,_,_,_⟩) Try.underlying60 (by kernel_rfl) <|
 TabOk.cons (ti:=⟨_,_,_,_⟩) Try.underlying61 (by kernel_rfl) <|
 TabOk.cons (ti:=⟨_,_,_,_⟩) Try.underlying62 (by kernel_rfl) <|
 TabOk.cons (ti:=⟨_,_,_,_⟩) Try.underlying63 (by kernel_rfl) <|
 TabOk.cons (ti:=⟨_,_,_,_⟩) Try.underlying64 (by kernel_rfl) <|
 TabOk.cons (ti:=⟨_,_,_,_⟩) Try.underlying65 (by kernel_rfl) <|
 TabOk.cons (ti:=⟨_,_,_,_⟩) Try.underlying66 (by kernel_rfl) <|
 TabOk.cons (ti:=⟨_,_,_,_⟩) Try.underlying67 (by kernel_rfl) <|
 TabOk.cons (ti:=⟨_,_,_,_⟩) Try.underlying68 (by kernel_rfl) <|
 TabOk.cons (ti:=⟨_,_,_,_⟩) Try.underlying69 (by kernel_rfl) <|
 TabOk.cons (ti:=⟨_,_,_,_⟩) Try.underlying70 (by kernel_rfl) <|
 TabOk.cons (ti:=⟨_,_,_,_⟩) Try.underlying71 (by kernel_rfl) <|
 TabOk.cons (ti:=⟨_,_,_,_⟩) Try.underlying72 (by kernel_rfl) <|
 TabOk.cons (ti:=⟨_,_,_,_⟩) Try.underlying73 (by kernel_rfl) <|
 TabOk.cons (ti:=⟨_,_,_,_⟩) Try.underlying74 (by kernel_rfl) <|
 TabOk.cons (ti:=⟨_,_,_,_⟩) Try.underlying75 (by kernel_rfl) <|
 TabOk.cons (ti:=⟨_,_,_,_⟩) Try.underlying76 (by kernel_rfl) <|
 TabOk.cons (ti:=⟨_,_,_,_⟩) Try.underlying77 (by kernel_rfl) <|
 TabOk.cons (ti:=⟨_,_,_,_⟩) Try.underlying78 (by kernel_rfl) <|
 TabOk.cons (ti:=⟨_,_,_,_⟩) Try.underlying79 (by kernel_rfl) <|
 TabOk.cons (ti:=⟨_,_,_,_⟩) Try.underlying80 (by kernel_rfl) <|
 TabOk.cons (ti:=⟨_,_,_,_⟩) Try.underlying81 (by kernel_rfl) <|
 TabOk.cons (ti:=⟨_,_,_,_⟩) Try.underlying82 (by kernel_rfl) <|
 TabOk.cons (ti:=⟨_,_,_,_⟩) Try.underlying83 (by kernel_rfl) <|
 TabOk.cons (ti:=⟨_,_,_,_⟩) Try.underlying84 (by kernel_rfl) <|
 TabOk.cons (ti:=⟨_,_,_,_⟩) Try.underlying85 (by kernel_rfl) <|
 TabOk.cons (ti:=⟨_,_,_,_⟩) Try.underlying86 (by kernel_rfl) <|
 TabOk.cons (ti:=⟨_,_,_,_⟩) Try.underlying87 (by kernel_rfl) <|
 TabOk.cons (ti:=⟨_,_,_,_⟩) Try.underlying88 (by kernel_rfl) <|
 TabOk.cons (ti:=⟨_,_,_,_⟩) Try.underlying89 (by kernel_rfl) <|
 TabOk.cons (ti:=⟨_,_,_,_⟩) Try.underlying90 (by kernel_rfl) <|
 TabOk.cons (ti:=⟨_,_,_,_⟩) Try.underlying98 (by kernel_rfl) <|
 TabOk.cons (ti:=⟨_,_,_,_⟩) Try.underlying99 (by kernel_rfl) <|
 TabOk.cons (ti:=⟨_,_,_,_⟩) Try.underlying104 (by kernel_rfl) <|
 TabOk.nil _
noncomputable def BaG:List (Nat×Frm):=[
 (3,{ fn:=Try.f3,n:=79,V:=11,cross:=[18,42],ord:=fun id=>match id with | 6=>([0,2,1,3,4,5,6,7,8,9,10],[1,3,4,8,9]) | 7=>([0,2,1,3,4,5,6,7,8,9,10],[1,3,4,8,9]) | 8=>([0,1,2,3,4,5,7,6,8,9,10,11,13,12,14,15,16,17,18,19],[6,8,12,14,17]) | _=>([],[]) }),
 (4,{ fn:=Try.f4,n:=76,V:=2,cross:=[3,4,5,6,7,8,9,10,11,12,31],ord:=fun id=>match id with | 3=>([0,2,1,3,4,5,6,7,8,9],[1,3,7,8]) | 4=>([0,2,1,3,4,5,6,7,8,9],[1,3,7,8]) | 6=>([0,2,1,3,4,5,6,7,8,9],[1,3,7,8]) | _=>([],[]) }),
 (5,{ fn:=Try.f5,n:=14,V:=3,cross:=[4],ord:=fun _=>([],[]) }),
 (6,{ fn:=Try.f6,n:=35,V:=5,cross:=[],ord:=fun id=>match id with | 3=>([0,1,2,3,4,5,6,7,8,9,10,11,12,13,14,15],[7,11,12,13]) | _=>([],[]) }),
 (7,{ fn:=Try.f7,n:=11,V:=6,cross:=[],ord:=fun _=>([],[]) }),
 (8,{ fn:=Try.f8,n:=10,V:=3,cross:=[5],ord:=fun _=>([],[]) }),
 (9,{ fn:=Try.f9,n:=11,V:=6,cross:=[],ord:=fun _=>([],[]) }),
 (10,{ fn:=Try.f10,n:=35,V:=6,cross:=[8,16,17,18],ord:=fun id=>match id with | 10=>([0,1,2,3,4,5,6,7],[5,6,7]) | _=>([],[]) }),
 (11,{ fn:=Try.f11,n:=31,V:=5,cross:=[],ord:=fun _=>([],[]) }),
 (12,{ fn:=Try.f12,n:=11,V:=3,cross:=[6],ord:=fun _=>([],[]) }),
 (13,{ fn:=Try.f13,n:=44,V:=11,cross:=[19,25,26,27,28],ord:=fun _=>([],[]) }),
 (14,{ fn:=Try.f14,n:=6,V:=1,cross:=[2],ord:=fun _=>([],[]) }),
 (15,{ fn:=Try.f15,n:=50,V:=11,cross:=[19,25,26,27,28],ord:=fun id=>match id with | 8=>([0,1,2,3,4,5,6,7,8,9,10,11],[7,11]) | _=>([],[]) }),
 (16,{ fn:=Try.f16,n:=39,V:=7,cross:=[16,21,27],ord:=fun _=>([],[]) }),
 (17,{ fn:=Try.f17,n:=33,V:=5,cross:=[20],ord:=fun _=>([],[]) }),
 (18,{ fn:=Try.f18,n:=11,V:=5,cross:=[],ord:=fun _=>([],[]) }),
 (19,{ fn:=Try.f19,n:=8,V:=1,cross:=[2],ord:=fun _=>([],[]) }),
 (20,{ fn:=Try.f20,n:=179,V:=5,cross:=[6,7,8,9,10,11,12,13,14,15,16,17,18,19,20,21,22,30,38,45,68,86,87,88,105,129,163,164,165],ord:=fun id=>match id with | 3=>([0,1,2,3,4,5,6,7],[]) | 12=>([0,1,2,3,4,6,7,8,9,10,5,11,12,13,14,15],[5,11,12,13,14,15]) | 17=>([0,1,2,3,4,5,6,7,8,9,10,11,12,13,14,15],[]) | 20=>([0,1,2,3,4,5,6,7,8,9,10,11],[11]) | 21=>([0,1,2,3,4,6,5,7,8,9,10],[1,5,7]) | 26=>([0,1,2,3,4,5,6,7,8,9,10,11,12,13,14,15,16],[15,16]) | _=>([],[]) }),
 (21,{ fn:=Try.f21,n:=16,V:=7,cross:=[],ord:=fun _=>([],[]) }),
 (22,{ fn:=Try.f22,n:=80,V:=3,cross:=[4,5,6,7,8,9,10,11,12,21,22,23,32,33,34,35,56],ord:=fun id=>match id with | 1=>([0,1,2,3,4,5,6,7],[4,6,7]) | 13=>([0,1,2,3,4,5,6,7,8,9,10,11],[7,8,9,11]) | 14=>([0,1,2,3,4,5,6,7,8,9,10],[7,8,10]) | _=>([],[]) }),
 (23,{ fn:=Try.f23,n:=16,V:=3,cross:=[5,7],ord:=fun _=>([],[]) }),
 (24,{ fn:=Try.f24,n:=97,V:=3,cross:=[4,6,7,8,9,10,11,12,13,24,25,26,27,28,47,75,92],ord:=fun id=>match id with | 9=>([0,1,2,3,4,5,6,7,8,9,10,11,12],[]) | 12=>([0,1,2,3,4,5,6,7,8,9,10,11],[7,8,9,11]) | 13=>([0,1,2,3,4,5,6,7,8,9,10],[7,8,10]) | 19=>([0,1,2,3,4,5,6,7,8],[]) | _=>([],[]) }),
 (25,{ fn:=Try.f25,n:=47,V:=2,cross:=[4,5,6,7,8,9,10,11,18,37],ord:=fun id=>match id with | 7=>([0,1,2,3,4,5,6,7,8,9,10,11,12,13,14,15],[]) | _=>([],[]) }),
 (26,{ fn:=Try.f26,n:=26,V:=2,cross:=[4,5,10,12,13,14,24],ord:=fun id=>match id with | 6=>([0,1,2,3,4,5,6,7,8],[]) | _=>([],[]) }),
 (27,{ fn:=Try.f27,n:=32,V:=3,cross:=[6,7,8,9,14,15,16,17,18,30],ord:=fun _=>([],[]) }),
 (28,{ fn:=Try.f28,n:=62,V:=8,cross:=[17,22,28,43,52],ord:=fun id=>match id with | 13=>([0,1,2,3,4,5],[4]) | _=>([],[]) }),
 (29,{ fn:=Try.f29,n:=8,V:=1,cross:=[2,4],ord:=fun _=>([],[]) }),
 (30,{ fn:=Try.f30,n:=7,V:=1,cross:=[2],ord:=fun _=>([],[]) }),
 (31,{ fn:=Try.f31,n:=119,V:=4,cross:=[6,7,8,9,10,11,12,13,14,15,16,19,28,29,30,34,35,36,37,55,69,95,110,116],ord:=fun id=>match id with | 18=>([0,1,2,3,4,5,6,7,8,9,10,11],[7,8,9,11]) | 19=>([0,1,2,3,4,5,6,7,8,9,10],[7,8,10]) | 24=>([0,1,2,3,4,5,6,7],[]) | _=>([],[]) }),
 (32,{ fn:=Try.f32,n:=31,V:=4,cross:=[6,17],ord:=fun id=>match id with | 2=>([0,1,2,3,4,5,6,7,8,9,10,11,12],[]) | _=>([],[]) }),
 (33,{ fn:=Try.f33,n:=24,V:=3,cross:=[5,16],ord:=fun _=>([],[]) }),
 (34,{ fn:=Try.f34,n:=32,V:=4,cross:=[6,7,12],ord:=fun _=>([],[]) }),
 (35,{ fn:=Try.f35,n:=16,V:=3,cross:=[4,5,11],ord:=fun _=>([],[]) }),
 (36,{ fn:=Try.f36,n:=107,V:=11,cross:=[18,23,30,43,48,76,81,94,105],ord:=fun id=>match id with | 9=>([0,2,3,1,4,5,6,7,8,9],[1,4]) | _=>([],[]) }),
 (37,{ fn:=Try.f37,n:=48,V:=5,cross:=[8,9,10,29],ord:=fun id=>match id with | 6=>([0,1,2,4,3,5,6,7,8],[3,5,6,8]) | 7=>([0,1,2,3,4,5],[3,5]) | _=>([],[]) }),
 (38,{ fn:=Try.f38,n:=31,V:=1,cross:=[2,3,5,8,9,10,11,12,15,22,29],ord:=fun _=>([],[]) }),
 (39,{ fn:=Try.f39,n:=18,V:=3,cross:=[7],ord:=fun id=>match id with | 2=>([0,1,3,4,2,5,6,7],[2,5]) | _=>([],[]) }),
 (40,{ fn:=Try.f40,n:=27,V:=2,cross:=[4,5,18],ord:=fun id=>match id with | 3=>([0,1,2,4,5,6,3,7,8,9],[3,7]) | _=>([],[]) }),
 (41,{ fn:=Try.f41,n:=108,V:=5,cross:=[8,10,15,16,17,18,22,57,89,90,91,92],ord:=fun id=>match id with | 5=>([0,1,2,3,4,5,6,7,8,10,9,11,12,13,15,16,14,17],[9,11,12,14,17]) | 6=>([0,1,2,3,4,5,6,7,8,9,10,11,12,13,14],[10,11,14]) | 15=>([0,1,2,3,4,6,5,7,8,9,11,12,10,13],[5,7,8,10,13]) | _=>([],[]) }),
 (42,{ fn:=Try.f42,n:=87,V:=7,cross:=[8,9,10,12,13,14,15,19,22,23,24,25,45,55,56,57,58,69,84],ord:=fun id=>match id with | 10=>([0,1,2,3,4,5,6,7,8],[]) | _=>([],[]) }),
 (43,{ fn:=Try.f43,n:=44,V:=5,cross:=[12,13,16,20,25,29,34],ord:=fun id=>match id with | 1=>([0,1,2,3,4,5,6,7],[]) | _=>([],[]) }),
 (44,{ fn:=Try.f44,n:=9,V:=1,cross:=[2],ord:=fun _=>([],[]) }),
 (45,{ fn:=Try.f45,n:=17,V:=1,cross:=[2],ord:=fun _=>([],[]) }),
 (46,{ fn:=Try.f46,n:=8,V:=1,cross:=[2,5],ord:=fun _=>([],[]) }),
 (47,{ fn:=Try.f47,n:=41,V:=2,cross:=[4,5,6,7,15,20],ord:=fun _=>([],[]) }),
 (48,{ fn:=Try.f48,n:=46,V:=2,cross:=[4,5,6,7,8,18,19,20,21,22,35],ord:=fun _=>([],[]) }),
 (49,{ fn:=Try.f49,n:=47,V:=6,cross:=[32,33,34,35],ord:=fun id=>match id with | 1=>([0,1,2,3,4,6,7,8,10,11,12,5,9,13,14,15,16],[5,9,13,15,16]) | 7=>([0,1,2,3,4,5,6],[4,6]) | _=>([],[]) }),
 (50,{ fn:=Try.f50,n:=48,V:=2,cross:=[4,5,6,7,8,10,26,37],ord:=fun id=>match id with | 9=>([0,1,2,3,4,5,6,7,8,9],[7]) | _=>([],[]) }),
 (51,{ fn:=Try.f51,n:=20,V:=3,cross:=[4,5,9,13],ord:=fun _=>([],[]) }),
 (52,{ fn:=Try.f52,n:=21,V:=1,cross:=[2,3,6,10,17,20],ord:=fun _=>([],[]) }),
 (53,{ fn:=Try.f53,n:=17,V:=1,cross:=[2,3,7,14],ord:=fun _=>([],[]) }),
 (54,{ fn:=Try.f54,n:=9,V:=1,cross:=[2],ord:=fun _=>([],[]) }),
 (55,{ fn:=Try.f55,n:=17,V:=1,cross:=[2],ord:=fun _=>([],[]) }),
 (56,{ fn:=Try.f56,n:=95,V:=3,cross:=[6,7,8,9,16,22,31,68],ord:=fun id=>match id with | 11=>([0,1,2,3,4,5,6,7,8],[8]) | 15=>([0,1,2,3,4,5,6,7,8],[8]) | _=>([],[]) }),
 (57,{ fn:=Try.f57,n:=30,V:=4,cross:=[5,11,14,15,16,17,21],ord:=fun _=>([],[]) }),
 (58,{ fn:=Try.f58,n:=19,V:=1,cross:=[2,3,5,7,8,9,10,11],ord:=fun _=>([],[]) }),
 (59,{ fn:=Try.f59,n:=9,V:=2,cross:=[4],ord:=fun _=>([],[]) }),
 (60,{ fn:=Try.f60,n:=5,V:=1,cross:=[2],ord:=fun _=>([],[]) }),
 (61,{ fn:=Try.f61,n:=30,V:=2,cross:=[4,5,6,7,8,9],ord:=fun _=>([],[]) }),
 (62,{ fn:=Try.f62,n:=30,V:=1,cross:=[2,3,4,8,15,20,28],ord:=fun _=>([],[]) }),
 (64,{ fn:=Try.f64,n:=10,V:=2,cross:=[],ord:=fun _=>([],[]) }),
 (65,{ fn:=Try.f65,n:=16,V:=3,cross:=[4,5,11],ord:=fun _=>([],[]) }),
 (66,{ fn:=Try.f66,n:=9,V:=2,cross:=[4],ord:=fun _=>([],[]) }),
 (67,{ fn:=Try.f67,n:=19,V:=2,cross:=[4,5,7,8,9,16],ord:=fun _=>([],[]) }),
 (68,{ fn:=Try.f68,n:=17,V:=2,cross:=[4,5,6],ord:=fun _=>([],[]) }),
 (69,{ fn:=Try.f69,n:=51,V:=2,cross:=[4,5,6,7,8,9,10,11,12,13],ord:=fun _=>([],[]) }),
 (70,{ fn:=Try.f70,n:=14,V:=2,cross:=[],ord:=fun _=>([],[]) }),
 (71,{ fn:=Try.f71,n:=19,V:=2,cross:=[4,5,7,8,9,16],ord:=fun _=>([],[]) }),
 (72,{ fn:=Try.f72,n:=28,V:=1,cross:=[2,3,9],ord:=fun id=>match id with | 3=>([0,1,2,3,4,5,6,7,8,9,10,11,12,13,14,15],[13,15]) | _=>([],[]) })]
abbrev eqs:List Nat:=[]
theorem Wj:∀t,eqs.contains t=true->Try.prog.eqGuardType Try.prog.depth t=false/\Try.prog.stoodInHeld t=false:=by
 intro t h
 exact absurd h (by simp[eqs])
theorem Baq:FrmOk Try.prog (GY BaG) :=
 FrmOk.cons Try.func3 rfl (by decide) <|
 FrmOk.cons Try.func4 rfl (by decide) <|
 FrmOk.cons Try.func5 rfl (by decide) <|
 FrmOk.cons Try.func6 rfl (by decide) <|
 FrmOk.cons Try.func7 rfl (by decide) <|
 FrmOk.cons Try.func8 rfl (by decide) <|
 FrmOk.cons Try.func9 rfl (by decide) <|
 FrmOk.cons Try.func10 rfl (by decide) <|
 FrmOk.cons Try.func11 rfl (by decide) <|
 FrmOk.cons Try.func12 rfl (by decide) <|
 FrmOk.cons Try.func13 rfl (by decide) <|
 FrmOk.cons Try.func14 rfl (by decide) <|
 FrmOk.cons Try.func15 rfl (by decide) <|
 FrmOk.cons Try.func16 rfl (by decide) <|
 FrmOk.cons Try.func17 rfl (by decide) <|
 FrmOk.cons Try.func18 rfl (by decide) <|
 FrmOk.cons Try.func19 rfl (by decide) <|
 FrmOk.cons Try.func20 rfl (by decide) <|
 FrmOk.cons Try.func21 rfl (by decide) <|
 FrmOk.cons Try.func22 rfl (by decide) <|
 FrmOk.cons Try.func23 rfl (by decide) <|
 FrmOk.cons Try.func24 rfl (by decide) <|
 FrmOk.cons Try.func25 rfl (by decide) <|
 FrmOk.cons Try.func26 rfl (by decide) <|
 FrmOk.cons Try.func27 rfl (by decide) <|
 FrmOk.cons Try.func28 rfl (by decide) <|
 FrmOk.cons Try.func29 rfl (by decide) <|
 FrmOk.cons Try.func30 rfl (by decide) <|
 FrmOk.cons Try.func31 rfl (by decide) <|
 FrmOk.cons Try.func32 rfl (by decide) <|
 FrmOk.cons Try.func33 rfl (by decide) <|
 FrmOk.cons Try.func34 rfl (by decide) <|
 FrmOk.cons Try.func35 rfl (by decide) <|
 FrmOk.cons Try.func36 rfl (by decide) <|
 FrmOk.cons Try.func37 rfl (by decide) <|
 FrmOk.cons Try.func38 rfl (by decide) <|
 FrmOk.cons Try.func39 rfl (by decide) <|
 FrmOk.cons Try.func40 rfl (by decide) <|
 FrmOk.cons Try.func41 rfl (by decide) <|
 FrmOk.cons Try.func42 rfl (by decide) <|
 FrmOk.cons Try.func43 rfl (by decide) <|
 FrmOk.cons Try.func44 rfl (by decide) <|
 FrmOk.cons Try.func45 rfl (by decide) <|
 FrmOk.cons Try.func46 rfl (by decide) <|
 FrmOk.cons Try.func47 rfl (by decide) <|
 FrmOk.cons Try.func48 rfl (by decide) <|
 FrmOk.cons Try.func49 rfl (by decide) <|
 FrmOk.cons Try.func50 rfl (by decide) <|
 FrmOk.cons Try.func51 rfl (by decide) <|
 FrmOk.cons Try.func52 rfl (by decide) <|
 FrmOk.cons Try.func53 rfl (by decide) <|
 FrmOk.cons Try.func54 rfl (by decide) <|
 FrmOk.cons Try.func55 rfl (by decide) <|
 FrmOk.cons Try.func56 rfl (by decide) <|
 FrmOk.cons Try.func57 rfl (by decide) <|
 FrmOk.cons Try.func58 rfl (by decide) <|
 FrmOk.cons Try.func59 rfl (by decide) <|
 FrmOk.cons Try.func60 rfl (by decide) <|
 FrmOk.cons Try.func61 rfl (by decide) <|
 FrmOk.cons Try.func62 rfl (by decide) <|
 FrmOk.cons Try.func64 rfl (by decide) <|
 FrmOk.cons Try.func65 rfl (by decide) <|
 FrmOk.cons Try.func66 rfl (by decide) <|
 FrmOk.cons Try.func67 rfl (by decide) <|
 FrmOk.cons Try.func68 rfl (by decide) <|
 FrmOk.cons Try.func69 rfl (by decide) <|
 FrmOk.cons Try.func70 rfl (by decide) <|
 FrmOk.cons Try.func71 rfl (by decide) <|
 FrmOk.cons Try.func72 rfl (by decide) <|
 FrmOk.nil _
theorem mix:Try.prog.follows .mixedOrders=true:=by kernel_rfl
def SM{α:Type}(x:α):Prop:=x=x
def Z0:Int:=0
def Z1:Int:=1
def N0:Nat:=0
def N1:Nat:=1
def N2:Nat:=2
def N4:Nat:=4
def N6:Nat:=6
def LN{α:Type}(l:List α):Nat:=List.length l
def LI{α:Type}(l:List α):Int:=(↑(List.length l):Int)
def NI(x:Nat):Int:=(↑x:Int)
def TN(x:Nat):Nat:=Int.toNat (↑x:Int)
def TL{α:Type}(l:List α):Nat:=Int.toNat (↑(List.length l):Int)
def GI(l:List Int)(i:Nat):Int:=List.getD l i (0:Int)
def ZI(a:Int):D:=D.int IntKind.i64 a
def SI(l:List Int):D:=D.sl 1 (List.length l) (fun i=>[D.int IntKind.i64 (List.getD l i (0:Int))]) Mode.any
abbrev Con:=Nat->List D->St->Option FnSpec
noncomputable def E0(con:Con)(n V:Nat)(cross:List Nat)(ord:Nat->List Nat×List Nat):Senv where
 P:=Try.prog
 tt:=ED tab
 n:=n
 dfs:=[]
 V:=V
 cross:=cross
 gh:=fun _=>[]
 gr:=[]
 unr:=fun _=>0
 cut:=fun _ _ _=>none
 ann:=fun _ _ _=>none
 ord:=ord
 con:=con
 eqs:=eqs
noncomputable def EC(con:Con)(n V:Nat)(cross:List Nat)(ord:Nat->List Nat×List Nat):Senv :=
 { E0 con n V cross ord with auto:=true,inl:=Ue { E0 con 0 0 [] (fun _=>([],[])) with auto:=true } (GY BaG) 9 }
abbrev EA:Con:=fun _ _ _=>none
theorem BA:ConOk Try.prog EA:=fun _ _ _ _ h=>nomatch h
theorem eOk{con:Con}(hc:ConOk Try.prog con){E:Senv}(h:E={ EC con E.n E.V E.cross E.ord with gh:=E.gh,gr:=E.gr,unr:=E.unr,cut:=E.cut,ann:=E.ann,cut2:=E.cut2,ann2:=E.ann2,own:=E.own,gz:=E.gz,mg:=E.mg,pvt:=E.pvt,bcut:=E.bcut,bd:=E.bd }):EnvOk E:=by
 rw[h]
 exact⟨Wk,hc,mix,fun k ds S R h=>RH (E:={ E0 con 0 0 [] (fun _=>([],[])) with auto:=true }) Wk hc mix Baq Wj 9 k ds S R h,Wj⟩
def pC(ds:List D)(d:D)(p:Prop):FnSpec where
 β:=Unit
 α:=Unit
 args:=fun _=>ds
 st:=fun _=>⟨[],[]⟩
 pre:=fun _=>p
 post:=fun _ _=>True
 res:=fun _ _=>.ret d
 out:=fun _ _=>⟨[],[]⟩
 fit:=some ()
theorem Gp(S:St):leS ⟨[],[]⟩ S:=by simp[leS,Ba,Go.Ab.nodupB,leO,leT]
theorem Ei{k : Nat}{ds : List D}{S : St}{us : List D}{d : D}{p : Prop}(h : p -> Bo ds us /\ ACalls Try.prog k us ⟨[], []⟩ (SpecR (sC us d) ())) :
  (∀x,(pC us d p).pre x->ACalls Try.prog k ((pC us d p).args x) ((pC us d p).st x) (SpecR (pC us d p) x))/\(∀x,(pC us d p).fit=some x->(pC us d p).pre x->Bo ds ((pC us d p).args x)/\leS ((pC us d p).st x) S)/\((pC us d p).all=true->∀x,(pC us d p).pre x->Bo ds ((pC us d p).args x)/\(pC us d p).st x=S) :=
 ⟨fun _ hp=>(h hp).2.mono fun _ _ ⟨_,_h1,h2,h3⟩=>⟨(),trivial,h2,h3⟩,fun _ _ hp=>⟨(h hp).1,Gp S⟩,fun e=>nomatch e⟩
theorem Cb{α:Type}[Inhabited α]{l:List α}{i:Nat}(h:i<l.length):l.drop i=l.getD i default::l.drop (i+1):=by
 rw[List.drop_eq_getElem_cons h]
 simp[List.getD_eq_getElem?_getD,h]
theorem Bao{α:Type}[Inhabited α]{l:List α}{i:Nat}(h:i<l.length):l.take (i+1)=l.take i++[l.getD i default]:=by
 rw[List.take_add_one]
 simp[List.getD_eq_getElem?_getD,h]
def RT(p:Prop):Prop:=True/\∃(y:Unit),True/\p/\True/\True
def isl(l:List Int)(m:Ab.Mode):D:=.sl 1 l.length (fun i=>[.int .i64 (l.getD i 0)]) m
inductive Arr where
 |mk (kind:Int) (shape nums:List Int) (items:List Arr)
def EZ(z:Int):Prop:=-9223372036854775808<=z/\z<=9223372036854775807
mutual
def Arr.row:Arr->List D
 |.mk k s n is=>[.int .i64 k,isl s .any,isl n .any,.sl 4 (GJ is).length (fun i=>(GJ is).getD i []) .any]
def GJ:List Arr->List (List D)
 | []=>[]
 |a::r=>a.row::GJ r
end
mutual
def Arr.ok:Arr->Prop
 |.mk k s n is=>EZ k/\(∀z∈s,EZ z)/\(∀z∈n,EZ z)/\s.length<=maxLen/\n.length<=maxLen/\is.length<=maxLen/\okL is
def okL:List Arr->Prop
 | []=>True
 |a::r=>a.ok/\okL r
end
mutual
/-- Nothing in it is longer than a machine's memory. -/
def Arr.sm:Arr->Prop
 |.mk _ s n is=>s.length<=EG/\n.length<=EG/\is.length<=EG/\smL is
def smL:List Arr->Prop
 | []=>True
 |a::r=>a.sm/\smL r
end
theorem RI:∀(l:List Arr),smL l↔∀a∈l,a.sm
 | []=>by simp[smL]
 |a::l=>by simp only[smL,List.forall_mem_cons,RI l]
theorem Tt{n:Nat}(h:n<=EG):n<=maxLen:=Nat.le_trans h (by decide)
theorem Cc:∀(l:List Arr),GJ l=l.map Arr.row
 | []=>rfl
 |a::l=>by simp only[GJ,List.map_cons,Cc l]
theorem Ce:∀(l:List Arr),okL l↔∀a∈l,a.ok
 | []=>by simp[okL]
 |a::l=>by simp only[okL,List.forall_mem_cons,Ce l]
def RInts:List D->Prop:=fun ds=>∃l:List Int,(∀z∈l,EZ z)/\l.length<=EG/\ds=[isl l .any]
def RArr:List D->Prop:=fun ds=>∃a:Arr,(a.ok/\a.sm)/\ds=a.row
theorem RK:∀x,RInt .i64 x->∃z,EZ z/\x=[.int .i64 z]:=by
 rintro x ⟨n,rfl,h1,h2⟩
 simp only[IntKind.min,IntKind.max,IntKind.signed,IntKind.bits] at h1 h2
 exact⟨n,⟨by simpa using h1,by simp at h2;omega⟩,rfl⟩
theorem OR(W:World)(n:Nat):ReadAt Try.prog W n 23 RInts:=by
 cases n with
 |zero=>exact .zero _ _
 |succ n =>
  refine (I2 (w:=1) Try.underlying23 (by kernel_rfl) (by decide) (by decide +kernel) (Mz Try.underlying3 W n)).weak ?_
  rintro _ ds vs ⟨l,h1,h2,rfl⟩ h
  obtain ⟨l',q,rfl⟩:=TJ RK l h1
  refine⟨_,⟨l',q,by simpa using h2,rfl⟩,BK _ _ ?_ _ _ h⟩
  simp only[isl,Bo,Be,Ba]
  refine⟨⟨by simp,by simp,fun i hi=>?_,by simp[Bw]⟩,trivial⟩
  have hi:i<l'.length:=by simpa using hi
  simp[List.getD_eq_getElem?_getD,hi]
theorem Ug(W:World):∀n,ReadAt Try.prog W n 26 RArr
 |0=>.zero _ _
 |n+1=>by
  have hi:ReadAt Try.prog W n 24 (RSliceA 4 RArr):=by
   cases n with
   |zero=>exact .zero _ _
   |succ m=>exact I2 (w:=4) Try.underlying24 (by kernel_rfl) (by decide) (by decide +kernel) (Ug W m)
  refine (UP Try.underlying26 (by kernel_rfl) (Rs:=[RInt .i64,RInts,RInts,RSliceA 4 RArr]) ⟨Mz (by kernel_rfl) W n,OR W n,OR W n,hi,trivial⟩).mono ?_
  rintro ds ⟨_,_,h1,⟨_,_,h2,⟨_,_,h3,⟨_,_,h4,h5,rfl⟩,rfl⟩,rfl⟩,rfl⟩
  obtain rfl:_=[]:=h5
  obtain ⟨k,hk,rfl⟩:=RK _ h1
  obtain ⟨s,s1,s2,rfl⟩:=h2
  obtain ⟨m,m1,m2,rfl⟩:=h3
  obtain ⟨l,l1,l2,rfl⟩:=h4
  obtain ⟨is,q,rfl⟩:=TJ (g:=Arr.row) (Q:=fun a=>a.ok/\a.sm) (fun x hx=>hx) l l1
  have l2:is.length<=EG:=by simpa using l2
  refine⟨.mk k s m is,⟨?_,?_⟩,?_⟩
  ·simp only[Arr.ok]
   exact⟨hk,s1,m1,Tt s2,Tt m2,Tt l2,(Ce _).2 fun a ha=>(q a ha).1⟩
  ·simp only[Arr.sm]
   exact⟨s2,m2,l2,(RI _).2 fun a ha=>(q a ha).2⟩
  ·simp only[Arr.row,Cc,List.cons_append,List.nil_append]
set_option maxRecDepth 100000
def Mn(P:Program)(TS:List Nat)(t:Nat):Bool :=
 match P.underlying t with
 |some (.slice e)=>TS.contains e&&decide (P.bytesOf e<=4096)
 |some (.struct fs)=>fs.toList.all fun f=>TS.contains f.type
 |some (.pointer e)=>TS.contains e
 |some (.array _ e)=>TS.contains e
 |some (.map k e)=>TS.contains e&&decide (P.bytesOf k+P.bytesOf e<=4096)
 |_=>true
theorem Un{H:Type}(d:DataW H):1<=Rows.uptoBulk d:=by
 cases d with
 |lit l=>cases l<;>simp[Rows.uptoBulk]
 |nil=>simp[Rows.uptoBulk]
 |ptr d=>simp[Rows.uptoBulk]
 |slice elems spare=>simp[Rows.uptoBulk]
 |agg parts=>simp[Rows.uptoBulk]
 |iface t d=>simp[Rows.uptoBulk]
 |map entries=>simp[Rows.uptoBulk]
 |held h=>simp[Rows.uptoBulk]
theorem Mu{H:Type}:∀l:List (DataW H),l.length<=Rows.uptoBulkAll l
 | []=>by simp[Rows.uptoBulkAll]
 |x::r=>by
  have:=Un x
  have:=Mu r
  simp only[Rows.uptoBulkAll,List.length_cons]
  omega
theorem Up{H:Type}:∀l:List (Go.Lit×DataW H),l.length<=Rows.uptoBulkEntries l
 | []=>by simp[Rows.uptoBulkEntries]
 |(k,d)::r=>by
  have:=Un d
  have:=Up r
  have h:1<=Rows.uptoBulkEntry (k,d):=by cases k<;>simp[Rows.uptoBulkEntry]
  simp only[Rows.uptoBulkEntries,List.length_cons]
  omega
theorem T4{a b c:Nat}(h1:a<=c)(h2:b<=4096):a*b<=8192*c:=by
 calc a*b<=c*4096:=Nat.mul_le_mul h1 h2
  _<=8192*c:=by omega
mutual
theorem Bbf{P:Program}{TS:List Nat}(hT:∀t∈TS,Mn P TS t=true){H:Type}:∀(d:DataW H) (t:Nat),t∈TS->∀x∈d.weights P t,x<=8192*Rows.uptoBulk d
 |.lit l,t,_,x,hx=>by
  cases l with
  |string bytes =>
   simp only[DataW.weights,List.mem_singleton] at hx
   simp only[Rows.uptoBulk]
   omega
  |_=>simp[DataW.weights] at hx
 |.nil,t,_,x,hx=>by simp[DataW.weights] at hx
 |.ptr d,t,ht,x,hx=>by
  have ho:=hT t ht
  simp only[DataW.weights] at hx
  unfold Mn at ho
  split at hx
  ·rename_i e hu
   rw[hu] at ho
   have:=Bbf hT d e (by simpa using ho) x hx
   simp only[Rows.uptoBulk]
   omega
  ·simp at hx
 |.slice elems spare,t,ht,x,hx=>by
  have ho:=hT t ht
  simp only[DataW.weights] at hx
  unfold Mn at ho
  split at hx
  ·rename_i e hu
   rw[hu] at ho
   simp only[Bool.and_eq_true,decide_eq_true_eq] at ho
   have he:e∈TS:=by simpa using ho.1
   simp only[Rows.uptoBulk]
   rcases List.mem_cons.1 hx with rfl | hx
   ·exact Nat.le_trans (T4 (Nat.add_le_add (Mu elems) (Mu spare)) ho.2) (by omega)
   ·rcases List.mem_append.1 hx with hx | hx
    ·have:=Md hT elems e he x hx
     omega
    ·have:=Md hT spare e he x hx
     omega
  ·simp at hx
 |.agg parts,t,ht,x,hx=>by
  have ho:=hT t ht
  simp only[DataW.weights] at hx
  unfold Mn at ho
  split at hx
  ·rename_i fs hu
   rw[hu] at ho
   have:=M3 hT (fs.toList.map (·.type)) parts (fun t h=>by
    obtain ⟨f,hf,rfl⟩:=List.mem_map.1 h
    simpa using List.all_eq_true.1 ho f hf) x hx
   simp only[Rows.uptoBulk]
   omega
  ·rename_i e hu
   rw[hu] at ho
   have:=Md hT parts e (by simpa using ho) x hx
   simp only[Rows.uptoBulk]
   omega
  ·simp at hx
 |.iface _ _,t,_,x,hx=>by simp[DataW.weights] at hx
 |.map entries,t,ht,x,hx=>by
  have ho:=hT t ht
  simp only[DataW.weights] at hx
  unfold Mn at ho
  split at hx
  ·rename_i k e hu
   rw[hu] at ho
   simp only[Bool.and_eq_true,decide_eq_true_eq] at ho
   simp only[Rows.uptoBulk]
   rcases List.mem_cons.1 hx with rfl | hx
   ·exact Nat.le_trans (T4 (Up entries) ho.2) (by omega)
   ·have:=W9 hT entries e (by simpa using ho.1) x hx
    omega
  ·simp at hx
 |.held _,t,_,x,hx=>by simp[DataW.weights] at hx
theorem Md{P:Program}{TS:List Nat}(hT:∀t∈TS,Mn P TS t=true){H:Type}:∀(l:List (DataW H)) (e:Nat),e∈TS->∀x∈DataW.weightsAll P e l,x<=8192*Rows.uptoBulkAll l
 | [],e,_,x,hx=>by simp[DataW.weightsAll] at hx
 |d::r,e,he,x,hx=>by
  simp only[DataW.weightsAll] at hx
  simp only[Rows.uptoBulkAll]
  rcases List.mem_append.1 hx with hx | hx
  ·have:=Bbf hT d e he x hx;omega
  ·have:=Md hT r e he x hx;omega
theorem M3{P:Program}{TS:List Nat}(hT:∀t∈TS,Mn P TS t=true){H:Type}:∀(ts:List Nat) (l:List (DataW H)),(∀t∈ts,t∈TS)->∀x∈DataW.weightsEach P ts l,x<=8192*Rows.uptoBulkAll l
 | [],l,_,x,hx=>by simp[DataW.weightsEach] at hx
 |t::ts,[],_,x,hx=>by simp[DataW.weightsEach] at hx
 |t::ts,d::r,ht,x,hx=>by
  simp only[DataW.weightsEach] at hx
  simp only[Rows.uptoBulkAll]
  rcases List.mem_append.1 hx with hx | hx
  ·have:=Bbf hT d t (ht t (by simp)) x hx;omega
  ·have:=M3 hT ts r (fun u hu=>ht u (by simp[hu])) x hx;omega
theorem W9{P:Program}{TS:List Nat}(hT:∀t∈TS,Mn P TS t=true){H:Type}:∀(l:List (Go.Lit×DataW H)) (e:Nat),e∈TS->∀x∈DataW.weightsEntries P e l,x<=8192*Rows.uptoBulkEntries l
 | [],e,_,x,hx=>by simp[DataW.weightsEntries] at hx
 |(k,d)::r,e,he,x,hx=>by
  simp only[DataW.weightsEntries] at hx
  simp only[Rows.uptoBulkEntries]
  rcases List.mem_append.1 hx with hx | hx
  ·cases k with
   |string bytes =>
    simp only[DataW.weightsEntry] at hx
    simp only[Rows.uptoBulkEntry]
    rcases List.mem_cons.1 hx with rfl | hx
    ·omega
    ·have:=Bbf hT d e he x hx;omega
   |_ =>
    simp only[DataW.weightsEntry] at hx
    simp only[Rows.uptoBulkEntry]
    have:=Bbf hT d e he x hx;omega
  ·have:=W9 hT r e he x hx;omega
end
theorem BcD{P:Program}{TS:List Nat}(hT:∀t∈TS,Mn P TS t=true){H:Type}{ts:List Nat}(hts:∀t∈ts,t∈TS){ds:List (DataW H)}(hk:Rows.uptoSmall H ds=true):(DataW.weightsEach P ts ds).all (·<=EG)=true:=by
 have hb:Rows.uptoBulkAll ds<=1048576:=of_decide_eq_true hk
 refine List.all_eq_true.2 fun x hx=>?_
 have:=M3 hT ts ds hts x hx
 unfold EG
 simp only[decide_eq_true_eq]
 omega
open Go Go.Ab Go.RowKit
theorem own:ownKnob Try.prog.godebug=none:=by kernel_rfl
theorem laid:laidOutB Try.prog=true:=by kernel_rfl
def Rk:List (String×DataW Unit):=[]
theorem Bci{W:World}(_:laidMetH Try.prog Rk W):G0 W:=trivial
noncomputable def IF(os:Os):World:=World.holding Try.prog os ⟨#[],#[],[]⟩
def TSl:List Nat:=List.range 105
theorem Ber:∀t∈TSl,Mn Try.prog TSl t=true:=List.all_eq_true.1 (show TSl.all (Mn Try.prog TSl)=true by kernel_rfl)
theorem Ban{α:Type}{o:Option α}{p:α->Bool}(h:(match o with | some x=>p x | none=>false)=true):∃x,o=some x/\p x=true:=by
 cases o with
 |none=>cases h
 |some x=>exact⟨x,rfl,h⟩
def gsl{α:Type}[Inhabited α](w:Nat)(g:α->List D)(l:List α):D:=.sl w l.length (fun i=>g (l.getD i default)) .any
instance:Inhabited Arr:=⟨.mk 0 [] [] []⟩
def DA:Arr:=Arr.mk (0:Int) [] [] []
def GA(l:List Arr)(i:Nat):Arr:=List.getD l i (Arr.mk (0:Int) [] [] [])
def BcE:List D->Int
 | [.int _ z]=>z
 |_=>0
def BF(n:Nat)(f:Nat->List D):List Int:=(List.range n).map fun i=>BcE (f i)
theorem Cr(l:List Int):BF l.length (fun i=>[D.int .i64 (l.getD i 0)])=l:=by
 apply List.ext_getElem
 ·simp[BF]
 ·intro i h1 h2
  simp[BF,BcE,List.getD_eq_getElem?_getD,h2]
def IntsP(n:Nat)(f:Nat->List D):Prop:=∀i,i<n->f i=[.int .i64 (BcE (f i))]
theorem Cj{n:Nat}{f:Nat->List D}{m:Ab.Mode}(h:IntsP n f):Bo [.sl 1 n f m] [isl (BF n f) .any]:=by
 simp only[isl,Bo,Be,Ba]
 refine⟨⟨by simp,by simp[BF],fun i hi=>?_,by simp[Bw]⟩,trivial⟩
 have e:(BF n f).getD i 0=BcE (f i):=by simp[BF,List.getD_eq_getElem?_getD,hi]
 rw[e]
 exact h i hi
def goO:List Int->Int->Option Int
 | [],p=>some p
 |d::r,p=>if d<0\/65536<d then none else if d=0 then goO r p else if 65536<p*d then none else goO r (p*d)
def Bk(s:List Int):Bool:=decide (s.length<=8)&&(goO s 1).isSome
def BU(s:List Int):Int:=if s.contains 0 then 0 else (goO s 1).getD 0
structure GoHead (l:List Int) (i:Nat) (p:Int):Prop where
 hi:i<=l.length
 h1:1<=p
 h2:p<=65536
 hg:goO (l.drop i) p=goO l 1
theorem GoHead.init(l:List Int):GoHead l 0 1:=⟨Nat.zero_le _,by omega,by omega,by simp⟩
theorem MT{l:List Int}{i:Nat}(h:i<l.length):l.drop i=l.getD i 0::l.drop (i+1):=Cb h
theorem GoHead.step{l : List Int}{i : Nat}{p : Int}(h : GoHead l i p)(hlt : i<l.length) :
  (l.getD i 0<0->goO l 1=none)/\(65536<l.getD i 0->goO l 1=none)/\(l.getD i 0=0->GoHead l (i+1) p) /\
  (¬l.getD i 0<0->¬65536<l.getD i 0->0<=p*l.getD i 0/\p*l.getD i 0<=4294967296/\(65536<p*l.getD i 0->l.getD i 0≠0->goO l 1=none)/\(¬65536<p*l.getD i 0->l.getD i 0≠0->GoHead l (i+1) (p*l.getD i 0))):=by
 have hg:=h.hg
 rw[MT hlt,goO] at hg
 generalize l.getD i 0=d at *
 refine⟨fun h0=>?_,fun h0=>?_,fun h0=>?_,fun h0 h3=>?_⟩
 ·rw[if_pos (.inl h0)] at hg;exact hg.symm
 ·rw[if_pos (.inr h0)] at hg;exact hg.symm
 ·subst h0
  simp at hg
  exact⟨by omega,h.h1,h.h2,hg⟩
 ·have b1:0<=p*d:=Int.mul_nonneg (by have:=h.h1;omega) (by omega)
  have b2:p*d<=65536*65536:=Int.mul_le_mul h.h2 (by omega) (by omega) (by omega)
  refine⟨b1,by omega,fun h4 h5=>?_,fun h4 h5=>?_⟩
  ·rw[if_neg (by omega),if_neg h5,if_pos h4] at hg;exact hg.symm
  ·rw[if_neg (by omega),if_neg h5,if_neg h4] at hg
   refine⟨by omega,?_,by omega,hg⟩
   have:0<p*d:=Int.mul_pos (by have:=h.h1;omega) (by omega)
   omega
theorem GoHead.done{l:List Int}{i:Nat}{p:Int}(h:GoHead l i p)(hge:¬(i:Int)<l.length):goO l 1=some p:=by
 have hg:=h.hg
 have:i=l.length:=by have:=h.hi;omega
 rw[this,List.drop_length,goO] at hg
 exact hg.symm
noncomputable def Eright(l:List Int):Senv:={ EC EA 31 1 [2,3,5,8,9,10,11,12,15,22,29] (fun _=>([],[])) with
 ann:=fun b _ _=>match b with
  |0=>some { slots:=[11,3],keep:=[9,10],α:=Nat×Int,st:=fun y=>([.int .i64 y.1,.int .i64 y.2],⟨[],[]⟩),inv:=fun y=>GoHead l y.1 y.2,mu:=fun y=>l.length-y.1 }
  |_=>none }
def XP(a:List Int):Prop:=True/\∃(_y:Unit),True/\false=Bk a/\True/\True
def Ku(a:List Int)(b:Nat):Int:=GI a (Int.toNat (↑b:Int))
def XQ(a:List Int)(b:Nat):Bool:=bif decide (Ku a b<Z0) then true else decide ((65536:Int)<Ku a b)
def Qff(a:List Int):D:=SI a
def Hn(a:List Int):Prop:=SM (Qff a)/\SM (ZI (LI a))/\True
theorem Gj(l:List Int):ACalls Try.prog 38 [isl l .any] ⟨[],[]⟩ (SpecR (sC [isl l .any] (.bool (Bk l))) ()):=by
 refine Bp (A:=sC _ _) (x:=()) (E:=Eright l) (eOk BA rfl) Try.func38 rfl (by kernel_rfl) rfl (by simp[sC,Eright,EC,E0]) ?_
 refine Bt (T :=
  ifB (decide ((8:Int)<(LI l))) (XP l) ((∃(x:Nat×Int),GoHead l x.1 x.2/\(Z0=(NI x.1)/\Z1=x.2/\True)/\True/\True)/\∀(x:Nat×Int),GoHead l x.1 x.2->ifB (decide ((NI x.1)<(LI l))) (Bb (Z0<=(NI x.1)/\(NI x.1)<(LI l)) (ifB (decide (Ku l x.1<Z0)) (true=XQ l x.1/\True) (decide ((65536:Int)<Ku l x.1)=XQ l x.1/\True)/\ifB (XQ l x.1) (XP l) (ifB (Ku l x.1==Z0) (Hn l/\∃(y:Nat×Int),GoHead l y.1 y.2/\LN l-y.1<LN l-x.1/\(IntKind.wrap IntKind.i64 ((NI x.1)+Z1)=(NI y.1)/\x.2=y.2/\True)/\True/\True) (ifB (decide ((65536:Int)<IntKind.wrap IntKind.i64 (x.2*Ku l x.1))) (XP l) (Hn l/\∃(y:Nat×Int),GoHead l y.1 y.2/\LN l-y.1<LN l-x.1/\(IntKind.wrap IntKind.i64 ((NI x.1)+Z1)=(NI y.1)/\IntKind.wrap IntKind.i64 (x.2*Ku l x.1)=y.2/\True)/\True/\True))))) (RT (true=Bk l)))) (by kernel_rfl) ?_
 delta GI LI LN N1 NI SI SM Z0 Z1 ZI XP Ku XQ Qff Hn RT
 simp only[Int.toNat_natCast,Bn,Bd,decide_eq_true_eq,decide_eq_false_iff_not,true_and,and_true,beq_iff_eq,Bool.cond_true_left,beq_eq_false_iff_ne,ne_eq,exists_const]
 have no:goO l 1=none->false=Bk l:=fun h=>by simp[Bk,h]
 refine⟨fun h=>?_,fun h8=>⟨⟨(0,1),GoHead.init l,rfl,rfl⟩,?_⟩⟩
 ·have:¬l.length<=8:=by omega
  simp[Bk,this]
 rintro ⟨i,p⟩ hh
 simp only at hh ⊢
 refine⟨fun hlt=>?_,fun hge=>?_⟩
 rotate_left
 ·have:l.length<=8:=by omega
  simp[Bk,hh.done hge,this]
 have hlt':i<l.length:=by omega
 obtain ⟨s1,s2,s3,s4⟩:=hh.step hlt'
 refine⟨by omega,⟨fun h=>by rw[decide_eq_true h];rfl,fun h=>by rw[decide_eq_false h];rfl⟩,fun h=>no ?_,fun h=>?_⟩
 ·rw[Bool.or_eq_true,decide_eq_true_eq,decide_eq_true_eq] at h
  exact h.elim s1 s2
 ·rw[Bool.or_eq_false_iff,decide_eq_false_iff_not,decide_eq_false_iff_not] at h
  obtain ⟨b1,b2,s5,s6⟩:=s4 h.1 h.2
  have hw:IntKind.i64.wrap (p*l.getD i 0)=p*l.getD i 0:=Bc (by omega) (by omega)
  rw[hw]
  exact⟨fun hd=>⟨(i+1,p),s3 hd,by simp only;omega,Bc (by omega) (by omega),rfl⟩,fun hd=>⟨fun h4=>no (s5 h4 hd),fun h4=>⟨(i+1,p*l.getD i 0),s6 h4 hd,by simp only;omega,Bc (by omega) (by omega),rfl⟩⟩⟩
noncomputable def Erprod(l:List Int):Senv:={ EC EA 30 1 [2,3,4,8,15,20,28] (fun _=>([],[])) with
 ann:=fun b _ _=>match b with
  |0=>some { slots:=[4,3],keep:=[0],α:=Nat×Int,st:=fun y=>([.int .i64 y.1,.int .i64 y.2],⟨[],[]⟩),inv:=fun y=>GoHead l y.1 y.2,mu:=fun y=>l.length-y.1 }
  |_=>none }
def XR(a:List Int):Prop:=True/\∃(_y:Unit),True/\(65537:Int)=Option.getD (goO a Z1) (65537:Int)/\True/\True
def Qfg(a:List Int):D:=SI a
def Ho(a:List Int):Prop:=SM (Qfg a)/\True
theorem BaQ(l:List Int)(h0:∀z∈l,0<=z)(hl:l.length<=maxLen):ACalls Try.prog 62 [isl l .any] ⟨[],[]⟩ (SpecR (sC [isl l .any] (.int .i64 ((goO l 1).getD 65537))) ()):=by
 refine Bp (A:=sC _ _) (x:=()) (E:=Erprod l) (eOk BA rfl) Try.func62 rfl (by kernel_rfl) rfl (by simp[sC,Erprod,EC,E0]) ?_
 refine Bt (T :=
  (∃(x:Nat×Int),GoHead l x.1 x.2/\(Z0=(NI x.1)/\Z1=x.2/\True)/\True/\True)/\∀(x:Nat×Int),GoHead l x.1 x.2->ifB (decide ((NI x.1)<(LI l))) (Bb (Z0<=(NI x.1)/\(NI x.1)<(LI l)) (ifB (decide ((65536:Int)<GI l (TN x.1))) (XR l) (Bb (Z0<=(NI x.1)/\(NI x.1)<(LI l)) (ifB (decide (Z0<GI l (TN x.1))) (Bb (Z0<=(NI x.1)/\(NI x.1)<(LI l)) (ifB (decide ((65536:Int)<IntKind.wrap IntKind.i64 (x.2*GI l (TN x.1)))) (XR l) (Ho l/\∃(y:Nat×Int),GoHead l y.1 y.2/\LN l-y.1<LN l-x.1/\(IntKind.wrap IntKind.i64 ((NI x.1)+Z1)=(NI y.1)/\IntKind.wrap IntKind.i64 (x.2*GI l (TN x.1))=y.2/\True)/\True/\True))) (ifB (decide ((65536:Int)<x.2)) (XR l) (Ho l/\∃(y:Nat×Int),GoHead l y.1 y.2/\LN l-y.1<LN l-x.1/\(IntKind.wrap IntKind.i64 ((NI x.1)+Z1)=(NI y.1)/\x.2=y.2/\True)/\True/\True)))))) (RT (x.2=Option.getD (goO l Z1) (65537:Int)))) (by kernel_rfl) ?_
 delta GI LI LN N1 NI SI SM TN Z0 Z1 ZI XR Qfg Ho RT
 simp only[Int.toNat_natCast,Bn,Bd,decide_eq_true_eq,decide_eq_false_iff_not,true_and,and_true,exists_const]
 have no:goO l 1=none->(65537:Int)=(goO l 1).getD 65537:=fun h=>by simp[h]
 refine⟨⟨(0,1),GoHead.init l,rfl,rfl⟩,?_⟩
 rintro ⟨i,p⟩ hh
 simp only at hh ⊢
 refine⟨fun hlt=>?_,fun hge=>by simp[hh.done hge]⟩
 have hlt':i<l.length:=by omega
 obtain ⟨s1,s2,s3,s4⟩:=hh.step hlt'
 have hd0:0<=l.getD i 0:=h0 _ (by rw[List.getD_eq_getElem?_getD,List.getElem?_eq_getElem hlt'];exact List.getElem_mem hlt')
 simp only[maxLen] at hl
 refine⟨by omega,fun h=>no (s2 h),fun h=>⟨by omega,?_⟩⟩
 obtain ⟨b1,b2,s5,s6⟩:=s4 (by omega) h
 have hw:IntKind.i64.wrap (p*l.getD i 0)=p*l.getD i 0:=Bc (by omega) (by omega)
 rw[hw]
 refine⟨fun hd=>⟨by omega,fun h4=>no (s5 h4 (by omega)),fun h4=>⟨(i+1,p*l.getD i 0),s6 h4 (by omega),by simp only;omega,Bc (by omega) (by omega),rfl⟩⟩,fun hd=>⟨fun h4=>absurd h4 (by have:=hh.h2;omega),fun _=>⟨(i+1,p),s3 (by omega),by simp only;omega,Bc (by omega) (by omega),rfl⟩⟩⟩
def conR:Con:=EA
theorem Bcs:ConOk Try.prog conR:=BA
def E1(p:Int->Bool):List Int->Nat->Int
 | [],_=>-1
 |d::r,i=>if p d then (i:Int) else E1 p r (i+1)
theorem Mv(p:Int->Bool):∀(l:List Int) (i:Nat),decide (0<=E1 p l i)=l.any p
 | [],i=>rfl
 |d::r,i=>by
  rw[E1,List.any_cons]
  split
  ·rename_i h;rw[h];simp
  ·rename_i h
   rw[Mv p r (i+1)]
   simp[h]
structure IdxHead (p:Int->Bool) (l:List Int) (i:Nat):Prop where
 hi:i<=l.length
 hg:E1 p (l.drop i) i=E1 p l 0
theorem IdxHead.step{p:Int->Bool}{l:List Int}{i:Nat}(h:IdxHead p l i)(hlt:i<l.length):(p (l.getD i 0)=true->E1 p l 0=i)/\(p (l.getD i 0)=false->IdxHead p l (i+1)):=by
 have hg:=h.hg
 rw[MT hlt,E1] at hg
 refine⟨fun e=>?_,fun e=>?_⟩
 ·rw[if_pos e] at hg;exact hg.symm
 ·rw[if_neg (by rw[e];exact Bool.false_ne_true)] at hg;exact⟨by omega,hg⟩
theorem IdxHead.done{p:Int->Bool}{l:List Int}{i:Nat}(h:IdxHead p l i)(hge:¬(i:Int)<l.length):E1 p l 0 = -1:=by
 have hg:=h.hg
 have:i=l.length:=by have:=h.hi;omega
 rw[this,List.drop_length,E1] at hg
 exact hg.symm
def annI(p:Int->Bool)(l:List Int)(keep:List Nat):LoopAnn:={ slots:=[8],keep:=keep,α:=Nat,st:=fun i=>([.int .i64 i],⟨[],[]⟩),inv:=fun i=>IdxHead p l i,mu:=fun i=>l.length-i }
noncomputable def Eidx(l:List Int)(v:Int):Senv:={ EC EA 19 2 [4,5,7,8,9,16] (fun _=>([],[])) with
 ann:=fun b _ _=>match b with
  |0=>some (annI (fun d=>v==d) l [0,1,6,7])
  |_=>none }
def XS(a:Int)(b:List Int)(c:Nat):Prop:=IdxHead (fun (d:Int)=>a==d) b c
def Qfh(a:List Int):D:=SI a
theorem BdG(l:List Int)(v:Int)(hl:l.length<=maxLen):ACalls Try.prog 71 [isl l .any,.int .i64 v] ⟨[],[]⟩ (SpecR (sC [isl l .any,.int .i64 v] (.int .i64 (E1 (fun d=>v==d) l 0))) ()):=by
 refine Bp (A:=sC _ _) (x:=()) (E:=Eidx l v) (eOk BA rfl) Try.func71 rfl (by kernel_rfl) rfl (by simp[sC,Eidx,EC,E0]) ?_
 refine Bt (T :=
  (∃(x:Nat),XS v l x/\(Z0=(↑x:Int)/\True)/\True/\True)/\∀(x:Nat),XS v l x->ifB (decide ((↑x:Int)<(LI l))) (Bb (Z0<=(↑x:Int)/\(↑x:Int)<(LI l)) (ifB (v==GI l (Int.toNat (↑x:Int))) (RT ((↑x:Int)=E1 (fun (d:Int)=>v==d) l N0)) ((SM (Qfh l)/\SM (ZI v)/\SM D.unk/\SM (ZI (LI l))/\True)/\∃(y:Nat),XS v l y/\LN l-y<LN l-x/\(IntKind.wrap IntKind.i64 ((↑x:Int)+Z1)=(↑y:Int)/\True)/\True/\True))) (RT ((-1:Int)=E1 (fun (d:Int)=>v==d) l N0))) (by kernel_rfl) ?_
 delta GI LI LN N0 N1 SI SM Z0 Z1 ZI XS Qfh RT
 simp only[Int.toNat_natCast,Bn,Bd,decide_eq_true_eq,decide_eq_false_iff_not,true_and,and_true,exists_const]
 simp only[maxLen] at hl
 refine⟨⟨0,⟨Nat.zero_le _,by simp⟩,rfl⟩,fun i hh=>⟨fun hlt=>?_,fun hge=>(hh.done hge).symm⟩⟩
 have hlt':i<l.length:=by omega
 obtain ⟨s1,s2⟩:=hh.step hlt'
 exact⟨by omega,fun h=>(s1 h).symm,fun h=>⟨i+1,s2 h,by omega,Bc (by omega) (by omega)⟩⟩
noncomputable def Eneg(l:List Int):Senv:={ EC EA 19 2 [4,5,7,8,9,16] (fun _=>([],[])) with
 ann:=fun b _ _=>match b with
  |0=>some (annI (fun d=>decide (d<0)) l [0,1,6,7])
  |_=>none }
def XT(a:List Int)(b:Nat):Prop:=IdxHead (fun (d:Int)=>decide (d<Z0)) a b
def Hp(a:List Int):Int:=E1 (fun (d:Int)=>decide (d<Z0)) a N0
def Qfi(a:List Int):D:=SI a
theorem BdW(l:List Int)(hl:l.length<=maxLen):ACalls Try.prog 67 [isl l .any,.fn (.func 60) [] []] ⟨[],[]⟩ (SpecR (sC [isl l .any,.fn (.func 60) [] []] (.int .i64 (E1 (fun d=>decide (d<0)) l 0))) ()):=by
 refine Bp (A:=sC _ _) (x:=()) (E:=Eneg l) (eOk BA rfl) Try.func67 rfl (by kernel_rfl) rfl (by simp[sC,Eneg,EC,E0]) ?_
 refine Bt (T :=
  (∃(x:Nat),XT l x/\(Z0=(↑x:Int)/\True)/\True/\True)/\∀(x:Nat),XT l x->ifB (decide ((↑x:Int)<(LI l))) (Bb (Z0<=(↑x:Int)/\(↑x:Int)<(LI l)) (True/\ifB (decide (GI l (Int.toNat (↑x:Int))<Z0)) (RT ((↑x:Int)=Hp l)) ((SM (Qfi l)/\SM (D.fn (Fn.func (60:Nat)) [] [])/\SM D.unk/\SM (ZI (LI l))/\True)/\∃(y:Nat),XT l y/\LN l-y<LN l-x/\(IntKind.wrap IntKind.i64 ((↑x:Int)+Z1)=(↑y:Int)/\True)/\True/\True))) (RT ((-1:Int)=Hp l))) (by kernel_rfl) ?_
 delta GI LI LN N0 N1 SI SM Z0 Z1 ZI XT Hp Qfi RT
 simp only[Int.toNat_natCast,Bn,Bd,decide_eq_true_eq,decide_eq_false_iff_not,true_and,and_true,exists_const]
 simp only[maxLen] at hl
 refine⟨⟨0,⟨Nat.zero_le _,by simp⟩,rfl⟩,fun i hh=>⟨fun hlt=>?_,fun hge=>(hh.done hge).symm⟩⟩
 have hlt':i<l.length:=by omega
 obtain ⟨s1,s2⟩:=hh.step hlt'
 exact⟨by omega,fun h=>(s1 (decide_eq_true h)).symm,fun h=>⟨i+1,s2 (decide_eq_false h),by omega,Bc (by omega) (by omega)⟩⟩
theorem BI(l:List Int):IntsP l.length (fun i=>[D.int .i64 (l.getD i 0)]):=fun _ _=>rfl
def OW:Con:=fun k ds S=>match k with
 |71=>match ds with
  | [.sl 1 n f _,.int .i64 v]=>some (pC ds (.int .i64 (E1 (fun d=>v==d) (BF n f) 0)) (IntsP n f/\n<=maxLen))
  |_=>none
 |67=>match ds with
  | [.sl 1 n f _,.fn (.func 60) [] []]=>some (pC ds (.int .i64 (E1 (fun d=>decide (d<0)) (BF n f) 0)) (IntsP n f/\n<=maxLen))
  |_=>none
 |38=>match ds with
  | [.sl 1 n f _]=>some (pC ds (.bool (Bk (BF n f))) (IntsP n f))
  |_=>none
 |62=>match ds with
  | [.sl 1 n f _]=>some (pC ds (.int .i64 ((goO (BF n f) 1).getD 65537)) (IntsP n f/\(∀z∈BF n f,0<=z)/\n<=maxLen))
  |_=>none
 |k=>conR k ds S
theorem C5(n:Nat)(f:Nat->List D):(BF n f).length=n:=by simp[BF]
theorem CF{k:Nat}{ds us:List D}{d:D}(hw:Bo ds us)(h:ACalls Try.prog k us ⟨[],[]⟩ (SpecR (sC us d) ())):ACalls Try.prog k ds ⟨[],[]⟩ (SpecR (sC ds d) ()) :=
 (ACalls.weakArgs h hw).mono fun _ _ ⟨_,_h1,h2,h3⟩=>⟨(),trivial,h2,h3⟩
theorem It:ConOk Try.prog OW:=by
 intro k ds S A h
 unfold OW at h
 split at h
 ·split at h
  ·injection h with h;subst h
   exact Ei fun ⟨h1,h2⟩=>⟨Bl _,CF (us:=[isl (BF _ _) .any,_]) ⟨(Cj h1).1,Bg _,trivial⟩ (BdG _ _ (by rw[C5];exact h2))⟩
  ·cases h
 ·split at h
  ·injection h with h;subst h
   exact Ei fun ⟨h1,h2⟩=>⟨Bl _,CF (us:=[isl (BF _ _) .any,_]) ⟨(Cj h1).1,Bg _,trivial⟩ (BdW _ (by rw[C5];exact h2))⟩
  ·cases h
 ·split at h
  ·injection h with h;subst h
   exact Ei fun h1=>⟨Bl _,CF (Cj h1) (Gj _)⟩
  ·cases h
 ·split at h
  ·injection h with h;subst h
   exact Ei fun ⟨h1,h2,h3⟩=>⟨Bl _,CF (Cj h1) (BaQ _ h2 (by rw[C5];exact h3))⟩
  ·cases h
 ·exact Bcs _ _ _ _ h
noncomputable def Eprod(l:List Int):Senv:={ EC OW 19 1 [2,3,5,7,8,9,10,11] (fun _=>([],[])) with
 ann:=fun b _ _=>match b with
  |0=>some { slots:=[10,3],keep:=[8,9],α:=Nat×Int,st:=fun y=>([.int .i64 y.1,.int .i64 y.2],⟨[],[]⟩),inv:=fun y=>GoHead l y.1 y.2,mu:=fun y=>l.length-y.1 }
  |_=>none }
def Qfj(a:List Int):D:=SI a
theorem Rb(l:List Int)(h:Bk l=true):ACalls Try.prog 58 [isl l .any] ⟨[],[]⟩ (SpecR (sC [isl l .any] (.int .i64 (BU l))) ()):=by
 refine Bp (A:=sC _ _) (x:=()) (E:=Eprod l) (eOk It rfl) Try.func58 rfl (by kernel_rfl) rfl (by simp[sC,Eprod,EC,E0]) ?_
 refine Bt (T :=
  ((IntsP (LN l) fun i=>[ZI (GI l i)])/\LN l<=9223372036854775807)/\∀(y:Unit),True->True/\ifB (decide (Z0<=E1 (fun (d:Int)=>Z0==d) (BF (LN l) fun i=>[ZI (GI l i)]) N0)) (RT (Z0=BU l)) ((∃(x:Nat×Int),GoHead l x.1 x.2/\(Z0=(NI x.1)/\Z1=x.2/\True)/\True/\True)/\∀(x:Nat×Int),GoHead l x.1 x.2->ifB (decide ((NI x.1)<(LI l))) (Bb (Z0<=(NI x.1)/\(NI x.1)<(LI l)) ((SM (Qfj l)/\SM (ZI (LI l))/\True)/\∃(y:Nat×Int),GoHead l y.1 y.2/\LN l-y.1<LN l-x.1/\(IntKind.wrap IntKind.i64 ((NI x.1)+Z1)=(NI y.1)/\IntKind.wrap IntKind.i64 (x.2*GI l (TN x.1))=y.2/\True)/\True/\True)) (RT (x.2=BU l)))) (by kernel_rfl) ?_
 delta GI LI LN N0 N1 NI SI SM TN Z0 Z1 ZI Qfj RT
 simp only[Cr,Mv,Int.toNat_natCast,Bn,Bd,decide_eq_true_eq,decide_eq_false_iff_not,true_and,and_true,exists_const]
 simp only[Bk,Bool.and_eq_true,decide_eq_true_eq] at h
 have hcon:(l.any fun d=>0==d)=l.contains 0:=by
  rw[Bool.eq_iff_iff,List.contains_iff_mem,List.any_eq_true]
  constructor
  ·rintro ⟨z,hz,e⟩
   have e:0=z:=by simpa using e
   rw[e];exact hz
  ·exact fun hm=>⟨0,hm,rfl⟩
 rw[hcon]
 refine⟨⟨BI l,by omega⟩,fun _ _=>⟨fun hz=>by rw[BU,if_pos hz],fun hz=>⟨⟨(0,1),GoHead.init l,rfl,rfl⟩,?_⟩⟩⟩
 rintro ⟨i,p⟩ hh
 simp only at hh ⊢
 refine⟨fun hlt=>?_,fun hge=>by rw[BU,if_neg (by rw[hz];exact Bool.false_ne_true),hh.done hge];rfl⟩
 have hlt':i<l.length:=by omega
 obtain ⟨s1,s2,s3,s4⟩:=hh.step hlt'
 have hne:l.getD i 0≠0:=by
  intro e
  have:l.contains 0=true:=by
   rw[List.contains_iff_mem,<- e,List.getD_eq_getElem?_getD,List.getElem?_eq_getElem hlt'];exact List.getElem_mem hlt'
  rw[this] at hz;cases hz
 have n1:¬l.getD i 0<0:=fun e=>by rw[s1 e] at h;exact absurd h.2 (by simp)
 have n2:¬65536<l.getD i 0:=fun e=>by rw[s2 e] at h;exact absurd h.2 (by simp)
 obtain ⟨b1,b2,s5,s6⟩:=s4 n1 n2
 have n3:¬65536<p*l.getD i 0:=fun e=>by rw[s5 e hne] at h;exact absurd h.2 (by simp)
 exact⟨by omega,(i+1,p*l.getD i 0),s6 n3 hne,by simp only;omega,Bc (by omega) (by omega),Bc (by omega) (by omega)⟩
noncomputable def Edims(l:List Int):Senv:={ EC OW 21 1 [2,3,6,10,17,20] (fun _=>([],[])) with
 ann:=fun b _ _=>match b with
  |0=>some { slots:=[3],keep:=[0],α:=Nat,st:=fun i=>([.int .i64 i],⟨[],[]⟩),inv:=fun i=>i<=l.length/\∀z∈l.take i,0<=z,mu:=fun i=>l.length-i }
  |_=>none }
theorem TA:∀(l:List Int) (p:Int),p<=65536->∀q,goO l p=some q->q<=65536
 | [],p,hp,q,h=>by rw[goO] at h;injection h with h;omega
 |d::r,p,hp,q,h=>by
  rw[goO] at h
  split at h
  ·cases h
  ·split at h
   ·exact TA r p hp q h
   ·split at h
    ·cases h
    ·exact TA r _ (by omega) q h
def B1(s:List Int):Int:=if 8<s.length then 15 else if s.any (fun d=>decide (d<0)) then 16 else if (goO s 1).isSome then 0 else 21
def Vd(a:List Int):Int:=B1 a
def XU(a:Nat)(b:List Int):Prop:=a<=LN b/\∀(z:Int),z∈List.take a b->Z0<=z
def Qfk(a:List Int):D:=SI a
def Hq(a:List Int):List Int:=BF (LN a) fun i=>[ZI (GI a i)]
theorem Bcx(l:List Int):ACalls Try.prog 52 [isl l .any] ⟨[],[]⟩ (SpecR (sC [isl l .any] (.int .i64 (B1 l))) ()):=by
 refine Bp (A:=sC _ _) (x:=()) (E:=Edims l) (eOk It rfl) Try.func52 rfl (by kernel_rfl) rfl (by simp[sC,Edims,EC,E0]) ?_
 refine Bt (T :=
  ifB (decide ((8:Int)<(LI l))) (RT ((15:Int)=Vd l)) ((∃(x:Nat),XU x l/\(Z0=(↑x:Int)/\True)/\True/\True)/\∀(x:Nat),XU x l->ifB (decide ((↑x:Int)<(LI l))) (Bb (Z0<=(↑x:Int)/\(↑x:Int)<(LI l)) (ifB (decide (GI l (Int.toNat (↑x:Int))<Z0)) (RT ((16:Int)=Vd l)) ((SM (Qfk l)/\True)/\∃(y:Nat),XU y l/\LN l-y<LN l-x/\(IntKind.wrap IntKind.i64 ((↑x:Int)+Z1)=(↑y:Int)/\True)/\True/\True))) (((IntsP (LN l) fun i=>[ZI (GI l i)])/\(∀(z:Int),z∈Hq l->Z0<=z)/\LN l<=9223372036854775807)/\∀(y:Unit),True->ifB (decide ((65536:Int)<Option.getD (goO (Hq l) Z1) (65537:Int))) (RT ((21:Int)=Vd l)) (RT (Z0=Vd l))))) (by kernel_rfl) ?_
 delta GI LI LN N1 SI SM Z0 Z1 ZI Vd XU Qfk Hq RT
 simp only[Cr,Int.toNat_natCast,Bn,Bd,decide_eq_true_eq,decide_eq_false_iff_not,true_and,and_true,exists_const]
 have tk:∀i,i<l.length->∀P:Int->Prop,(∀z∈l.take i,P z)->P (l.getD i 0)->∀z∈l.take (i+1),P z:=fun i hi P h1 h2 z hz=>by
  rw[List.take_add_one,List.mem_append] at hz
  rcases hz with hz | hz
  ·exact h1 z hz
  ·rw[List.getElem?_eq_getElem hi] at hz
   simp at hz
   rw[hz]
   simpa[List.getD_eq_getElem?_getD,hi] using h2
 refine⟨fun h=>?_,fun h8=>⟨⟨0,⟨Nat.zero_le _,by simp⟩,rfl⟩,fun i hh=>⟨fun hlt=>?_,fun hge=>?_⟩⟩⟩
 ·have:8<l.length:=by omega
  simp[B1,this]
 ·have hlt':i<l.length:=by omega
  have h8':¬8<l.length:=by omega
  refine⟨by omega,fun h=>?_,fun h=>⟨i+1,⟨by omega,tk i hlt' _ hh.2 (by omega)⟩,by omega,Bc (by omega) (by omega)⟩⟩
  have:l.any (fun d=>decide (d<0))=true:=by
   rw[List.any_eq_true]
   refine⟨l.getD i 0,?_,decide_eq_true h⟩
   rw[List.getD_eq_getElem?_getD,List.getElem?_eq_getElem hlt'];exact List.getElem_mem hlt'
  rw[B1,if_neg h8',if_pos this]
 ·have hi:i=l.length:=by omega
  rw[hi,List.take_length] at hh
  have h8':¬8<l.length:=by omega
  have hnn:¬l.any (fun d=>decide (d<0))=true:=by
   rw[List.any_eq_true]
   rintro ⟨z,hz,h⟩
   have:=hh.2 z hz
   simp at h
   omega
  refine⟨⟨BI l,hh.2,by omega⟩,fun _ _=>?_⟩
  rw[B1,if_neg h8',if_neg hnn]
  have hb:=TA l 1 (by omega)
  cases hg:goO l 1 with
  |none=>simp
  |some p=>have:=hb p hg;simp;omega
noncomputable def Ecount(l:List Int):Senv:={ EC OW 17 1 [2,3,7,14] (fun _=>([],[])) with
 ann:=fun b _ _=>match b with
  |0=>some { slots:=[3],keep:=[0],α:=Nat,st:=fun i=>([.int .i64 i],⟨[],[]⟩),inv:=fun i=>i<=l.length/\∀z∈l.take i,z≠0,mu:=fun i=>l.length-i }
  |_=>none }
def XV(a:Nat)(b:List Int):Prop:=a<=LN b/\∀(z:Int),z∈List.take a b->z≠Z0
def Qfl(a:List Int):D:=SI a
def Hr(a:List Int):List Int:=BF (LN a) fun i=>[ZI (GI a i)]
theorem BaV(l:List Int)(h:B1 l=0):ACalls Try.prog 53 [isl l .any] ⟨[],[]⟩ (SpecR (sC [isl l .any] (.int .i64 (BU l))) ()):=by
 refine Bp (A:=sC _ _) (x:=()) (E:=Ecount l) (eOk It rfl) Try.func53 rfl (by kernel_rfl) rfl (by simp[sC,Ecount,EC,E0]) ?_
 refine Bt (T :=
  (∃(x:Nat),XV x l/\(Z0=(↑x:Int)/\True)/\True/\True)/\∀(x:Nat),XV x l->ifB (decide ((↑x:Int)<(LI l))) (Bb (Z0<=(↑x:Int)/\(↑x:Int)<(LI l)) (ifB (GI l (Int.toNat (↑x:Int))==Z0) (RT (Z0=BU l)) ((SM (Qfl l)/\True)/\∃(y:Nat),XV y l/\LN l-y<LN l-x/\(IntKind.wrap IntKind.i64 ((↑x:Int)+Z1)=(↑y:Int)/\True)/\True/\True))) (((IntsP (LN l) fun i=>[ZI (GI l i)])/\(∀(z:Int),z∈Hr l->Z0<=z)/\LN l<=9223372036854775807)/\∀(y:Unit),True->RT (Option.getD (goO (Hr l) Z1) (65537:Int)=BU l))) (by kernel_rfl) ?_
 delta GI LI LN N1 SI SM Z0 Z1 ZI XV Qfl Hr RT
 simp only[Cr,Int.toNat_natCast,Bn,Bd,decide_eq_true_eq,decide_eq_false_iff_not,true_and,and_true,exists_const]
 have tk:∀i,i<l.length->∀P:Int->Prop,(∀z∈l.take i,P z)->P (l.getD i 0)->∀z∈l.take (i+1),P z:=fun i hi P h1 h2 z hz=>by
  rw[List.take_add_one,List.mem_append] at hz
  rcases hz with hz | hz
  ·exact h1 z hz
  ·rw[List.getElem?_eq_getElem hi] at hz
   simp at hz
   rw[hz]
   simpa[List.getD_eq_getElem?_getD,hi] using h2
 have hl8:l.length<=8:=by
  unfold B1 at h
  split at h
  ·cases h
  ·omega
 have hnn:∀z∈l,0<=z:=by
  intro z hz
  unfold B1 at h
  split at h
  ·cases h
  ·split at h
   ·cases h
   ·rename_i hn
    rw[List.any_eq_true] at hn
    by_cases h0:z<0
    ·exact (hn ⟨z,hz,decide_eq_true h0⟩).elim
    ·omega
 have hg:(goO l 1).isSome=true:=by
  unfold B1 at h
  (repeat' split at h)<;>first | assumption | (cases h;done)
 refine⟨⟨0,⟨Nat.zero_le _,by simp⟩,rfl⟩,fun i hh=>⟨fun hlt=>?_,fun hge=>?_⟩⟩
 ·have hlt':i<l.length:=by omega
  refine⟨by omega,fun h=>?_,fun h=>⟨i+1,⟨by omega,tk i hlt' _ hh.2 (by simpa using h)⟩,by omega,Bc (by omega) (by omega)⟩⟩
  have h0:l.getD i 0=0:=by simpa using h
  have:l.contains 0=true:=by
   rw[List.contains_iff_mem,<- h0,List.getD_eq_getElem?_getD,List.getElem?_eq_getElem hlt'];exact List.getElem_mem hlt'
  rw[BU,if_pos this]
 ·have hi:i=l.length:=by omega
  rw[hi,List.take_length] at hh
  refine⟨⟨BI l,hnn,by omega⟩,fun _ _=>?_⟩
  have:¬l.contains 0=true:=by
   rw[List.contains_iff_mem]
   exact fun hm=>hh.2 0 hm rfl
  rw[BU,if_neg this]
  cases hgo:goO l 1 with
  |none=>rw[hgo] at hg;cases hg
  |some p=>rfl
def Bx(k:Int)(s:List Int)(nn ni:Nat):Int :=
 if k=1\/k=2\/k=3 then
  if B1 s≠0 then B1 s
  else if ((if k=3 then (ni:Int) else nn)≠BU s)\/((if k=3 then (nn:Int) else ni)≠0) then 16 else 0
 else 14
def OL:Con:=fun k ds S=>match k with
 |58=>match ds with
  | [.sl 1 n f _]=>some (pC ds (.int .i64 (BU (BF n f))) (IntsP n f/\Bk (BF n f)=true))
  |_=>none
 |52=>match ds with
  | [.sl 1 n f _]=>some (pC ds (.int .i64 (B1 (BF n f))) (IntsP n f))
  |_=>none
 |53=>match ds with
  | [.sl 1 n f _]=>some (pC ds (.int .i64 (BU (BF n f))) (IntsP n f/\B1 (BF n f)=0))
  |_=>none
 |k=>OW k ds S
theorem Iu:ConOk Try.prog OL:=by
 intro k ds S A h
 unfold OL at h
 split at h
 ·split at h
  ·injection h with h;subst h
   exact Ei fun ⟨h1,h2⟩=>⟨Bl _,CF (Cj h1) (Rb _ h2)⟩
  ·cases h
 ·split at h
  ·injection h with h;subst h
   exact Ei fun h1=>⟨Bl _,CF (Cj h1) (Bcx _)⟩
  ·cases h
 ·split at h
  ·injection h with h;subst h
   exact Ei fun ⟨h1,h2⟩=>⟨Bl _,CF (Cj h1) (BaV _ h2)⟩
  ·cases h
 ·exact It _ _ _ _ h
noncomputable def Eform:Senv:=EC OL 44 5 [12,13,16,20,25,29,34] (fun id=>match id with | 1=>([0,1,2,3,4,5,6,7],[]) | _=>([],[]))
def KO(a:List Int):Prop:=IntsP (LN a) fun i=>[ZI (GI a i)]
def Hs(a:List Int):Prop:=KO a/\LN a<=9223372036854775807
def XW(a:List Int):List Int:=BF (LN a) fun i=>[ZI (GI a i)]
def Ht(a:List Int):Bool:=decide (Z0<=E1 (fun (d:Int)=>decide (d<Z0)) (XW a) N0)
def Kv(a:Int)(b:List Int)(c d:Nat):Prop:=RT ((16:Int)=Bx a b c d)
def Hu(a:List Int):Bool:=Bk (XW a)
def Ve(a:List Int):Bool:=!Hu a
def Hv(a:Int)(b:List Int)(c d:Nat):Prop:=True/\Kv a b c d
def Hw(a:List Int):Prop:=KO a/\Hu a=true
def Hx(a:Nat)(b:List Int):Bool:=(↑a:Int) != BU (XW b)
def Hy(a:Nat)(b:List Int)(c:Int)(d e:Nat):Prop:=SM a/\ifB (decide ((8:Int)<(LI b))) (RT ((15:Int)=Bx c b d e)) (SM a/\Hs b/\∀(y:Unit),True->True/\ifB (Ht b) (Kv c b d e) (SM a/\KO b/\∀(y:Unit),True->ifB (Ve b) (RT ((21:Int)=Bx c b d e)) (SM a/\KO b/\∀(y:Unit),True->ifB (Ve b) (Hv c b d e) (Hw b/\∀(y:Unit),True->True/\ifB (Hx d b) (Kv c b d e) (ifB ((↑e:Int) != Z0) (Kv c b d e) (RT (Z0=Bx c b d e)))))))
def Hz(a:Int)(b:Nat)(c:List Int)(d e:Nat):Prop:=ifB (a==3) (SM b/\ifB (decide ((8:Int)<(LI c))) (RT ((15:Int)=Bx a c d e)) (SM b/\Hs c/\∀(y:Unit),True->True/\ifB (Ht c) (Kv a c d e) (SM b/\KO c/\∀(y:Unit),True->ifB (Ve c) (RT ((21:Int)=Bx a c d e)) (SM b/\KO c/\∀(y:Unit),True->ifB (Ve c) (Hv a c d e) (Hw c/\∀(y:Unit),True->True/\ifB (Hx e c) (Kv a c d e) (ifB ((↑d:Int) != Z0) (Kv a c d e) (RT (Z0=Bx a c d e)))))))) (RT ((14:Int)=Bx a c d e))
theorem BcJ(k : Int)(s : List Int)(nn ni : Nat)(g h : Nat -> List D)(hs : s.length<=maxLen)(hn : nn<=maxLen)(hi : ni<=maxLen) :
  ACalls Try.prog 43 [.agg [.int .i64 k,isl s .any,.sl 1 nn g .any,.sl 4 ni h .any]] ⟨[],[]⟩ (SpecR (sC [.agg [.int .i64 k,isl s .any,.sl 1 nn g .any,.sl 4 ni h .any]] (.int .i64 (Bx k s nn ni))) ()):=by
 refine Bp (A:=sC _ _) (x:=()) (E:=Eform) (eOk Iu rfl) Try.func43 rfl (by kernel_rfl) rfl (by simp[sC,Eform,EC,E0]) ?_
 refine Bt (T :=
  ∀(x:Nat),True->SM x/\SM x/\SM x/\ifB (k==Z1) (ifB (k==Z1) (Hy x s k nn ni) (Hz k x s nn ni)) (ifB (k==2) (Hy x s k nn ni) (Hz k x s nn ni))) (by kernel_rfl) ?_
 delta GI LI LN N0 SM Z0 Z1 ZI KO Hs Hy Hz XW Ht Kv Hu Ve Hv Hw Hx RT
 simp only[Cr,Mv,Int.toNat_natCast,Bn,Bd,decide_eq_true_eq,decide_eq_false_iff_not,true_and,and_true,beq_iff_eq,bne_iff_ne,Bool.cond_false_right,Bool.cond_true_left,Bool.and_eq_true,Bool.and_eq_false_iff,beq_eq_false_iff_ne,ne_eq,exists_const,forall_const]
 simp only[maxLen] at hs hn hi
 have n8:(8<(s.length:Int))↔8<s.length:=by omega
 simp only[n8]
 repeat' (first
  |exact BI s
  |refine And.intro ?_ ?_
  |intro _)
 all_goals first
  |omega
  |(simp_all[Bx,B1,Bk];done)
  |grind [Bx,B1,Bk]
  |skip
 all_goals trace_state
def Arr.k:Arr->Int | .mk k _ _ _=>k
def Arr.sh:Arr->List Int | .mk _ s _ _=>s
def Arr.nu:Arr->List Int | .mk _ _ n _=>n
def Arr.it:Arr->List Arr | .mk _ _ _ i=>i
def Arr.row1(a:Arr):List D:=[.int .i64 a.k,isl a.sh .any,isl a.nu .any,gsl 4 Arr.row a.it]
def Arr.row2(a:Arr):List D:=[.int .i64 a.k,isl a.sh .any,isl a.nu .any,gsl 4 Arr.row1 a.it]
theorem Rc(l:List Arr):(GJ l).length=l.length:=by rw[Cc];simp
theorem Bdq(a:Arr):wkL a.row a.row1:=by
 cases a with
 |mk k s n is =>
  simp only[Arr.row,Arr.row1,Arr.k,Arr.sh,Arr.nu,Arr.it,gsl,isl,wkL,wkD,Be,Ba]
  refine⟨⟨by simp[kEq],trivial⟩,⟨by simp,trivial,fun i _=>by simp[kEq],by simp[Bw]⟩,⟨by simp,trivial,fun i _=>by simp[kEq],by simp[Bw]⟩,⟨by simp,Rc is,fun i hi=>?_,by simp[Bw]⟩,trivial⟩
  rw[Rc] at hi
  have:(GJ is).getD i []=(is.getD i default).row:=by
   rw[Cc];simp[List.getD_eq_getElem?_getD,hi]
  rw[this]
  exact Bf _
theorem Ck(a:Arr):wkL a.row1 a.row2:=by
 simp only[Arr.row1,Arr.row2,gsl,isl,wkL,wkD,Be,Ba]
 exact⟨⟨by simp[kEq],trivial⟩,⟨by simp,trivial,fun i _=>by simp[kEq],by simp[Bw]⟩,⟨by simp,trivial,fun i _=>by simp[kEq],by simp[Bw]⟩,⟨by simp,trivial,fun i _=>Bdq _,by simp[Bw]⟩,trivial⟩
def Oj(z:Int):Bool:=decide (-4611686018427387903<=z)&&decide (z<=4611686018427387903)
def TR(z:Int):Bool:=decide (0<=z)&&decide (z<=1114111)&&(decide (z<55296)||decide (57343<z))
def CR(k z:Int):Bool:=(k==1&&!Oj z)||(k==2&&!TR z)
mutual
def Bi:Arr->Int×Int×Int
 |.mk k s n is =>
  if Bx k s n.length is.length≠0 then (Bx k s n.length is.length,0,0)
  else if n.any (CR k) then (17,0,0)
  else match B3 is 0 ((n.length:Int)+is.length) with
   |none=>(17,0,0)
   |some r=>if 16<r.1\/262144<r.2 then (21,0,0) else (0,r.1,r.2)
def B3:List Arr->Int->Int->Option (Int×Int)
 | [],d,w=>some (d,w)
 |x::r,d,w=>if (Bi x).1≠0 then none else B3 r (if d<(Bi x).2.1+1 then (Bi x).2.1+1 else d) (if 262145<w+(Bi x).2.2 then 262145 else w+(Bi x).2.2)
end
theorem UN:∀(l:List Arr) (d w d' w':Int),B3 l d w=some (d',w')->0<=d->0<=w->(∀x∈l,(Bi x).1=0->0<=(Bi x).2.1/\0<=(Bi x).2.2)->0<=d'/\0<=w'
 | [],d,w,d',w',h,h1,h2,_=>by
  rw[B3] at h;injection h with h;injection h with e1 e2;omega
 |x::r,d,w,d',w',h,h1,h2,h3=>by
  rw[B3] at h
  split at h
  ·cases h
  ·rename_i hx
   have hx:(Bi x).1=0:=by simpa using hx
   have:=h3 x (by simp) hx
   refine UN r _ _ d' w' h ?_ ?_ fun y hy=>h3 y (by simp[hy])
   ·split<;>omega
   ·split<;>omega
theorem B8:∀(a:Arr),(0<=(Bi a).2.1/\(Bi a).2.1<=16)/\0<=(Bi a).2.2/\(Bi a).2.2<=262144
 |.mk k s n is=>by
  rw[Bi]
  split
  ·simp
  ·split
   ·simp
   ·split
    ·simp
    ·rename_i r hr
     split
     ·simp
     ·rename_i hb
      have:=UN is 0 _ r.1 r.2 hr (by omega) (by omega) fun x hx _=>by
       have:=B8 x
       omega
      simp only
      omega
termination_by a=>SizeOf.sizeOf a
decreasing_by
 have:=List.sizeOf_lt_of_mem hx
 simp;omega
noncomputable def Enum:Senv:=EC EA 9 1 [2] (fun _=>([],[]))
def XX(a:Int):Bool:=bif decide ((-4611686018427387903:Int)<=a) then decide (a<=4611686018427387903) else false
theorem BdD(z:Int):ACalls Try.prog 44 [.int .i64 z] ⟨[],[]⟩ (SpecR (sC [.int .i64 z] (.bool (Oj z))) ()):=by
 refine Bp (A:=sC _ _) (x:=()) (E:=Enum) (eOk BA rfl) Try.func44 rfl (by kernel_rfl) rfl (by simp[sC,Enum,EC,E0]) ?_
 refine Bt (T :=
  ifB (decide ((-4611686018427387903:Int)<=z)) (decide (z<=4611686018427387903)=XX z/\True) (false=XX z/\True)/\RT (XX z=Oj z)) (by kernel_rfl) ?_
 delta XX RT
 simp only[Bn,decide_eq_true_eq,decide_eq_false_iff_not,true_and,and_true,Bool.cond_false_right,exists_const]
 refine⟨⟨fun h=>by rw[decide_eq_true h];rfl,fun h=>by rw[decide_eq_false h];rfl⟩,rfl⟩
noncomputable def Echr:Senv:=EC EA 17 1 [2] (fun _=>([],[]))
def Vf(a:Int):Bool:=bif bif decide (Z0<=a) then decide (a<=1114111) else false then bif decide (a<55296) then true else decide ((57343:Int)<a) else false
def HA(a:Int):Prop:=false=Vf a/\True
theorem Bdl(z:Int):ACalls Try.prog 45 [.int .i64 z] ⟨[],[]⟩ (SpecR (sC [.int .i64 z] (.bool (TR z))) ()):=by
 refine Bp (A:=sC _ _) (x:=()) (E:=Echr) (eOk BA rfl) Try.func45 rfl (by kernel_rfl) rfl (by simp[sC,Echr,EC,E0]) ?_
 refine Bt (T :=
  ifB (decide (Z0<=z)) (ifB (decide (z<=1114111)) (ifB (decide (z<55296)) (true=Vf z/\True) (decide ((57343:Int)<z)=Vf z/\True)) (HA z)) (HA z)/\RT (Vf z=TR z)) (by kernel_rfl) ?_
 delta Z0 Vf HA RT
 simp only[Bn,decide_eq_true_eq,decide_eq_false_iff_not,true_and,and_true,Bool.cond_false_right,Bool.cond_true_left,exists_const]
 refine⟨⟨fun h1=>⟨fun h2=>⟨fun h3=>by simp[h1,h2,h3],fun h3=>by simp[h1,h2,h3]⟩,fun h2=>by simp[h1,h2]⟩,fun h1=>by simp[h1]⟩,rfl⟩
def EB(row:Arr->List D)(xb:Nat)(q:Arr->Prop):FnSpec where
 β:=Arr
 α:=Unit
 args:=fun a=>[.agg (row a),.ref 1 xb 0]
 st:=fun _=>⟨[(1,xb,.cells [.fn (.func 42) [] [.ref 1 xb 0]])],[]⟩
 pre:=q
 post:=fun _ _=>True
 res:=fun a _=>.ret (.tup [.int .i64 (Bi a).1,.int .i64 (Bi a).2.1,.int .i64 (Bi a).2.2])
 out:=fun _ _=>⟨[(1,xb,.cells [.fn (.func 42) [] [.ref 1 xb 0]])],[]⟩
def WF(xb:Nat)(its:List Arr):Con:=fun k ds S=>match k with
 |42=>some (EB Arr.row1 xb (fun b=>b∈its))
 |43=>match ds with
  | [.agg [.int .i64 k,.sl 1 n f _,.sl 1 nn _g _,.sl 4 ni _h _]]=>some (pC ds (.int .i64 (Bx k (BF n f) nn ni)) (IntsP n f/\n<=maxLen/\nn<=maxLen/\ni<=maxLen))
  |_=>none
 |44=>match ds with
  | [.int .i64 z]=>some (pC [.int .i64 z] (.bool (Oj z)) True)
  |_=>none
 |45=>match ds with
  | [.int .i64 z]=>some (pC [.int .i64 z] (.bool (TR z)) True)
  |_=>none
 |k=>OL k ds S
theorem Bai{xb:Nat}{its:List Arr}(ih:∀b∈its,ACalls Try.prog 42 ((EB Arr.row2 xb (fun _=>True)).args b) ((EB Arr.row2 xb (fun _=>True)).st b) (SpecR (EB Arr.row2 xb (fun _=>True)) b)):ConOk Try.prog (WF xb its):=by
 intro k ds S A h
 unfold WF at h
 split at h
 ·injection h with h;subst h
  refine ConOk.plain (fun b hb=>?_) rfl rfl
  refine ((ih b hb).wkArgs ?_).mono fun _ _ ⟨y,h1,h2,h3⟩=>⟨y,h1,h2,h3⟩
  simp only[EB,wkL,wkD]
  exact⟨Ck b,by simp[Be,Ba]⟩
 ·split at h
  ·rename_i k n f _ nn g _ ni g' _
   injection h with h;subst h
   refine Ei fun ⟨h1,h2,h3,h4⟩=>⟨Bl _,CF (us:=[.agg [.int .i64 k,isl (BF n f) .any,.sl 1 nn g .any,.sl 4 ni g' .any]]) ?_ (BcJ _ _ _ _ _ _ (by rw[C5];exact h2) h3 h4)⟩
   refine⟨?_,trivial⟩
   simp only[Be,Bo]
   refine⟨by simp[Ba,kEq],(Cj h1).1,?_,?_,trivial⟩
   ·simp[Ba,Bw]
   ·simp[Ba,Bw]
  ·cases h
 ·split at h
  ·injection h with h;subst h
   exact Ei fun _=>⟨Bl _,BdD _⟩
  ·cases h
 ·split at h
  ·injection h with h;subst h
   exact Ei fun _=>⟨Bl _,Bdl _⟩
  ·cases h
 ·exact Iu _ _ _ _ h
theorem TK(a : Arr) : Bi a=if Bx a.k a.sh a.nu.length a.it.length≠0 then (Bx a.k a.sh a.nu.length a.it.length, 0, 0)
  else if a.nu.any (CR a.k) then (17,0,0)
  else match B3 a.it 0 ((a.nu.length:Int)+a.it.length) with
   |none=>(17,0,0)
   |some r=>if 16<r.1\/262144<r.2 then (21,0,0) else (0,r.1,r.2):=by
 cases a with
 |mk k s n is=>rw[Bi];rfl
theorem Bcg{s:List Int}:BU s<=65536:=by
 unfold BU
 split
 ·omega
 ·cases hg:goO s 1 with
  |none=>simp
  |some p=>have:=TA s 1 (by omega) p hg;simpa using this
theorem Eg{k:Int}{s:List Int}{nn ni:Nat}(h:Bx k s nn ni=0):nn<=65536/\ni<=65536:=by
 have hs:=Bcg (s:=s)
 unfold Bx at h
 by_cases hk:k=1\/k=2\/k=3
 ·rw[if_pos hk] at h
  by_cases hd:B1 s≠0
  ·rw[if_pos hd] at h;exact (hd h).elim
  ·rw[if_neg hd] at h
   by_cases hc:((if k=3 then (ni:Int) else nn)≠BU s)\/((if k=3 then (nn:Int) else ni)≠0)
   ·rw[if_pos hc] at h;omega
   ·simp only[not_or,ne_eq,Decidable.not_not] at hc
    obtain ⟨c1,c2⟩:=hc
    by_cases k3:k=3<;>simp only[k3,if_true,if_false] at c1 c2<;>omega
 ·rw[if_neg hk] at h;omega
theorem CC{α:Type}[Inhabited α]{l:List α}{i:Nat}(h:i<l.length):l.getD i default∈l:=by
 rw[List.getD_eq_getElem?_getD,List.getElem?_eq_getElem h];exact List.getElem_mem h
def cutV(k:Int)(d8:D)(S:St):Option LoopAnn :=
 match d8 with
 |.int _ z=>some { slots:=[45],keep:=[],α:=Unit,st:=fun _=>([.bool (CR k z)],S),inv:=fun _=>True,mu:=fun _=>0 }
 |_=>none
noncomputable def Evis(xb:Nat)(a:Arr):Senv:={ EC (WF xb a.it) 87 7 [8,9,10,12,13,14,15,19,22,23,24,25,45,55,56,57,58,69,84] (fun id=>match id with | 10=>([0,1,2,3,4,5,6,7,8],[]) | _=>([],[])) with
 cut:=fun id env S=>match id with
  |7=>cutV a.k (Ab.look env 8) S
  |_=>none
 ann:=fun b _ S=>match b with
  |0=>some { slots:=[24],keep:=[0,1,2,22,23],α:=Nat,st:=fun i=>([.int .i64 i],S),inv:=fun i=>i<=a.nu.length/\∀z∈a.nu.take i,CR a.k z=false,mu:=fun i=>a.nu.length-i }
  |2=>some { slots:=[57,9,10],keep:=[0,1,2,55,56],α:=Nat×Int×Int,st:=fun y=>([.int .i64 y.1,.int .i64 y.2.1,.int .i64 y.2.2],S),inv:=fun y=>y.1<=a.it.length/\0<=y.2.1/\y.2.1<=17/\0<=y.2.2/\y.2.2<=262145/\B3 (a.it.drop y.1) y.2.1 y.2.2=B3 a.it 0 ((a.nu.length:Int)+a.it.length),mu:=fun y=>a.it.length-y.1 }
  |_=>none }
def Kw(a:Arr):Nat:=LN (Arr.sh a)
def Jk(a:Arr)(b:Nat):List D:=[ZI (GI (Arr.sh a) b)]
def Vg(a:Arr):List Int:=Arr.nu a
def QY(a:Arr):Nat:=LN (Vg a)
def KP(a:Arr):List Arr:=Arr.it a
def QZ(a:Arr):Nat:=LN (KP a)
def Ki(a:Arr):Int:=Arr.k a
def HB(a:Arr):Int:=Bx (Ki a) (BF (Kw a) fun i=>Jk a i) (QY a) (QZ a)
def Jl(a:Arr):Int:=Prod.fst (Bi a)
def XY(a:Arr):Prop:=Z0=Prod.fst (Prod.snd (Bi a))/\Z0=Prod.snd (Prod.snd (Bi a))/\True
def HC(a:Nat):Prop:=SM a/\(SM (D.fn (Fn.func (42:Nat)) [] [D.ref N1 a N0])/\True)/\True
def Jm(a:Nat):Prop:=HC a/\True
def XZ(a:Nat)(b:Arr):Prop:=a<=QY b/\∀(z:Int),z∈List.take a (Vg b)->CR (Ki b) z=false
def X0(a:Arr)(b:Nat):List D:=[ZI (GI (Vg a) b)]
def Vh:Arr:=DA
def Jn(a:Arr)(b:Nat):Arr:=List.getD (KP a) b Vh
def Qfm(a:Arr)(b:Nat):List Int:=Arr.sh (Jn a b)
def Qfn(a:Arr)(b:Nat):List Int:=Arr.nu (Jn a b)
def HD(a:Arr)(b:Nat):List Arr:=Arr.it (Jn a b)
def HE(a:Arr)(b:Nat):List D:=[ZI (Arr.k (Jn a b)),SI (Qfm a b),SI (Qfn a b),D.sl N4 (LN (HD a b)) (fun i=>Arr.row (List.getD (HD a b) i Vh)) Mode.any]
def Kx(a:Nat)(b:Arr)(c:Nat):Prop:=(SM a/\(SM (Ki b)/\(SM (Kw b)/\(∀(i:Nat),i<Kw b->SM (Jk b i))/\True)/\(SM (QY b)/\(∀(i:Nat),i<QY b->SM (X0 b i))/\True)/\(SM (QZ b)/\(∀(i:Nat),i<QZ b->SM (HE b i))/\True)/\True)/\HC c)/\True
def Vi(a:Arr):Int:=(NI (QY a))
def X1(a:Arr)(b:Nat):Int:=GI (Vg a) (Int.toNat (↑b:Int))
def Vj(a:Arr)(b:Nat):Bool:=CR (Ki a) (X1 a b)
def HF(a:Nat)(b:Arr)(c d:Nat):Prop:=SM a/\ifB (Ki b==2) (True/\∀(_y:Unit),True->∃(_x:Unit),True/\((!TR (X1 b c))=Vj b c/\True)/\Kx a b d) (∃(_x:Unit),True/\(false=Vj b c/\True)/\Kx a b d)
def HG(a:Arr)(b:Nat):Prop:=True/\∃(_y:Unit),True/\((17:Int)=Jl a/\XY a)/\Jm b
def HH(a:Arr):D:=D.sl N1 (QY a) (fun i=>X0 a i) Mode.any
def HI(a:Arr):D:=D.sl N4 (QZ a) (fun i=>HE a i) Mode.any
def Qfo(a:Arr):D:=D.agg [ZI (Ki a),D.sl N1 (Kw a) (fun i=>Jk a i) Mode.any,HH a,HI a]
def HJ(a:Arr):Prop:=SM (Qfo a)
def Vk(a:Arr):Int:=(NI (QZ a))
def HK(a:Arr):Int:=Vi a+Vk a
def X2(a:Nat)(b:Arr)(c d:Int):Prop:=a<=QZ b/\Z0<=c/\c<=17/\Z0<=d/\d<=262145/\B3 (List.drop a (KP b)) c d=B3 (KP b) Z0 (HK b)
def Vl(a:Arr)(b:Nat):Arr:=List.getD (KP a) (Int.toNat (↑b:Int)) Vh
def HL(a:Arr)(b:Nat):List Int:=Arr.sh (Vl a b)
def HM(a:Arr)(b:Nat):Nat:=LN (HL a b)
def HN(a:Arr)(b:Nat):List Int:=Arr.nu (Vl a b)
def HO(a:Arr)(b:Nat):Nat:=LN (HN a b)
def HP(a:Arr)(b:Nat):List Arr:=Arr.it (Vl a b)
def HQ(a:Arr)(b:Nat):Nat:=LN (HP a b)
def X3(a b:Int):Bool:=bif decide ((16:Int)<a) then true else decide ((262144:Int)<b)
theorem BaM(xb : Nat)(a : Arr)(ha : a.nu.length<=maxLen /\ a.it.length<=maxLen /\ a.sh.length<=maxLen)(ih : ∀b∈a.it, ACalls Try.prog 42 ((EB Arr.row2 xb (fun _=>True)).args b) ((EB Arr.row2 xb (fun _=>True)).st b) (SpecR (EB Arr.row2 xb (fun _=>True)) b)) :
  ACalls Try.prog 42 ((EB Arr.row2 xb (fun _=>True)).args a) ((EB Arr.row2 xb (fun _=>True)).st a) (SpecR (EB Arr.row2 xb (fun _=>True)) a):=by
 refine Bp (A:=EB Arr.row2 xb (fun _=>True)) (x:=a) (E:=Evis xb a) (eOk (Bai ih) rfl) Try.func42 rfl (by kernel_rfl) rfl (by simp[EB,Evis,EC,E0]) ?_
 refine Bt (T :=
  ∀(x:Nat),xb≠x/\True->SM x/\((IntsP (Kw a) fun i=>Jk a i)/\Kw a<=9223372036854775807/\QY a<=9223372036854775807/\QZ a<=9223372036854775807)/\∀(y:Unit),True->ifB (HB a != Z0) (True/\∃(y:Unit),True/\(HB a=Jl a/\XY a)/\Jm xb) (SM x/\(∃(x_1:Nat),XZ x_1 a/\(Z0=(↑x_1:Int)/\True)/\Kx x a xb)/\∀(x_1:Nat),XZ x_1 a->ifB (decide ((↑x_1:Int)<Vi a)) (Bb (Z0<=(↑x_1:Int)/\(↑x_1:Int)<Vi a) ((SM x/\ifB (Ki a==Z1) (True/\∀(y:Unit),True->ifB (!Oj (X1 a x_1)) (∃(x_2:Unit),True/\(true=Vj a x_1/\True)/\Kx x a xb) (HF x a x_1 xb)) (HF x a x_1 xb))/\∀(x_2:Unit),True->ifB (Vj a x_1) (HG a xb) ((HJ a/\SM (D.ref N1 xb N0)/\SM (D.ref N2 x N0)/\SM (HH a)/\SM (ZI (Vi a))/\True)/\∃(y:Nat),XZ y a/\QY a-y<QY a-x_1/\(IntKind.wrap IntKind.i64 ((↑x_1:Int)+Z1)=(↑y:Int)/\True)/\Kx x a xb))) (SM x/\SM x/\SM x/\(∃(x_2:Nat×Int×Int),X2 x_2.1 a x_2.2.1 x_2.2.2/\(Z0=(NI x_2.1)/\Z0=x_2.2.1/\IntKind.wrap IntKind.i64 (HK a)=x_2.2.2/\True)/\Kx x a xb)/\∀(x_2:Nat×Int×Int),X2 x_2.1 a x_2.2.1 x_2.2.2->ifB (decide ((NI x_2.1)<Vk a)) (Bb (Z0<=(NI x_2.1)/\(NI x_2.1)<Vk a) (∀(x_3:Nat),x≠x_3/\xb≠x_3/\True->SM x_3/\SM xb/\SM x_3/\∃(x_4:Arr),((Arr.k (Vl a x_2.1)=Ki x_4/\(HM a x_2.1=Kw x_4/\(∀(i:Nat),i<HM a x_2.1->[ZI (GI (HL a x_2.1) i)]=Jk x_4 i)/\True)/\(HO a x_2.1=QY x_4/\(∀(i:Nat),i<HO a x_2.1->[ZI (GI (HN a x_2.1) i)]=X0 x_4 i)/\True)/\(HQ a x_2.1=QZ x_4/\(∀(i:Nat),i<HQ a x_2.1->Arr.row (List.getD (HP a x_2.1) i Vh)=Arr.row (Jn x_4 i))/\True)/\True)/\SM xb/\True)/\Jm xb/\x_4∈KP a/\∀(y:Unit),True->ifB (Jl x_4 != Z0) (HG a xb) ((HJ a/\SM (D.ref N1 xb N0)/\SM (D.ref N2 x N0)/\SM (HI a)/\SM (ZI (Vk a))/\True)/\∃(y:Nat×Int×Int),X2 y.1 a y.2.1 y.2.2/\QZ a-y.1<QZ a-x_2.1/\(IntKind.wrap IntKind.i64 ((NI x_2.1)+Z1)=(NI y.1)/\(if x_2.2.1<IntKind.wrap IntKind.i64 (Prod.fst (Prod.snd (Bi x_4))+Z1) then IntKind.wrap IntKind.i64 (Prod.fst (Prod.snd (Bi x_4))+Z1) else x_2.2.1)=y.2.1/\(if (262145:Int)<IntKind.wrap IntKind.i64 (x_2.2.2+Prod.snd (Prod.snd (Bi x_4))) then (262145:Int) else IntKind.wrap IntKind.i64 (x_2.2.2+Prod.snd (Prod.snd (Bi x_4))))=y.2.2/\True)/\Kx x a xb))) (ifB (decide ((16:Int)<x_2.2.1)) (true=X3 x_2.2.1 x_2.2.2/\True) (decide ((262144:Int)<x_2.2.2)=X3 x_2.2.1 x_2.2.2/\True)/\ifB (X3 x_2.2.1 x_2.2.2) (True/\∃(y:Unit),True/\((21:Int)=Jl a/\XY a)/\Jm xb) (True/\∃(y:Unit),True/\(Z0=Jl a/\x_2.2.1=Prod.fst (Prod.snd (Bi a))/\x_2.2.2=Prod.snd (Prod.snd (Bi a))/\True)/\Jm xb))))) (by kernel_rfl) ?_
 delta DA GI LN N0 N1 N2 N4 NI SI SM Z0 Z1 ZI HB Jl XY HC Jm XZ X0 Vh Jn Qfm Qfn HD HE Kx Vi X1 Vj HF HG HH Kw HI Qfo HJ Vk HK X2 Vl HL HM HN Jk HO HP HQ X3 Vg QY KP QZ Ki
 have da:(default:Arr)=Arr.mk 0 [] [] []:=rfl
 simp only[<- da,Cr,Int.toNat_natCast,Bn,Bd,decide_eq_true_eq,decide_eq_false_iff_not,true_and,and_true,beq_iff_eq,bne_iff_ne,Bool.cond_true_left,beq_eq_false_iff_ne,ne_eq,exists_const,forall_const]
 intro x _
 have hA:=TK a
 obtain ⟨l1,l2,l3⟩:=ha
 have tt:(∀i:Nat,i<a.sh.length->True)/\(∀i:Nat,i<a.nu.length->True)/\∀i:Nat,i<a.it.length->True:=⟨fun _ _=>trivial,fun _ _=>trivial,fun _ _=>trivial⟩
 refine⟨⟨BI _,l3,l1,l2⟩,fun h=>?_,fun h=>⟨⟨0,⟨Nat.zero_le _,by simp⟩,rfl,tt⟩,fun i hi=>⟨fun hlt=>?_,fun hge=>?_⟩⟩⟩
 ·rw[hA,if_pos h];exact⟨rfl,rfl,rfl⟩
 ·have h0:Bx a.k a.sh a.nu.length a.it.length=0:=by simpa using h
  have hsm:=Eg h0
  have hlt':i<a.nu.length:=by omega
  have hmem:a.nu.getD i 0∈a.nu:=by rw[List.getD_eq_getElem?_getD,List.getElem?_eq_getElem hlt'];exact List.getElem_mem hlt'
  have htk:a.nu.take (i+1)=a.nu.take i++[a.nu.getD i 0]:=by
   rw[List.take_add_one];simp[List.getD_eq_getElem?_getD,hlt']
  generalize a.nu.getD i 0=z at *
  refine⟨by omega,?_,fun hb=>?_,fun hb=>⟨i+1,⟨by omega,fun y hy=>?_⟩,by omega,Bc (by omega) (by omega),tt⟩⟩
  ·refine⟨fun k1=>⟨fun hn=>⟨by simp at hn;simp[CR,k1,hn],tt⟩,fun hn=>⟨fun k2=>by omega,fun k2=>⟨by simp at hn;simp[CR,k1,hn],tt⟩⟩⟩,fun k1=>⟨fun k2=>⟨by simp[CR,k2],tt⟩,fun k2=>⟨by simp[CR,k1,k2],tt⟩⟩⟩
  ·have:a.nu.any (CR a.k)=true:=List.any_eq_true.2 ⟨z,hmem,hb⟩
   rw[hA,if_neg (by simp[h0]),if_pos this]
   exact⟨rfl,rfl,rfl⟩
  ·rw[htk,List.mem_append] at hy
   rcases hy with hy | hy
   ·exact hi.2 y hy
   ·simp at hy;rw[hy];exact hb
 ·have h0:Bx a.k a.sh a.nu.length a.it.length=0:=by simpa using h
  have hsm:=Eg h0
  have hii:i=a.nu.length:=by omega
  rw[hii,List.take_length] at hi
  have hany:¬a.nu.any (CR a.k)=true:=by
   rw[List.any_eq_true]
   rintro ⟨z,hz,hb⟩
   rw[hi.2 z hz] at hb
   cases hb
  rw[if_neg (by simp[h0]),if_neg hany] at hA
  refine⟨⟨(0,0,(a.nu.length:Int)+a.it.length),⟨Nat.zero_le _,Int.le_refl _,by simp,by simp only;omega,by simp only;omega,by simp⟩,⟨rfl,rfl,Bc (by omega) (by omega)⟩,tt⟩,?_⟩
  rintro ⟨j,d,w⟩ ⟨b1,b2,b3,b4,b5,hch⟩
  simp only at b1 b2 b3 b4 b5 hch ⊢
  refine⟨fun hlt=>⟨by omega,fun x3 _=>?_⟩,fun hge=>?_⟩
  ·have hlt':j<a.it.length:=by omega
   have hbd:=B8 (a.it.getD j default)
   rw[Cb hlt',B3] at hch
   refine⟨a.it.getD j default,⟨rfl,⟨rfl,fun _ _=>rfl⟩,⟨rfl,fun _ _=>rfl⟩,rfl,fun _ _=>rfl⟩,CC hlt',fun herr=>?_,fun hok=>?_⟩
   ·rw[if_pos herr] at hch
    rw[<- hch] at hA
    rw[hA]
    exact⟨rfl,rfl,rfl⟩
   ·have hok:(Bi (a.it.getD j default)).1=0:=by simpa using hok
    rw[if_neg (fun hne=>hne hok)] at hch
    have w1:IntKind.i64.wrap ((Bi (a.it.getD j default)).2.1+1)=(Bi (a.it.getD j default)).2.1+1:=Bc (by omega) (by omega)
    have w2:IntKind.i64.wrap (w+(Bi (a.it.getD j default)).2.2)=w+(Bi (a.it.getD j default)).2.2:=Bc (by omega) (by omega)
    rw[w1,w2]
    refine⟨(j+1,(if d<(Bi (a.it.getD j default)).2.1+1 then (Bi (a.it.getD j default)).2.1+1 else d),(if 262145<w+(Bi (a.it.getD j default)).2.2 then 262145 else w+(Bi (a.it.getD j default)).2.2)),⟨by simp only;omega,?_,?_,?_,?_,hch⟩,by simp only;omega,⟨Bc (by omega) (by omega),rfl,rfl⟩,tt⟩
    ·simp only;split<;>omega
    ·simp only;split<;>omega
    ·simp only;split<;>omega
    ·simp only;split<;>omega
  ·have hj:j=a.it.length:=by omega
   rw[hj,List.drop_length,B3] at hch
   rw[<- hch] at hA
   simp only at hA
   refine⟨⟨fun h1=>by rw[decide_eq_true h1];rfl,fun h1=>by rw[decide_eq_false h1];rfl⟩,fun hc=>?_,fun hc=>?_⟩
   ·rw[Bool.or_eq_true,decide_eq_true_eq,decide_eq_true_eq] at hc
    rw[if_pos hc] at hA
    rw[hA];exact⟨rfl,rfl,rfl⟩
   ·rw[Bool.or_eq_false_iff,decide_eq_false_iff_not,decide_eq_false_iff_not] at hc
    rw[if_neg (by omega)] at hA
    rw[hA];exact⟨rfl,rfl,rfl⟩
theorem RL:∀(a:Arr),a.ok->∀xb,ACalls Try.prog 42 ((EB Arr.row2 xb (fun _=>True)).args a) ((EB Arr.row2 xb (fun _=>True)).st a) (SpecR (EB Arr.row2 xb (fun _=>True)) a)
 |.mk k s n is,h,xb=>by
  have h':=h
  simp only[Arr.ok] at h'
  obtain ⟨_,_,_,h1,h2,h3,h4⟩:=h'
  refine BaM xb (.mk k s n is) ⟨h2,h3,h1⟩ fun b hb=>?_
  have hb':b∈is:=hb
  exact RL b ((Ce _).1 h4 b hb') xb
termination_by a=>SizeOf.sizeOf a
decreasing_by
 have:=List.sizeOf_lt_of_mem hb'
 simp;omega
theorem BbC(a:Arr)(ha:a.ok)(xb:Nat)(q:Arr->Prop):ACalls Try.prog 42 ((EB Arr.row1 xb q).args a) ((EB Arr.row1 xb q).st a) (SpecR (EB Arr.row1 xb q) a):=by
 refine ((RL a ha xb).wkArgs ?_).mono fun _ _ ⟨y,h1,h2,h3⟩=>⟨y,h1,h2,h3⟩
 simp only[EB,wkL,wkD]
 exact⟨Ck a,by simp[Be,Ba]⟩
def BbP(a:Arr):Con:=fun k ds _=>match k with
 |42=>match ds with
  | [_,.ref _ xb _]=>some (EB Arr.row1 xb (fun b=>b=a))
  |_=>none
 |_=>none
theorem Bch{a:Arr}(ha:a.ok):ConOk Try.prog (BbP a):=by
 intro k ds S A h
 unfold BbP at h
 split at h
 ·split at h
  ·injection h with h;subst h
   refine ConOk.plain (fun b hb=>?_) rfl rfl
   have hb:b=a:=hb
   rw[hb]
   exact BbC a ha _ _
  ·cases h
 ·cases h
noncomputable def Eri(a:Arr):Senv:=EC (BbP a) 16 7 [] (fun _=>([],[]))
def HR(a:Arr)(b:Nat):List D:=Arr.row (GA (Arr.it a) b)
theorem IV(a:Arr)(ha:a.ok):ACalls Try.prog 21 [.agg a.row1] ⟨[],[]⟩ (SpecR (sC [.agg a.row1] (.int .i64 (Bi a).1)) ()):=by
 refine Bp (A:=sC _ _) (x:=()) (E:=Eri a) (eOk (Bch ha) rfl) Try.func21 rfl (by kernel_rfl) rfl (by simp[sC,Eri,EC,E0]) ?_
 refine Bt (T :=
  ∀(x:Nat),True->∀(x_1:Nat),x≠x_1/\True->SM x_1/\SM x_1/\SM x/\∃(x:Arr),((Arr.k a=Arr.k x/\(LN (Arr.sh a)=LN (Arr.sh x)/\(∀(i:Nat),i<LN (Arr.sh a)->[ZI (GI (Arr.sh a) i)]=[ZI (GI (Arr.sh x) i)])/\True)/\(LN (Arr.nu a)=LN (Arr.nu x)/\(∀(i:Nat),i<LN (Arr.nu a)->[ZI (GI (Arr.nu a) i)]=[ZI (GI (Arr.nu x) i)])/\True)/\(LN (Arr.it a)=LN (Arr.it x)/\(∀(i:Nat),i<LN (Arr.it a)->HR a i=HR x i)/\True)/\True)/\SM x_1/\True)/\((SM x_1/\(D.fn (Fn.func (42:Nat)) [] [D.ref (max (N0+N1) N0) x_1 N0]=D.fn (Fn.func (42:Nat)) [] [D.ref N1 x_1 N0]/\True)/\True)/\True)/\x=a/\∀(y:Unit),True->RT (Prod.fst (Bi x)=Prod.fst (Bi a))) (by kernel_rfl) ?_
 delta DA GA GI LN N0 N1 SM Z0 ZI HR RT
 intro x _ x1 hx
 exact⟨rfl,rfl,rfl,a,⟨⟨rfl,⟨rfl,fun _ _=>rfl,trivial⟩,⟨rfl,fun _ _=>rfl,trivial⟩,⟨rfl,fun _ _=>rfl,trivial⟩,trivial⟩,rfl,trivial⟩,⟨⟨rfl,⟨rfl,trivial⟩,trivial⟩,trivial⟩,rfl,fun _ _=>⟨trivial,(),trivial,rfl,trivial,trivial⟩⟩
noncomputable def Ernum:Senv:=EC EA 9 1 [2] (fun _=>([],[]))
def X4(a:Int):Bool:=bif decide ((-4611686018427387903:Int)<=a) then decide (a<=4611686018427387903) else false
theorem Bc0(z:Int):ACalls Try.prog 54 [.int .i64 z] ⟨[],[]⟩ (SpecR (sC [.int .i64 z] (.bool (Oj z))) ()):=by
 refine Bp (A:=sC _ _) (x:=()) (E:=Ernum) (eOk BA rfl) Try.func54 rfl (by kernel_rfl) rfl (by simp[sC,Ernum,EC,E0]) ?_
 refine Bt (T :=
  ifB (decide ((-4611686018427387903:Int)<=z)) (decide (z<=4611686018427387903)=X4 z/\True) (false=X4 z/\True)/\RT (X4 z=Oj z)) (by kernel_rfl) ?_
 delta X4 RT
 simp only[Bn,decide_eq_true_eq,decide_eq_false_iff_not,true_and,and_true,Bool.cond_false_right,exists_const]
 refine⟨⟨fun h=>by rw[decide_eq_true h];rfl,fun h=>by rw[decide_eq_false h];rfl⟩,rfl⟩
noncomputable def Erchr:Senv:=EC EA 17 1 [2] (fun _=>([],[]))
def Vm(a:Int):Bool:=bif bif decide (Z0<=a) then decide (a<=1114111) else false then bif decide (a<55296) then true else decide ((57343:Int)<a) else false
def HS(a:Int):Prop:=false=Vm a/\True
theorem Bct(z:Int):ACalls Try.prog 55 [.int .i64 z] ⟨[],[]⟩ (SpecR (sC [.int .i64 z] (.bool (TR z))) ()):=by
 refine Bp (A:=sC _ _) (x:=()) (E:=Erchr) (eOk BA rfl) Try.func55 rfl (by kernel_rfl) rfl (by simp[sC,Erchr,EC,E0]) ?_
 refine Bt (T :=
  ifB (decide (Z0<=z)) (ifB (decide (z<=1114111)) (ifB (decide (z<55296)) (true=Vm z/\True) (decide ((57343:Int)<z)=Vm z/\True)) (HS z)) (HS z)/\RT (Vm z=TR z)) (by kernel_rfl) ?_
 delta Z0 Vm HS RT
 simp only[Bn,decide_eq_true_eq,decide_eq_false_iff_not,true_and,and_true,Bool.cond_false_right,Bool.cond_true_left,exists_const]
 refine⟨⟨fun h1=>⟨fun h2=>⟨fun h3=>by simp[h1,h2,h3],fun h3=>by simp[h1,h2,h3]⟩,fun h2=>by simp[h1,h2]⟩,fun h1=>by simp[h1]⟩,rfl⟩
def Bz(k:Int)(nn ni:Nat):Int:=if k=1\/k=2 then nn else if k=3 then ni else 0
noncomputable def Esz:Senv:=EC EA 16 3 [4,5,11] (fun _=>([],[]))
def HT(a b:Nat)(c:Int)(d:Nat):Prop:=SM a/\True/\∃(_y:Unit),True/\(↑b:Int)=Bz c b d/\True/\True
def HU(a:Int)(b c d:Nat):Prop:=ifB (a==3) (SM b/\True/\∃(_y:Unit),True/\(↑c:Int)=Bz a d c/\True/\True) (True/\∃(_y:Unit),True/\Z0=Bz a d c/\True/\True)
theorem Bej(k : Int)(ns nn ni : Nat)(f g h : Nat -> List D) :
  ACalls Try.prog 35 [.agg [.int .i64 k,.sl 1 ns f .any,.sl 1 nn g .any,.sl 4 ni h .any]] ⟨[],[]⟩ (SpecR (sC [.agg [.int .i64 k,.sl 1 ns f .any,.sl 1 nn g .any,.sl 4 ni h .any]] (.int .i64 (Bz k nn ni))) ()):=by
 refine Bp (A:=sC _ _) (x:=()) (E:=Esz) (eOk BA rfl) Try.func35 rfl (by kernel_rfl) rfl (by simp[sC,Esz,EC,E0]) ?_
 refine Bt (T :=
  ∀(x:Nat),True->SM x/\ifB (k==Z1) (ifB (k==Z1) (HT x nn k ni) (HU k x ni nn)) (ifB (k==2) (HT x nn k ni) (HU k x ni nn))) (by kernel_rfl) ?_
 delta SM Z0 Z1 HT HU
 simp only[Bn,true_and,and_true,beq_iff_eq,beq_eq_false_iff_ne,ne_eq,exists_const,forall_const]
 repeat' (first
  |refine And.intro ?_ ?_
  |intro _)
 all_goals first
  |(simp_all[Bz];done)
  |grind [Bz]
  |trace_state
def Rn:Con:=fun k ds S=>match k with
 |35=>match ds with
  | [.agg [.int .i64 k,.sl 1 _ _ _,.sl 1 nn _ _,.sl 4 ni _ _]]=>some (pC ds (.int .i64 (Bz k nn ni)) True)
  |_=>none
 |54=>match ds with
  | [.int .i64 z]=>some (pC [.int .i64 z] (.bool (Oj z)) True)
  |_=>none
 |55=>match ds with
  | [.int .i64 z]=>some (pC [.int .i64 z] (.bool (TR z)) True)
  |_=>none
 |k=>OL k ds S
theorem UF:ConOk Try.prog Rn:=by
 intro k ds S A h
 unfold Rn at h
 split at h
 ·split at h
  ·rename_i k ns f _ nn g _ ni g' _
   injection h with h;subst h
   refine Ei fun _=>⟨Bl _,CF (us:=[.agg [.int .i64 k,.sl 1 ns f .any,.sl 1 nn g .any,.sl 4 ni g' .any]]) ?_ (Bej _ _ _ _ _ _ _)⟩
   refine⟨?_,trivial⟩
   simp only[Be,Bo]
   refine⟨by simp[Ba,kEq],?_,?_,?_,trivial⟩
   ·simp[Ba,Bw]
   ·simp[Ba,Bw]
   ·simp[Ba,Bw]
  ·cases h
 ·split at h
  ·injection h with h;subst h
   exact Ei fun _=>⟨Bl _,Bc0 _⟩
  ·cases h
 ·split at h
  ·injection h with h;subst h
   exact Ei fun _=>⟨Bl _,Bct _⟩
  ·cases h
 ·exact Iu _ _ _ _ h
mutual
def wtA:Arr->Int
 |.mk k _ n is=>min (wtL k is (Bz k n.length is.length)) 262145
def wtL(k:Int):List Arr->Int->Int
 | [],n=>n
 |x::r,n=>if k=3/\n<=262144 then wtL k r (n+wtA x) else n
end
theorem WG(a:Arr):wtA a=min (wtL a.k a.it (Bz a.k a.nu.length a.it.length)) 262145:=by
 cases a with
 |mk k s n is=>rw[wtA];rfl
theorem RB(k:Int):∀(l:List Arr) (n:Int),0<=n->(∀x∈l,0<=wtA x)->0<=wtL k l n
 | [],n,h,_=>by rw[wtL];exact h
 |x::r,n,h,h2=>by
  rw[wtL]
  have:=h2 x (by simp)
  split
  ·exact RB k r _ (by omega) fun y hy=>h2 y (by simp[hy])
  ·exact h
theorem Cl:∀(a:Arr),0<=wtA a/\wtA a<=262145
 |.mk k s n is=>by
  rw[wtA]
  have hs:0<=Bz k n.length is.length:=by unfold Bz;split<;>(try split)<;>omega
  have:=RB k is _ hs fun x hx=>(Cl x).1
  omega
termination_by a=>SizeOf.sizeOf a
decreasing_by
 have:=List.sizeOf_lt_of_mem hx
 simp;omega
def sRc(row:Arr->List D)(q:Arr->Prop)(r:Arr->D):FnSpec where
 β:=Arr
 α:=Unit
 args:=fun a=>[.agg (row a)]
 st:=fun _=>⟨[],[]⟩
 pre:=q
 post:=fun _ _=>True
 res:=fun a _=>.ret (r a)
 out:=fun _ _=>⟨[],[]⟩
def Bbi(its:List Arr):Con:=fun k ds S=>match k with
 |17=>some (sRc Arr.row1 (fun b=>b∈its) (fun b=>.int .i64 (wtA b)))
 |k=>Rn k ds S
theorem Ry{k:Nat}{q q':Arr->Prop}{r:Arr->D}{b:Arr}(h:ACalls Try.prog k ((sRc Arr.row2 q r).args b) ⟨[],[]⟩ (SpecR (sRc Arr.row2 q r) b)):ACalls Try.prog k ((sRc Arr.row1 q' r).args b) ⟨[],[]⟩ (SpecR (sRc Arr.row1 q' r) b):=by
 refine (h.wkArgs ?_).mono fun _ _ ⟨y,h1,h2,h3⟩=>⟨y,h1,h2,h3⟩
 simp only[sRc,wkL,wkD]
 exact⟨Ck b,trivial⟩
theorem BaT{its:List Arr}(ih:∀b∈its,ACalls Try.prog 17 ((sRc Arr.row2 (fun _=>True) (fun b=>.int .i64 (wtA b))).args b) ⟨[],[]⟩ (SpecR (sRc Arr.row2 (fun _=>True) (fun b=>.int .i64 (wtA b))) b)):ConOk Try.prog (Bbi its):=by
 intro k ds S A h
 unfold Bbi at h
 split at h
 ·injection h with h;subst h
  exact ConOk.plain (fun b hb=>Ry (ih b hb)) rfl rfl
 ·exact UF _ _ _ _ h
noncomputable def Ewt(a:Arr):Senv:={ EC (Bbi a.it) 33 5 [20] (fun _=>([],[])) with
 ann:=fun b _ S=>match b with
  |0=>some { slots:=[3,4],keep:=[0,1,2],α:=Nat×Int,st:=fun y=>([.int .i64 y.2,.int .i64 y.1],S),inv:=fun y=>y.1<=a.it.length/\0<=y.2/\y.2<=maxLen/\wtL a.k (a.it.drop y.1) y.2=wtL a.k a.it (Bz a.k a.nu.length a.it.length),mu:=fun y=>a.it.length-y.1 }
  |_=>none }
def KQ(a:Arr):List Arr:=Arr.it a
def QS(a:Arr):Nat:=LN (KQ a)
def Kj(a:Arr):Int:=Arr.k a
def Jo(a:Arr):Nat:=LN (Arr.nu a)
def HV(a:Arr):Int:=Bz (Kj a) (Jo a) (QS a)
def X5(a:Nat)(b:Arr)(c:Int):Prop:=a<=QS b/\Z0<=c/\c<=9223372036854775807/\wtL (Kj b) (List.drop a (KQ b)) c=wtL (Kj b) (KQ b) (HV b)
def Vn(a:Arr):Nat:=LN (Arr.sh a)
def X6(a:Arr)(b:Nat):List D:=[ZI (GI (Arr.sh a) b)]
def X7(a:Arr)(b:Nat):List D:=[ZI (GI (Arr.nu a) b)]
def Vo:Arr:=DA
def Jp(a:Arr)(b:Nat):Arr:=List.getD (KQ a) b Vo
def Qfp(a:Arr)(b:Nat):List Int:=Arr.sh (Jp a b)
def Qfq(a:Arr)(b:Nat):List Int:=Arr.nu (Jp a b)
def HW(a:Arr)(b:Nat):List Arr:=Arr.it (Jp a b)
def HX(a:Arr)(b:Nat):List D:=[ZI (Arr.k (Jp a b)),SI (Qfp a b),SI (Qfq a b),D.sl N4 (LN (HW a b)) (fun i=>Arr.row (List.getD (HW a b) i Vo)) Mode.any]
def HY(a:Nat)(b:Arr):Prop:=(SM a/\(SM (Kj b)/\(SM (Vn b)/\(∀(i:Nat),i<Vn b->SM (X6 b i))/\True)/\(SM (Jo b)/\(∀(i:Nat),i<Jo b->SM (X7 b i))/\True)/\(SM (QS b)/\(∀(i:Nat),i<QS b->SM (HX b i))/\True)/\True)/\True)/\True
def X8(a:Nat)(b:Arr)(c:Int):Bool:=bif bif decide ((↑a:Int)<(NI (QS b))) then Kj b==3 else false then decide (c<=262144) else false
def HZ(a:Nat)(b:Arr)(c:Int):Prop:=false=X8 a b c/\True
def Vp(a:Arr)(b:Nat):Arr:=List.getD (KQ a) (Int.toNat (↑b:Int)) Vo
def H0(a:Arr)(b:Nat):List Int:=Arr.sh (Vp a b)
def H1(a:Arr)(b:Nat):Nat:=LN (H0 a b)
def H2(a:Arr)(b:Nat):List Int:=Arr.nu (Vp a b)
def H3(a:Arr)(b:Nat):Nat:=LN (H2 a b)
def H4(a:Arr)(b:Nat):List Arr:=Arr.it (Vp a b)
def H5(a:Arr)(b:Nat):Nat:=LN (H4 a b)
def Qfr(a:Arr):D:=D.agg [ZI (Kj a),D.sl N1 (Vn a) (fun i=>X6 a i) Mode.any,D.sl N1 (Jo a) (fun i=>X7 a i) Mode.any,D.sl N4 (QS a) (fun i=>HX a i) Mode.any]
theorem BcK(a : Arr)(ha : a.nu.length<=maxLen /\ a.it.length<=maxLen /\ a.sh.length<=maxLen)(ih : ∀b∈a.it, ACalls Try.prog 17 ((sRc Arr.row2 (fun _=>True) (fun b=>.int .i64 (wtA b))).args b) ⟨[], []⟩ (SpecR (sRc Arr.row2 (fun _=>True) (fun b=>.int .i64 (wtA b))) b)) :
  ACalls Try.prog 17 ((sRc Arr.row2 (fun _=>True) (fun b=>.int .i64 (wtA b))).args a) ⟨[],[]⟩ (SpecR (sRc Arr.row2 (fun _=>True) (fun b=>.int .i64 (wtA b))) a):=by
 refine Bp (A:=sRc Arr.row2 (fun _=>True) (fun b=>.int .i64 (wtA b))) (x:=a) (E:=Ewt a) (eOk (BaT ih) rfl) Try.func17 rfl (by kernel_rfl) rfl (by simp[sRc,Ewt,EC,E0]) ?_
 refine Bt (T :=
  ∀(x:Nat),True->SM x/\True/\∀(y:Unit),True->(∃(x_1:Nat×Int),X5 x_1.1 a x_1.2/\(HV a=x_1.2/\Z0=(NI x_1.1)/\True)/\HY x a)/\∀(x_1:Nat×Int),X5 x_1.1 a x_1.2->(SM x/\ifB (decide ((NI x_1.1)<(NI (QS a)))) (SM x/\ifB (Kj a==3) (decide (x_1.2<=262144)=X8 x_1.1 a x_1.2/\True) (HZ x_1.1 a x_1.2)) (HZ x_1.1 a x_1.2))/\ifB (X8 x_1.1 a x_1.2) (SM x/\Bb (Z0<=(NI x_1.1)/\(NI x_1.1)<(NI (QS a))) (∃(x_2:Arr),((Arr.k (Vp a x_1.1)=Kj x_2/\(H1 a x_1.1=Vn x_2/\(∀(i:Nat),i<H1 a x_1.1->[ZI (GI (H0 a x_1.1) i)]=X6 x_2 i)/\True)/\(H3 a x_1.1=Jo x_2/\(∀(i:Nat),i<H3 a x_1.1->[ZI (GI (H2 a x_1.1) i)]=X7 x_2 i)/\True)/\(H5 a x_1.1=QS x_2/\(∀(i:Nat),i<H5 a x_1.1->Arr.row (List.getD (H4 a x_1.1) i Vo)=Arr.row (Jp x_2 i))/\True)/\True)/\True)/\(True/\True)/\x_2∈KQ a/\∀(y:Unit),True->(SM (Qfr a)/\SM (D.ref N0 x N0)/\SM (ZI Z0)/\True)/\∃(y:Nat×Int),X5 y.1 a y.2/\QS a-y.1<QS a-x_1.1/\(IntKind.wrap IntKind.i64 (x_1.2+wtA x_2)=y.2/\IntKind.wrap IntKind.i64 ((NI x_1.1)+Z1)=(NI y.1)/\True)/\HY x a)) (RT ((if (262145:Int)<x_1.2 then (262145:Int) else x_1.2)=wtA a))) (by kernel_rfl) ?_
 delta DA GI LN N0 N1 N4 NI SI SM Z0 Z1 ZI X5 Vn X6 X7 Vo Jp Qfp Qfq HW HX HY X8 HZ Vp H0 H1 H2 H3 H4 H5 Qfr KQ QS Kj Jo HV RT
 have da:(default:Arr)=Arr.mk 0 [] [] []:=rfl
 simp only[<- da,Int.toNat_natCast,Bn,Bd,decide_eq_true_eq,decide_eq_false_iff_not,true_and,and_true,beq_iff_eq,Bool.cond_false_right,Bool.and_eq_true,Bool.and_eq_false_iff,beq_eq_false_iff_ne,ne_eq,exists_const,forall_const]
 obtain ⟨l1,l2,l3⟩:=ha
 simp only[maxLen] at l1 l2 l3
 have tt:(∀i:Nat,i<a.sh.length->True)/\(∀i:Nat,i<a.nu.length->True)/\∀i:Nat,i<a.it.length->True:=⟨fun _ _=>trivial,fun _ _=>trivial,fun _ _=>trivial⟩
 have hsz:0<=Bz a.k a.nu.length a.it.length/\Bz a.k a.nu.length a.it.length<=9223372036854775807:=by
  unfold Bz;split<;>(try split)<;>omega
 refine⟨⟨(0,Bz a.k a.nu.length a.it.length),⟨Nat.zero_le _,hsz.1,hsz.2,rfl⟩,⟨rfl,rfl⟩,tt⟩,?_⟩
 rintro ⟨j,n⟩ ⟨b1,b2,b3,hch⟩
 simp only at b1 b2 b3 hch ⊢
 refine⟨⟨fun h1=>⟨fun h2=>by simp[h1,h2],fun h2=>by simp[h2]⟩,fun h1=>by simp[h1]⟩,fun ⟨⟨h1,h2⟩,h3⟩=>⟨by omega,?_⟩,fun hc=>?_⟩
 ·have hlt':j<a.it.length:=by omega
  have hbd:=Cl (a.it.getD j default)
  rw[Cb hlt',wtL,if_pos ⟨h2,h3⟩] at hch
  refine⟨a.it.getD j default,⟨rfl,⟨rfl,fun _ _=>rfl⟩,⟨rfl,fun _ _=>rfl⟩,rfl,fun _ _=>rfl⟩,CC hlt',(j+1,n+wtA (a.it.getD j default)),⟨by simp only;omega,by simp only;omega,by simp only;omega,hch⟩,by simp only;omega,⟨Bc (by omega) (by omega),Bc (by omega) (by omega)⟩,tt⟩
 ·have he:wtL a.k (a.it.drop j) n=n:=by
   by_cases hj:j<a.it.length
   ·rw[Cb hj,wtL,if_neg (by rintro ⟨h2,h3⟩;rcases hc with (h | h) | h<;>omega)]
   ·rw[List.drop_eq_nil_of_le (by omega),wtL]
  rw[he] at hch
  rw[WG,<- hch]
  split<;>omega
theorem WE:∀(a:Arr),a.ok->ACalls Try.prog 17 ((sRc Arr.row2 (fun _=>True) (fun b=>.int .i64 (wtA b))).args a) ⟨[],[]⟩ (SpecR (sRc Arr.row2 (fun _=>True) (fun b=>.int .i64 (wtA b))) a)
 |.mk k s n is,h=>by
  have h':=h
  simp only[Arr.ok] at h'
  obtain ⟨_,_,_,h1,h2,h3,h4⟩:=h'
  refine BcK (.mk k s n is) ⟨h2,h3,h1⟩ fun b hb=>?_
  have hb':b∈is:=hb
  exact WE b ((Ce _).1 h4 b hb')
termination_by a=>SizeOf.sizeOf a
decreasing_by
 have:=List.sizeOf_lt_of_mem hb'
 simp;omega
theorem TV:∀(l:List Arr) (d d' w':Int),B3 l d 262145=some (d',w')->w'=262145
 | [],d,d',w',h=>by rw[B3] at h;injection h with h;injection h with e1 e2;omega
 |x::r,d,d',w',h=>by
  rw[B3] at h
  have:=B8 x
  split at h
  ·cases h
  ·have e:(if (262145:Int)<262145+(Bi x).2.2 then 262145 else 262145+(Bi x).2.2)=262145:=by split<;>omega
   rw[e] at h;exact TV r _ d' w' h
theorem WX(k:Int):∀(l:List Arr) (d w d' w':Int),B3 l d w=some (d',w')->(k=3\/l=[])->(∀x∈l,(Bi x).1=0->wtA x=(Bi x).2.2)->∀n,min n 262145=w->min (wtL k l n) 262145=w'
 | [],d,w,d',w',h,_,_,n,hn=>by
  rw[B3] at h;injection h with h;injection h with e1 e2;rw[wtL];omega
 |x::r,d,w,d',w',h,hk,h3,n,hn=>by
  have hk:k=3:=hk.resolve_right (by simp)
  rw[B3] at h
  have hb:=B8 x
  split at h
  ·cases h
  ·rename_i hx
   have hx:(Bi x).1=0:=by simpa using hx
   have hwx:=h3 x (by simp) hx
   rw[wtL]
   by_cases hn2:n<=262144
   ·rw[if_pos ⟨hk,hn2⟩]
    refine WX k r _ _ d' w' h (.inl hk) (fun y hy=>h3 y (by simp[hy])) _ ?_
    split<;>omega
   ·rw[if_neg (fun e=>hn2 e.2)]
    have hw:w=262145:=by omega
    rw[hw] at h
    have:(if (262145:Int)<262145+(Bi x).2.2 then 262145 else 262145+(Bi x).2.2)=262145:=by split<;>omega
    rw[this] at h
    have:=TV r _ _ _ h
    omega
theorem Bab{k:Int}{s:List Int}{nn ni:Nat}(h:Bx k s nn ni=0):(k=3/\nn=0)\/((k=1\/k=2)/\ni=0):=by
 unfold Bx at h
 by_cases hk:k=1\/k=2\/k=3
 ·rw[if_pos hk] at h
  by_cases hd:B1 s≠0
  ·rw[if_pos hd] at h;exact (hd h).elim
  ·rw[if_neg hd] at h
   by_cases hc:((if k=3 then (ni:Int) else nn)≠BU s)\/((if k=3 then (nn:Int) else ni)≠0)
   ·rw[if_pos hc] at h;omega
   ·simp only[not_or,ne_eq,Decidable.not_not] at hc
    obtain ⟨c1,c2⟩:=hc
    by_cases k3:k=3
    ·simp only[k3,if_true] at c2;left;omega
    ·simp only[k3,if_false] at c2;right;omega
 ·rw[if_neg hk] at h;omega
theorem Bde{a:Arr}{r:Int×Int}(h0:Bx a.k a.sh a.nu.length a.it.length=0)(hr:B3 a.it 0 ((a.nu.length:Int)+a.it.length)=some r)(h3:∀x∈a.it,(Bi x).1=0->wtA x=(Bi x).2.2):wtA a=r.2:=by
 have hz:=Bab h0
 have hs:=Eg h0
 rw[WG]
 refine WX a.k a.it 0 _ r.1 r.2 hr ?_ h3 _ ?_
 ·rcases hz with ⟨h1,_⟩ | ⟨_,h2⟩
  ·exact .inl h1
  ·exact .inr (List.length_eq_zero_iff.1 h2)
 ·unfold Bz
  rcases hz with ⟨h1,h2⟩ | ⟨h1,h2⟩
  ·rw[if_neg (by omega),if_pos h1];omega
  ·rw[if_pos h1];omega
theorem BaZ:∀(a:Arr),(Bi a).1=0->wtA a=(Bi a).2.2
 |.mk k s n is,h=>by
  have ih:∀x∈(Arr.mk k s n is).it,(Bi x).1=0->wtA x=(Bi x).2.2:=fun x hx=>by
   have hx':x∈is:=hx
   exact BaZ x
  have hA:=TK (Arr.mk k s n is)
  generalize Arr.mk k s n is=a at *
  by_cases h0:Bx a.k a.sh a.nu.length a.it.length=0
  ·rw[if_neg (fun e=>e h0)] at hA
   by_cases h1:a.nu.any (CR a.k)=true
   ·rw[if_pos h1] at hA;rw[hA] at h;cases h
   ·rw[if_neg h1] at hA
    cases hr:B3 a.it 0 ((a.nu.length:Int)+a.it.length) with
    |none=>rw[hr] at hA;simp only at hA;rw[hA] at h;cases h
    |some r =>
     rw[hr] at hA
     simp only at hA
     split at hA
     ·rw[hA] at h;cases h
     ·rw[hA];exact Bde h0 hr ih
  ·rw[if_pos h0] at hA;rw[hA] at h;exact (h0 h).elim
termination_by a=>SizeOf.sizeOf a
decreasing_by
 have:=List.sizeOf_lt_of_mem hx'
 simp;omega
def I6(b:Arr):D:=.tup [.int .i64 (Bi b).1,.int .i64 (Bi b).2.1]
def Bbp(a:Arr):Con:=fun k ds S=>match k with
 |36=>some (sRc Arr.row1 (fun b=>b∈a.it) (fun b=>.tup [.int .i64 (Bi b).1,.int .i64 (Bi b).2.1]))
 |17=>some (sRc Arr.row2 (fun b=>b=a) (fun b=>.int .i64 (wtA b)))
 |k=>Rn k ds S
theorem Bb8{a:Arr}(ha:a.ok)(ih:∀b∈a.it,ACalls Try.prog 36 ((sRc Arr.row2 (fun _=>True) I6).args b) ⟨[],[]⟩ (SpecR (sRc Arr.row2 (fun _=>True) I6) b)):ConOk Try.prog (Bbp a):=by
 intro k ds S A h
 unfold Bbp at h
 split at h
 ·injection h with h;subst h
  exact ConOk.plain (fun b hb=>Ry (r:=I6) (ih b hb)) rfl rfl
 ·injection h with h;subst h
  refine ConOk.plain (fun b hb=>?_) rfl rfl
  have hb:b=a:=hb
  rw[hb]
  exact (WE a ha).mono fun _ _ ⟨y,h1,h2,h3⟩=>⟨y,h1,h2,h3⟩
 ·exact UF _ _ _ _ h
def cutW(a:Arr)(d:D)(S:St):Option LoopAnn :=
 match d with
 |.int _ i=>some { slots:=[76],keep:=[],α:=Unit,st:=fun _=>([.bool (CR a.k (a.nu.getD i.toNat 0))],S),inv:=fun _=>True,mu:=fun _=>0 }
 |_=>none
noncomputable def Eck(a:Arr):Senv:={ EC (Bbp a) 107 11 [18,23,30,43,48,76,81,94,105] (fun id=>match id with | 9=>([0,2,3,1,4,5,6,7,8,9],[1,4]) | _=>([],[])) with
 cut:=fun id env S=>match id with
  |14=>cutW a (Ab.look env 6) S
  |_=>none
 ann:=fun b _ S=>match b with
  |0=>some { slots:=[6],keep:=[0,1,2,3],α:=Nat,st:=fun i=>([.int .i64 i],S),inv:=fun i=>i<=a.nu.length/\∀z∈a.nu.take i,CR a.k z=false,mu:=fun i=>a.nu.length-i }
  |2=>some { slots:=[8,7],keep:=[0,1,2,3],α:=Nat×Int×Int,st:=fun y=>([.int .i64 y.1,.int .i64 y.2.1],S),inv:=fun y=>y.1<=a.it.length/\0<=y.2.1/\y.2.1<=17/\0<=y.2.2/\y.2.2<=262145/\B3 (a.it.drop y.1) y.2.1 y.2.2=B3 a.it 0 ((a.nu.length:Int)+a.it.length),mu:=fun y=>a.it.length-y.1 }
  |_=>none }
def Qu(a:Arr):Int:=Arr.k a
def X9(a:Arr):Bool:=bif decide (Qu a<Z1) then true else decide ((3:Int)<Qu a)
def Ky(a:Arr):Int:=Prod.fst (Bi a)
def Jq(a:Arr):Prop:=Z0=Prod.fst (Prod.snd (Bi a))/\True
def Q6(a:Arr):Nat:=LN (Arr.sh a)
def Kz(a:Arr)(b:Nat):List D:=[ZI (GI (Arr.sh a) b)]
def H6(a:Arr):Prop:=IntsP (Q6 a) fun i=>Kz a i
def H7(a:Arr):List Int:=BF (Q6 a) fun i=>Kz a i
def Ya(a:Arr):Int:=B1 (H7 a)
def H8(a:Arr):D:=D.sl N1 (Q6 a) (fun i=>Kz a i) Mode.any
def H9(a:Nat)(b:Arr):Prop:=SM a/\SM (H8 b)
def Qaa(a:Arr):Prop:=H6 a/\Ya a=Z0
def Vq(a:Arr):List Int:=Arr.nu a
def QJ(a:Arr):Nat:=LN (Vq a)
def KR(a:Arr):List Arr:=Arr.it a
def QK(a:Arr):Nat:=LN (KR a)
def Qab(a:Arr):Bool:=Bz (Qu a) (QJ a) (QK a) != BU (H7 a)
def Vr(a:Arr):Prop:=True/\∃(_y:Unit),True/\((16:Int)=Ky a/\Jq a)/\True/\True
def Jr(a:Arr):Int:=(NI (QJ a))
def Yb(a:Nat)(b:Arr):Prop:=a<=QJ b/\∀(z:Int),z∈List.take a (Vq b)->CR (Qu b) z=false
def Js(a:Arr)(b:Nat):List D:=[ZI (GI (Vq a) b)]
def Vs:Arr:=DA
def Jt(a:Arr)(b:Nat):Arr:=List.getD (KR a) b Vs
def Qfs(a:Arr)(b:Nat):List Int:=Arr.sh (Jt a b)
def Qft(a:Arr)(b:Nat):List Int:=Arr.nu (Jt a b)
def Qac(a:Arr)(b:Nat):List Arr:=Arr.it (Jt a b)
def Vt(a:Arr)(b:Nat):List D:=[ZI (Arr.k (Jt a b)),SI (Qfs a b),SI (Qft a b),D.sl N4 (LN (Qac a b)) (fun i=>Arr.row (List.getD (Qac a b) i Vs)) Mode.any]
def KA(a:Nat)(b:Arr):Prop:=(SM a/\(SM (Qu b)/\(SM (Q6 b)/\(∀(i:Nat),i<Q6 b->SM (Kz b i))/\True)/\(SM (QJ b)/\(∀(i:Nat),i<QJ b->SM (Js b i))/\True)/\(SM (QK b)/\(∀(i:Nat),i<QK b->SM (Vt b i))/\True)/\True)/\True)/\True
def Yc(a:Arr)(b:Nat):Int:=GI (Vq a) (Int.toNat (↑b:Int))
def Vu(a:Arr)(b:Nat):Bool:=CR (Qu a) (Yc a b)
def Qad(a:Nat)(b:Arr)(c:Nat):Prop:=SM a/\ifB (Qu b==2) (SM a/\Bb (Z0<=(↑c:Int)/\(↑c:Int)<Jr b) (True/\∀(_y:Unit),True->∃(_x:Unit),True/\((!TR (Yc b c))=Vu b c/\True)/\KA a b)) (∃(_x:Unit),True/\(false=Vu b c/\True)/\KA a b)
def Qae(a:Arr):Prop:=True/\∃(_y:Unit),True/\((17:Int)=Ky a/\Jq a)/\True/\True
def Qfu(a:Arr):D:=D.agg [ZI (Qu a),H8 a,D.sl N1 (QJ a) (fun i=>Js a i) Mode.any,D.sl N4 (QK a) (fun i=>Vt a i) Mode.any]
def Qaf(a:Arr)(b:Nat):Prop:=SM (Qfu a)/\SM (D.ref N0 b N0)/\SM (ZI Z0)/\SM (ZI Z0)/\True
def Vv(a:Arr):Int:=(NI (QK a))
def Yd(a:Nat)(b:Arr)(c d:Int):Prop:=a<=QK b/\Z0<=c/\c<=17/\Z0<=d/\d<=262145/\B3 (List.drop a (KR b)) c d=B3 (KR b) Z0 (Jr b+Vv b)
def Vw(a:Arr)(b:Nat):Arr:=List.getD (KR a) (Int.toNat (↑b:Int)) Vs
def Qag(a:Arr)(b:Nat):List Int:=Arr.sh (Vw a b)
def Qah(a:Arr)(b:Nat):Nat:=LN (Qag a b)
def Qai(a:Arr)(b:Nat):List Int:=Arr.nu (Vw a b)
def Qaj(a:Arr)(b:Nat):Nat:=LN (Qai a b)
def Qak(a:Arr)(b:Nat):List Arr:=Arr.it (Vw a b)
def Qal(a:Arr)(b:Nat):Nat:=LN (Qak a b)
def Qam(a:Arr):Prop:=True/\∃(_y:Unit),True/\((21:Int)=Ky a/\Jq a)/\True/\True
def Qan(a:Arr)(b:Nat):Prop:=(∃(x:Nat),Yb x a/\(Z0=(↑x:Int)/\True)/\KA b a)/\∀(x:Nat),Yb x a->SM b/\ifB (decide ((↑x:Int)<Jr a)) ((SM b/\ifB (Qu a==Z1) (SM b/\Bb (Z0<=(↑x:Int)/\(↑x:Int)<Jr a) (True/\∀(_y:Unit),True->ifB (!Oj (Yc a x)) (∃(_x_1:Unit),True/\(true=Vu a x/\True)/\KA b a) (Qad b a x))) (Qad b a x))/\∀(_x_1:Unit),True->ifB (Vu a x) (Qae a) (Qaf a b/\∃(y:Nat),Yb y a/\QJ a-y<QJ a-x/\(IntKind.wrap IntKind.i64 ((↑x:Int)+Z1)=(↑y:Int)/\True)/\KA b a)) ((∃(x:Nat×Int×Int),Yd x.1 a x.2.1 x.2.2/\(Z0=(NI x.1)/\Z0=x.2.1/\True)/\KA b a)/\∀(x:Nat×Int×Int),Yd x.1 a x.2.1 x.2.2->SM b/\ifB (decide ((NI x.1)<Vv a)) (SM b/\Bb (Z0<=(NI x.1)/\(NI x.1)<Vv a) (∃(x_1:Arr),((Arr.k (Vw a x.1)=Qu x_1/\(Qah a x.1=Q6 x_1/\(∀(i:Nat),i<Qah a x.1->[ZI (GI (Qag a x.1) i)]=Kz x_1 i)/\True)/\(Qaj a x.1=QJ x_1/\(∀(i:Nat),i<Qaj a x.1->[ZI (GI (Qai a x.1) i)]=Js x_1 i)/\True)/\(Qal a x.1=QK x_1/\(∀(i:Nat),i<Qal a x.1->Arr.row (List.getD (Qak a x.1) i Vs)=Arr.row (Jt x_1 i))/\True)/\True)/\True)/\(True/\True)/\x_1∈KR a/\∀(_y:Unit),True->ifB (Ky x_1 != Z0) (Qae a) (Qaf a b/\∃(y:Nat×Int×Int),Yd y.1 a y.2.1 y.2.2/\QK a-y.1<QK a-x.1/\(IntKind.wrap IntKind.i64 ((NI x.1)+Z1)=(NI y.1)/\(if x.2.1<IntKind.wrap IntKind.i64 (Prod.fst (Prod.snd (Bi x_1))+Z1) then IntKind.wrap IntKind.i64 (Prod.fst (Prod.snd (Bi x_1))+Z1) else x.2.1)=y.2.1/\True)/\KA b a))) (ifB (decide ((16:Int)<x.2.1)) (Qam a) (SM b/\∃(x_1:Arr),((Qu a=Qu x_1/\(Q6 a=Q6 x_1/\(∀(i:Nat),i<Q6 a->Kz a i=Kz x_1 i)/\True)/\(QJ a=QJ x_1/\(∀(i:Nat),i<QJ a->Js a i=Js x_1 i)/\True)/\(QK a=QK x_1/\(∀(i:Nat),i<QK a->Vt a i=Vt x_1 i)/\True)/\True)/\True)/\(True/\True)/\x_1=a/\∀(_y:Unit),True->ifB (decide ((262144:Int)<wtA x_1)) (Qam a) (True/\∃(_y:Unit),True/\(Z0=Ky a/\x.2.1=Prod.fst (Prod.snd (Bi a))/\True)/\True/\True))))
theorem Bcz(a : Arr)(hok : a.ok)(ha : a.nu.length<=maxLen /\ a.it.length<=maxLen /\ a.sh.length<=maxLen)(ih : ∀b∈a.it, ACalls Try.prog 36 ((sRc Arr.row2 (fun _=>True) I6).args b) ⟨[], []⟩ (SpecR (sRc Arr.row2 (fun _=>True) I6) b)) :
  ACalls Try.prog 36 ((sRc Arr.row2 (fun _=>True) I6).args a) ⟨[],[]⟩ (SpecR (sRc Arr.row2 (fun _=>True) I6) a):=by
 refine Bp (A:=sRc Arr.row2 (fun _=>True) I6) (x:=a) (E:=Eck a) (eOk (Bb8 hok ih) rfl) Try.func36 rfl (by kernel_rfl) rfl (by simp[sRc,Eck,EC,E0]) ?_
 simp only[sRc,I6]
 refine Bt (T :=
  ∀(x:Nat),True->(SM x/\ifB (decide (Qu a<Z1)) (true=X9 a/\True) (SM x/\decide ((3:Int)<Qu a)=X9 a/\True))/\ifB (X9 a) (True/\∃(y:Unit),True/\((14:Int)=Ky a/\Jq a)/\True/\True) (SM x/\H6 a/\∀(y:Unit),True->ifB (Ya a != Z0) (True/\∃(y:Unit),True/\(Ya a=Ky a/\Jq a)/\True/\True) (SM x/\SM x/\ifB (Qu a==3) (SM x/\SM x/\SM x/\True/\∀(y:Unit),True->H9 x a/\Qaa a/\∀(y:Unit),True->ifB (Qab a) (Vr a) (ifB (decide (Z0<Jr a)) (Vr a) (Qan a x))) (SM x/\SM x/\True/\∀(y:Unit),True->H9 x a/\Qaa a/\∀(y:Unit),True->ifB (Qab a) (Vr a) (ifB (decide (Z0<Vv a)) (Vr a) (Qan a x)))))) (by kernel_rfl) ?_
 delta DA GI LN N0 N1 N4 NI SI SM Z0 Z1 ZI Qu X9 H9 Qaa Vq QJ KR QK Qab Vr Jr Yb Ky Js Vs Jt Qfs Qft Qac Vt KA Yc Vu Jq Qad Qae Qfu Qaf Vv Yd Vw Qag Qah Qai Q6 Qaj Qak Qal Qam Qan Kz H6 H7 Ya H8
 have da:(default:Arr)=Arr.mk 0 [] [] []:=rfl
 simp only[<- da,Cr,Int.toNat_natCast,Bn,Bd,decide_eq_true_eq,decide_eq_false_iff_not,true_and,and_true,beq_iff_eq,bne_iff_ne,Bool.cond_true_left,beq_eq_false_iff_ne,ne_eq,exists_const,forall_const]
 have hA:=TK a
 obtain ⟨l1,l2,l3⟩:=ha
 simp only[maxLen] at l1 l2 l3
 have tt:(∀i:Nat,i<a.sh.length->True)/\(∀i:Nat,i<a.nu.length->True)/\∀i:Nat,i<a.it.length->True:=⟨fun _ _=>trivial,fun _ _=>trivial,fun _ _=>trivial⟩
 have bad:∀e,Bx a.k a.sh a.nu.length a.it.length=e->e≠0->e=(Bi a).1/\0=(Bi a).2.1:=fun e h1 h2=>by
  rw[if_pos (by rw[h1];exact h2),h1] at hA
  rw[hA];exact⟨rfl,rfl⟩
 refine⟨⟨fun h=>by simp[h],fun h=>by simp[h]⟩,fun h=>bad 14 ?_ (by decide),fun h=>⟨BI _,fun hd=>bad _ ?_ hd,fun hd=>?_⟩⟩
 ·rw[Bool.or_eq_true,decide_eq_true_eq,decide_eq_true_eq] at h
  unfold Bx;rw[if_neg (by omega)]
 ·rw[Bool.or_eq_false_iff,decide_eq_false_iff_not,decide_eq_false_iff_not] at h
  unfold Bx;rw[if_pos (by omega),if_pos hd]
 rw[Bool.or_eq_false_iff,decide_eq_false_iff_not,decide_eq_false_iff_not] at h
 have hd0:B1 a.sh=0:=by simpa using hd
 have hk:a.k=1\/a.k=2\/a.k=3:=by omega
 have hf:Bx a.k a.sh a.nu.length a.it.length=if ((if a.k=3 then (a.it.length:Int) else a.nu.length)≠BU a.sh)\/((if a.k=3 then (a.nu.length:Int) else a.it.length)≠0) then 16 else 0:=by
  unfold Bx;rw[if_pos hk,if_neg (fun e=>e hd0)]
 have hsz:Bz a.k a.nu.length a.it.length=if a.k=3 then (a.it.length:Int) else a.nu.length:=by
  unfold Bz
  by_cases k3:a.k=3
  ·rw[if_neg (by omega),if_pos k3,if_pos k3]
  ·rw[if_pos (by omega),if_neg k3]
 rw[<- hsz] at hf
 refine⟨fun k3=>⟨⟨BI _,hd0⟩,fun hs=>bad 16 (by rw[hf,if_pos (.inl hs)]) (by decide),fun hs=>⟨fun ho=>bad 16 (by rw[hf,if_pos (.inr (by rw[if_pos k3];omega))]) (by decide),fun ho=>?_⟩⟩,
  fun k3=>⟨⟨BI _,hd0⟩,fun hs=>bad 16 (by rw[hf,if_pos (.inl hs)]) (by decide),fun hs=>⟨fun ho=>bad 16 (by rw[hf,if_pos (.inr (by rw[if_neg k3];omega))]) (by decide),fun ho=>?_⟩⟩⟩
 all_goals
  have hs':Bz a.k a.nu.length a.it.length=BU a.sh:=by simpa using hs
  have h0:Bx a.k a.sh a.nu.length a.it.length=0:=by
   rw[hf,if_neg]
   rintro (h1 | h1)
   ·exact h1 hs'
   ·simp only[k3,if_true,if_false] at h1;omega
  clear hf hs hsz
  have hsm:=Eg h0
  refine⟨⟨0,⟨Nat.zero_le _,by simp⟩,rfl,tt⟩,fun i hi=>⟨fun hlt=>?_,fun hge=>?_⟩⟩
  ·have hlt':i<a.nu.length:=by omega
   have hmem:a.nu.getD i 0∈a.nu:=by rw[List.getD_eq_getElem?_getD,List.getElem?_eq_getElem hlt'];exact List.getElem_mem hlt'
   have htk:a.nu.take (i+1)=a.nu.take i++[a.nu.getD i 0]:=by
    rw[List.take_add_one];simp[List.getD_eq_getElem?_getD,hlt']
   generalize a.nu.getD i 0=z at *
   refine⟨⟨fun k1=>⟨⟨by omega,hlt⟩,fun hn=>⟨by simp at hn;simp[CR,k1,hn],tt⟩,fun hn=>⟨fun k2=>by omega,fun k2=>⟨by simp at hn;simp[CR,k1,hn],tt⟩⟩⟩,fun k1=>⟨fun k2=>⟨⟨by omega,hlt⟩,by simp[CR,k2],tt⟩,fun k2=>⟨by simp[CR,k1,k2],tt⟩⟩⟩,fun hb=>?_,fun hb=>⟨i+1,⟨by omega,fun y hy=>?_⟩,by omega,Bc (by omega) (by omega),tt⟩⟩
   ·have:a.nu.any (CR a.k)=true:=List.any_eq_true.2 ⟨z,hmem,hb⟩
    rw[if_neg (fun e=>e h0),if_pos this] at hA
    rw[hA]
    exact⟨rfl,rfl⟩
   ·rw[htk,List.mem_append] at hy
    rcases hy with hy | hy
    ·exact hi.2 y hy
    ·simp at hy;rw[hy];exact hb
  ·have hii:i=a.nu.length:=by omega
   rw[hii,List.take_length] at hi
   have hany:¬a.nu.any (CR a.k)=true:=by
    rw[List.any_eq_true]
    rintro ⟨z,hz,hb⟩
    rw[hi.2 z hz] at hb
    cases hb
   rw[if_neg (fun e=>e h0),if_neg hany] at hA
   refine⟨⟨(0,0,(a.nu.length:Int)+a.it.length),⟨Nat.zero_le _,Int.le_refl _,by simp,by simp only;omega,by simp only;omega,by simp⟩,⟨rfl,rfl⟩,tt⟩,?_⟩
   rintro ⟨j,d,w⟩ ⟨b1,b2,b3,b4,b5,hch⟩
   simp only at b1 b2 b3 b4 b5 hch ⊢
   refine⟨fun hlt=>⟨⟨by omega,hlt⟩,?_⟩,fun hge=>?_⟩
   ·have hlt':j<a.it.length:=by omega
    have hbd:=B8 (a.it.getD j default)
    rw[Cb hlt',B3] at hch
    refine⟨a.it.getD j default,⟨rfl,⟨rfl,fun _ _=>rfl⟩,⟨rfl,fun _ _=>rfl⟩,rfl,fun _ _=>rfl⟩,CC hlt',fun herr=>?_,fun hok=>?_⟩
    ·rw[if_pos herr] at hch
     rw[<- hch] at hA
     rw[hA]
     exact⟨rfl,rfl⟩
    ·have hok:(Bi (a.it.getD j default)).1=0:=by simpa using hok
     rw[if_neg (fun hne=>hne hok)] at hch
     have w1:IntKind.i64.wrap ((Bi (a.it.getD j default)).2.1+1)=(Bi (a.it.getD j default)).2.1+1:=Bc (by omega) (by omega)
     rw[w1]
     refine⟨(j+1,(if d<(Bi (a.it.getD j default)).2.1+1 then (Bi (a.it.getD j default)).2.1+1 else d),(if 262145<w+(Bi (a.it.getD j default)).2.2 then 262145 else w+(Bi (a.it.getD j default)).2.2)),⟨by simp only;omega,?_,?_,?_,?_,hch⟩,by simp only;omega,⟨Bc (by omega) (by omega),rfl⟩,tt⟩
     ·simp only;split<;>omega
     ·simp only;split<;>omega
     ·simp only;split<;>omega
     ·simp only;split<;>omega
   ·have hj:j=a.it.length:=by omega
    rw[hj,List.drop_length,B3] at hch
    have hw:=Bde h0 hch.symm fun x _ hx=>BaZ x hx
    rw[<- hch] at hA
    simp only at hA hw
    refine⟨fun hc=>?_,fun hc=>⟨a,⟨rfl,⟨rfl,fun _ _=>rfl⟩,⟨rfl,fun _ _=>rfl⟩,rfl,fun _ _=>rfl⟩,rfl,fun hq=>?_,fun hq=>?_⟩⟩
    ·rw[if_pos (.inl hc)] at hA
     rw[hA];exact⟨rfl,rfl⟩
    ·rw[if_pos (.inr (by omega))] at hA
     rw[hA];exact⟨rfl,rfl⟩
    ·rw[if_neg (by omega)] at hA
     rw[hA];exact⟨rfl,rfl⟩
theorem Ba4:∀(a:Arr),a.ok->ACalls Try.prog 36 ((sRc Arr.row2 (fun _=>True) I6).args a) ⟨[],[]⟩ (SpecR (sRc Arr.row2 (fun _=>True) I6) a)
 |.mk k s n is,h=>by
  have h':=h
  simp only[Arr.ok] at h'
  obtain ⟨_,_,_,h1,h2,h3,h4⟩:=h'
  refine Bcz (.mk k s n is) h ⟨h2,h3,h1⟩ fun b hb=>?_
  have hb':b∈is:=hb
  exact Ba4 b ((Ce _).1 h4 b hb')
termination_by a=>SizeOf.sizeOf a
decreasing_by
 have:=List.sizeOf_lt_of_mem hb'
 simp;omega
theorem Bd1{k:Nat}{row:Arr->List D}{q q':Arr->Prop}{r:Arr->D}{b:Arr}(h:ACalls Try.prog k ((sRc row q r).args b) ⟨[],[]⟩ (SpecR (sRc row q r) b)):ACalls Try.prog k ((sRc row q' r).args b) ⟨[],[]⟩ (SpecR (sRc row q' r) b) :=
 h.mono fun _ _ ⟨y,h1,h2,h3⟩=>⟨y,h1,h2,h3⟩
def BcC(a:Arr):D:=.int .i64 (Bi a).1
def Bau(a:Arr):Con:=fun k _ _=>match k with
 |36=>some (sRc Arr.row2 (fun b=>b=a) (fun b=>.tup [.int .i64 (Bi b).1,.int .i64 (Bi b).2.1]))
 |21=>some (sRc Arr.row1 (fun b=>b=a) (fun b=>.int .i64 (Bi b).1))
 |_=>none
theorem Ba9{a:Arr}(ha:a.ok):ConOk Try.prog (Bau a):=by
 intro k ds S A h
 unfold Bau at h
 split at h
 ·injection h with h;subst h
  refine ConOk.plain (fun b hb=>?_) rfl rfl
  have hb:b=a:=hb
  rw[hb]
  exact Bd1 (r:=I6) (Ba4 a ha)
 ·injection h with h;subst h
  refine ConOk.plain (fun b hb=>?_) rfl rfl
  have hb:b=a:=hb
  rw[hb]
  exact (IV a ha).mono fun _ _ ⟨y,h1,h2,h3⟩=>⟨(),trivial,h2,h3⟩
 ·cases h
noncomputable def Err(a:Arr):Senv:=EC (Bau a) 11 5 [] (fun _=>([],[]))
def Qao:Arr:=DA
def Vx(a:Arr)(b:Nat):Arr:=List.getD (Arr.it a) b Qao
def Qfv(a:Arr)(b:Nat):List Int:=Arr.sh (Vx a b)
def Qfw(a:Arr)(b:Nat):List Int:=Arr.nu (Vx a b)
def Qap(a:Arr)(b:Nat):List Arr:=Arr.it (Vx a b)
def Qaq(a:Arr)(b:Nat):List D:=[ZI (Arr.k (Vx a b)),SI (Qfv a b),SI (Qfw a b),D.sl N4 (LN (Qap a b)) (fun i=>Arr.row (List.getD (Qap a b) i Qao)) Mode.any]
theorem BdF(a:Arr)(ha:a.ok):ACalls Try.prog 18 ((sRc Arr.row2 (fun _=>True) BcC).args a) ⟨[],[]⟩ (SpecR (sRc Arr.row2 (fun _=>True) BcC) a):=by
 refine Bp (A:=sRc Arr.row2 (fun _=>True) BcC) (x:=a) (E:=Err a) (eOk (Ba9 ha) rfl) Try.func18 rfl (by kernel_rfl) rfl (by simp[sRc,Err,EC,E0]) ?_
 simp only[sRc,BcC]
 refine Bt (T :=
  ∀(x:Nat),True->SM x/\∃(x:Arr),((Arr.k a=Arr.k x/\(LN (Arr.sh a)=LN (Arr.sh x)/\(∀(i:Nat),i<LN (Arr.sh a)->[ZI (GI (Arr.sh a) i)]=[ZI (GI (Arr.sh x) i)])/\True)/\(LN (Arr.nu a)=LN (Arr.nu x)/\(∀(i:Nat),i<LN (Arr.nu a)->[ZI (GI (Arr.nu a) i)]=[ZI (GI (Arr.nu x) i)])/\True)/\(LN (Arr.it a)=LN (Arr.it x)/\(∀(i:Nat),i<LN (Arr.it a)->Qaq a i=Qaq x i)/\True)/\True)/\True)/\(True/\True)/\x=a/\∀(y:Unit),True->RT (Prod.fst (Bi x)=Prod.fst (Bi a))) (by kernel_rfl) ?_
 delta DA GI LN N1 N4 SI SM Z0 ZI Qao Vx Qfv Qfw Qap Qaq RT
 simp only[and_true,exists_const]
 intro x _
 exact⟨trivial,a,⟨rfl,⟨rfl,fun _ _=>rfl⟩,⟨rfl,fun _ _=>rfl⟩,rfl,fun _ _=>rfl⟩,trivial,rfl,fun _ _=>⟨trivial,trivial,rfl⟩⟩
def _root_.Go.Ab.cellsO(os:List (Nat×Nat×AObj))(k:Nat):List D:=match Bv os k with
 |some (_,.cells ds)=>ds
 |_=>[]
theorem ACalls.wkEnd{P:Program}{k:FuncId}{ds:List D}{S:St}{R R':AEnd->St->Prop}(h:ACalls P k ds S R)(hr:∀r S',R r S'->∃r',(∀C e,RepEnd C r e->RepEnd C r' e)/\R' r' S'):ACalls P k ds S R' :=
 ⟨h.1,fun C F args w ha hs=>(h.2 C F args w ha hs).mono fun _ _ ⟨C',_r,S',h1,h2,h3,h4⟩=>let ⟨r',q0,q2⟩:=hr _ _ h4;⟨C',r',S',h1,h2,q0 _ _ h3,q2⟩⟩
theorem UD(a:Arr):wkL a.row1 a.row:=by
 cases a with
 |mk k s n is =>
  simp only[Arr.row,Arr.row1,Arr.k,Arr.sh,Arr.nu,Arr.it,gsl,isl,wkL,wkD,Be,Ba]
  refine⟨⟨by simp[kEq],trivial⟩,⟨by simp,trivial,fun i _=>by simp[kEq],by simp[Bw]⟩,⟨by simp,trivial,fun i _=>by simp[kEq],by simp[Bw]⟩,⟨by simp,by simp[Cc],fun i hi=>?_,by simp[Bw]⟩,trivial⟩
  have:(GJ is).getD i []=(is.getD i default).row:=by
   rw[Cc];simp[List.getD_eq_getElem?_getD,hi]
  rw[this]
  exact Bf _
theorem BaJ{k:Int}{s:List Int}{nn ni:Nat}(h:Bx k s nn ni=0):s.length<=8:=by
 unfold Bx at h
 by_cases hk:k=1\/k=2\/k=3
 ·rw[if_pos hk] at h
  by_cases hd:B1 s≠0
  ·rw[if_pos hd] at h;exact (hd h).elim
  ·have hd:B1 s=0:=by simpa using hd
   unfold B1 at hd
   by_cases h8:8<s.length
   ·rw[if_pos h8] at hd;omega
   ·omega
 ·rw[if_neg hk] at h;omega
def _root_.Go.Ab.refKey:D->Nat
 |.ref k _ _=>k
 |_=>0
def _root_.Go.Ab.vkey(os:List (Nat×Nat×AObj))(k:Nat):Nat:=match cellsO os k with
 | [_,_,_,.vs kv _ _ _ _]=>kv
 |_=>0
def zrow:List D:=[.int .i64 0,.sl 1 0 (fun _=>[]) .nil,.sl 1 0 (fun _=>[]) .nil,.sl 1 0 (fun _=>[]) .nil]
def clR(its:List Arr)(i j:Nat):List D:=match Nat.blt j i with
 |true=>(its.getD j default).row1
 |false=>zrow
def sCl(row row':Arr->List D)(q:Arr->Prop):FnSpec where
 β:=Arr
 α:=Unit
 args:=fun a=>[.agg (row a)]
 st:=fun _=>⟨[],[]⟩
 pre:=q
 post:=fun _ _=>True
 res:=fun a _=>.ret (.agg (row' a))
 out:=fun _ _=>⟨[],[]⟩
def Rg(its:List Arr):Con:=fun k _ _=>match k with
 |49=>some (sCl Arr.row1 Arr.row1 (fun b=>b∈its))
 |_=>none
theorem Oe{its:List Arr}{i j:Nat}(h:j<i):clR its i j=(its.getD j default).row1:=by
 unfold clR
 have:Nat.blt j i=true:=by simpa using h
 rw[this]
theorem Ba1{its:List Arr}{i j:Nat}(h:¬j<i):clR its i j=zrow:=by
 unfold clR
 cases hb:Nat.blt j i with
 |false=>rfl
 |true=>exact (h (by simpa using hb)).elim
noncomputable def Ecl(a:Arr):Senv:={ EC (Rg a.it) 47 6 [32,33,34,35] (fun id=>match id with | 1=>([0,1,2,3,4,6,7,8,10,11,12,5,9,13,14,15,16],[5,9,13,15,16]) | 7=>([0,1,2,3,4,5,6],[4,6]) | _=>([],[])) with
 gz:=fun r=>match r with
  |9=>[.cell 17 1,.cell 17 2,.cell 17 3]
  |_=>[]
 cut:=fun id _ S=>match id with
  |1=>some { slots:=[3],keep:=[],α:=(Nat×Nat)×Nat×Nat,st:=fun y=>([.ref 17 y.2.2 0],⟨[(17,y.2.2,.cells [.int .i64 a.k,.vs 7 y.1.1 a.sh.length a.sh.length 1,.vs 11 y.1.2 a.nu.length a.nu.length 1,.vs 15 y.2.1 a.it.length a.it.length 4]),(15,y.2.1,.vec 4 a.it.length a.it.length (clR a.it 0)),(11,y.1.2,.vec 1 a.nu.length a.nu.length (fun _=>[.int .i64 0])),(7,y.1.1,.vec 1 a.sh.length a.sh.length (fun _=>[.int .i64 0]))]++S.objs,[]⟩),inv:=fun _=>True,mu:=fun _=>0 }
  |_=>none
 ann:=fun b env S=>match b with
  |0=>some { slots:=[34],keep:=[1,2,3,32,33],α:=Nat,st:=fun i=>([.int .i64 i],⟨Ef S.objs (vkey S.objs (refKey (Ab.look env 3))) (.vec 4 a.it.length a.it.length (clR a.it i)),S.toks⟩),inv:=fun i=>i<=a.it.length,mu:=fun i=>a.it.length-i }
  |_=>none }
def QT(a:Arr):Nat:=LN (Arr.sh a)
def Qb(a:Arr):Int:=(NI (QT a))
def Qm(a:Arr):Int:=(8:Int)*Qb a
def Kk(a:Arr):List Arr:=Arr.it a
def Ql(a:Arr):Nat:=LN (Kk a)
def Vy:Arr:=DA
def Ju(a:Arr)(b:Nat):Arr:=List.getD (Kk a) b Vy
def Qfx(a:Arr)(b:Nat):List Int:=Arr.sh (Ju a b)
def Qfy(a:Arr)(b:Nat):List Int:=Arr.nu (Ju a b)
def Qar(a:Arr)(b:Nat):List Arr:=Arr.it (Ju a b)
def Ye(a:Arr)(b:Nat):List D:=[ZI (Arr.k (Ju a b)),SI (Qfx a b),SI (Qfy a b),D.sl N4 (LN (Qar a b)) (fun i=>Arr.row (List.getD (Qar a b) i Vy)) Mode.any]
def Qfz(a:Arr):D:=D.sl N4 (Ql a) (fun i=>Ye a i) Mode.any
def Qas(a:Arr):Prop:=SM (Qfz a)
def Qv(a:Nat)(b:Arr):Prop:=SM a/\Qas b
def QU(a:Arr):Nat:=LN (Arr.nu a)
def Vz(a:Arr)(b:Nat):List D:=[ZI (GI (Arr.nu a) b)]
def Qat(a:Arr):D:=D.sl N1 (QU a) (fun i=>Vz a i) Mode.any
def Qw(a:Nat)(b:Arr):Prop:=SM a/\SM (Qat b)
def Yf(a:Arr):Int:=Arr.k a
def Qau(a:Arr):D:=ZI (Yf a)
def Qe(a:Nat)(b:Arr):Prop:=SM a/\SM (Qau b)
def Qd(a:Arr):Int:=(NI (QU a))
def Qn(a:Arr):Int:=(8:Int)*Qd a
def QG(a b c d:Nat):Prop:=a≠b/\c≠b/\d≠b/\True
def Qa(a:Arr):Int:=(NI (Ql a))
def Qo(a:Arr):Int:=(80:Int)*Qa a
def Qg(a b c d e:Nat):Prop:=a≠b/\QG c b d e
def Qh(a b c d e f:Nat):Prop:=a≠b/\Qg c b d e f
def VA(a:Arr):Prop:=SM (Yf a)
def VB(a:Arr):Prop:=Int.toNat (Qb a)=QT a
def VC(a:Arr):Prop:=Int.toNat (Qd a)=QU a
def VD(a:Arr):Prop:=Int.toNat (Qa a)=Ql a
def Yg:D:=D.sl N1 N0 (fun _x=>[]) Mode.nil
def Qav:Prop:=SM [ZI Z0]
def Yh:Prop:=SM N0/\(∀(i:Nat),i<N0->EY (List D) [] [])/\True
def KB(a:Arr):Prop:=SM (QT a)
def VE(a:Arr)(b:Nat):List D:=[ZI (GI (Arr.sh a) b)]
def Qaw(a:Arr):Prop:=∀(i:Nat),i<QT a->SM (VE a i)
def Qax(a:Arr):Prop:=KB a/\Qaw a/\True
def KC(a:Arr):Prop:=SM (QU a)
def Qay(a:Arr):Prop:=∀(i:Nat),i<QU a->SM (Vz a i)
def Qaz(a:Arr):Prop:=KC a/\Qay a/\True
def Q7(a:Arr):Prop:=SM (Ql a)
def Jv(a:Nat)(b:Arr):Prop:=a<Ql b
def QaA(a b:Nat)(c:Arr):Prop:=SM a/\(SM Z0/\Yh/\Yh/\Yh/\True)/\SM b/\(VA c/\Qax c/\Qaz c/\(Q7 c/\(∀(i:Nat),Jv i c->SM (Ye c i))/\True)/\True)/\True
def Qi(a:Nat)(b:Arr)(c d e f g:Nat):Prop:=Qe a b/\SM c/\∃(x:(Nat×Nat)×Nat×Nat),True/\(c=x.2.2/\True)/\(c=x.2.2/\(VA b/\(d=x.1.1/\VB b/\VB b)/\(e=x.1.2/\VC b/\VC b)/\(f=x.2.1/\VD b/\VD b)/\True)/\f=x.2.1/\(VD b/\VD b/\∀(i:Nat),i<Int.toNat (Qa b)->[ZI Z0,Yg,Yg,Yg]=clR (Kk b) N0 i)/\e=x.1.2/\(VC b/\VC b/\∀(i:Nat),i<Int.toNat (Qd b)->Qav)/\d=x.1.1/\(VB b/\VB b/\∀(i:Nat),i<Int.toNat (Qb b)->Qav)/\QaA g a b)/\True
def QaB(a:Arr):D:=D.sl N1 (QT a) (fun i=>VE a i) Mode.any
def Qx(a:Nat)(b:Arr):Prop:=SM a/\SM (QaB b)
def QaC(a:Arr)(b c d:Nat):Prop:=VA a/\(SM b/\KB a/\KB a)/\(SM c/\KC a/\KC a)/\(SM d/\Q7 a/\Q7 a)/\True
def VF(a:Arr)(b c:Nat):List D:=clR (Kk a) b c
def QaD(a:Nat)(b:Arr)(c d e:Nat):Prop:=SM a/\(KC b/\KC b/\Qay b)/\SM c/\(KB b/\KB b/\Qaw b)/\QaA d e b
def VG(a:Arr)(b:Nat):Arr:=List.getD (Kk a) (Int.toNat (↑b:Int)) Vy
def QaE(a:Arr)(b:Nat):List Int:=Arr.sh (VG a b)
def QaF(a:Arr)(b:Nat):Nat:=LN (QaE a b)
def QaG(a:Arr)(b:Nat):List Int:=Arr.nu (VG a b)
def QaH(a:Arr)(b:Nat):Nat:=LN (QaG a b)
def QaI(a:Arr)(b:Nat):List Arr:=Arr.it (VG a b)
def QaJ(a:Arr)(b:Nat):Nat:=LN (QaI a b)
def QaK(a:Arr)(b:Nat):List D:=Arr.row (Ju a b)
def QfA(a:Nat)(b:Arr):D:=D.vs (15:Nat) a (Ql b) (Ql b) N4
def Yi(a:D):Bool:=match a with | D.unk=>false | D.agg _cs=>false | D.tup _ds=>false | _x=>true
theorem BcX(a : Arr)(ha : a.nu.length<=1000000 /\ a.it.length<=1000000 /\ a.sh.length<=1000000)(hc : ConOk Try.prog (Rg a.it)) :
  ACalls Try.prog 49 ((sCl Arr.row2 Arr.row2 (fun _=>True)).args a) ⟨[],[]⟩ (SpecR (sCl Arr.row2 Arr.row2 (fun _=>True)) a):=by
 refine Bp (A:=sCl Arr.row2 Arr.row2 (fun _=>True)) (x:=a) (E:=Ecl a) (eOk hc rfl) Try.func49 rfl (by kernel_rfl) rfl (by simp[sCl,Ecl,EC,E0]) ?_
 refine Bt (T :=
  ∀(x:Nat),True->∀(x_1:Nat),x≠x_1/\True->(SM x/\SM x/\SM x/\SM x/\Bb (Z0<=Qb a/\Qb a<=Qb a/\Qm a<=281474976710656/\Qb a<=9223372036854775807) (∀(x_2:Nat),x_1≠x_2/\x≠x_2/\True->Qv x a/\Qw x a/\Qe x a/\Bb (Z0<=Qd a/\Qd a<=Qd a/\Qn a<=281474976710656/\Qd a<=9223372036854775807) (∀(x_3:Nat),QG x_2 x_3 x_1 x->Qv x a/\Qe x a/\Bb (Z0<=Qa a/\Qa a<=Qa a/\Qo a<=281474976710656/\Qa a<=9223372036854775807) (∀(x_4:Nat),Qg x_3 x_4 x_2 x_1 x->Qe x a/\∀(x_5:Nat),Qh x_4 x_5 x_3 x_2 x_1 x->Qi x a x_5 x_2 x_3 x_4 x_1)/\∀(x_4:Nat),Qg x_3 x_4 x_2 x_1 x->Qv x a/\Qe x a/\Bb (Z0<=Qa a/\Qa a<=Qa a/\Qo a<=281474976710656/\Qa a<=9223372036854775807) (∀(x_5:Nat),Qh x_4 x_5 x_3 x_2 x_1 x->Qi x a x_4 x_2 x_3 x_5 x_1))/\Bb (Z0<=Qa a/\Qa a<=Qa a/\Qo a<=281474976710656/\Qa a<=9223372036854775807) (∀(x_3:Nat),QG x_2 x_3 x_1 x->Qw x a/\Qe x a/\Bb (Z0<=Qd a/\Qd a<=Qd a/\Qn a<=281474976710656/\Qd a<=9223372036854775807) (∀(x_4:Nat),Qg x_3 x_4 x_2 x_1 x->Qe x a/\∀(x_5:Nat),Qh x_4 x_5 x_3 x_2 x_1 x->Qi x a x_5 x_2 x_4 x_3 x_1)/\∀(x_4:Nat),Qg x_3 x_4 x_2 x_1 x->Qw x a/\Qe x a/\Bb (Z0<=Qd a/\Qd a<=Qd a/\Qn a<=281474976710656/\Qd a<=9223372036854775807) (∀(x_5:Nat),Qh x_4 x_5 x_3 x_2 x_1 x->Qi x a x_4 x_2 x_5 x_3 x_1))/\∀(x_3:Nat),QG x_2 x_3 x_1 x->Qv x a/\Qw x a/\Qe x a/\Bb (Z0<=Qd a/\Qd a<=Qd a/\Qn a<=281474976710656/\Qd a<=9223372036854775807) (∀(x_4:Nat),Qg x_3 x_4 x_2 x_1 x->Qv x a/\Qe x a/\Bb (Z0<=Qa a/\Qa a<=Qa a/\Qo a<=281474976710656/\Qa a<=9223372036854775807) (∀(x_5:Nat),Qh x_4 x_5 x_3 x_2 x_1 x->Qi x a x_3 x_2 x_4 x_5 x_1))/\Bb (Z0<=Qa a/\Qa a<=Qa a/\Qo a<=281474976710656/\Qa a<=9223372036854775807) (∀(x_4:Nat),Qg x_3 x_4 x_2 x_1 x->Qw x a/\Qe x a/\Bb (Z0<=Qd a/\Qd a<=Qd a/\Qn a<=281474976710656/\Qd a<=9223372036854775807) (∀(x_5:Nat),Qh x_4 x_5 x_3 x_2 x_1 x->Qi x a x_3 x_2 x_5 x_4 x_1)))/\Bb (Z0<=Qd a/\Qd a<=Qd a/\Qn a<=281474976710656/\Qd a<=9223372036854775807) (∀(x_2:Nat),x_1≠x_2/\x≠x_2/\True->Qv x a/\Qx x a/\Qe x a/\Bb (Z0<=Qb a/\Qb a<=Qb a/\Qm a<=281474976710656/\Qb a<=9223372036854775807) (∀(x_3:Nat),QG x_2 x_3 x_1 x->Qv x a/\Qe x a/\Bb (Z0<=Qa a/\Qa a<=Qa a/\Qo a<=281474976710656/\Qa a<=9223372036854775807) (∀(x_4:Nat),Qg x_3 x_4 x_2 x_1 x->Qe x a/\∀(x_5:Nat),Qh x_4 x_5 x_3 x_2 x_1 x->Qi x a x_5 x_3 x_2 x_4 x_1)/\∀(x_4:Nat),Qg x_3 x_4 x_2 x_1 x->Qv x a/\Qe x a/\Bb (Z0<=Qa a/\Qa a<=Qa a/\Qo a<=281474976710656/\Qa a<=9223372036854775807) (∀(x_5:Nat),Qh x_4 x_5 x_3 x_2 x_1 x->Qi x a x_4 x_3 x_2 x_5 x_1))/\Bb (Z0<=Qa a/\Qa a<=Qa a/\Qo a<=281474976710656/\Qa a<=9223372036854775807) (∀(x_3:Nat),QG x_2 x_3 x_1 x->Qx x a/\Qe x a/\Bb (Z0<=Qb a/\Qb a<=Qb a/\Qm a<=281474976710656/\Qb a<=9223372036854775807) (∀(x_4:Nat),Qg x_3 x_4 x_2 x_1 x->Qe x a/\∀(x_5:Nat),Qh x_4 x_5 x_3 x_2 x_1 x->Qi x a x_5 x_4 x_2 x_3 x_1)/\∀(x_4:Nat),Qg x_3 x_4 x_2 x_1 x->Qx x a/\Qe x a/\Bb (Z0<=Qb a/\Qb a<=Qb a/\Qm a<=281474976710656/\Qb a<=9223372036854775807) (∀(x_5:Nat),Qh x_4 x_5 x_3 x_2 x_1 x->Qi x a x_4 x_5 x_2 x_3 x_1))/\∀(x_3:Nat),QG x_2 x_3 x_1 x->Qv x a/\Qx x a/\Qe x a/\Bb (Z0<=Qb a/\Qb a<=Qb a/\Qm a<=281474976710656/\Qb a<=9223372036854775807) (∀(x_4:Nat),Qg x_3 x_4 x_2 x_1 x->Qv x a/\Qe x a/\Bb (Z0<=Qa a/\Qa a<=Qa a/\Qo a<=281474976710656/\Qa a<=9223372036854775807) (∀(x_5:Nat),Qh x_4 x_5 x_3 x_2 x_1 x->Qi x a x_3 x_4 x_2 x_5 x_1))/\Bb (Z0<=Qa a/\Qa a<=Qa a/\Qo a<=281474976710656/\Qa a<=9223372036854775807) (∀(x_4:Nat),Qg x_3 x_4 x_2 x_1 x->Qx x a/\Qe x a/\Bb (Z0<=Qb a/\Qb a<=Qb a/\Qm a<=281474976710656/\Qb a<=9223372036854775807) (∀(x_5:Nat),Qh x_4 x_5 x_3 x_2 x_1 x->Qi x a x_3 x_5 x_2 x_4 x_1)))/\Bb (Z0<=Qa a/\Qa a<=Qa a/\Qo a<=281474976710656/\Qa a<=9223372036854775807) (∀(x_2:Nat),x_1≠x_2/\x≠x_2/\True->Qw x a/\Qx x a/\Qe x a/\Bb (Z0<=Qb a/\Qb a<=Qb a/\Qm a<=281474976710656/\Qb a<=9223372036854775807) (∀(x_3:Nat),QG x_2 x_3 x_1 x->Qw x a/\Qe x a/\Bb (Z0<=Qd a/\Qd a<=Qd a/\Qn a<=281474976710656/\Qd a<=9223372036854775807) (∀(x_4:Nat),Qg x_3 x_4 x_2 x_1 x->Qe x a/\∀(x_5:Nat),Qh x_4 x_5 x_3 x_2 x_1 x->Qi x a x_5 x_3 x_4 x_2 x_1)/\∀(x_4:Nat),Qg x_3 x_4 x_2 x_1 x->Qw x a/\Qe x a/\Bb (Z0<=Qd a/\Qd a<=Qd a/\Qn a<=281474976710656/\Qd a<=9223372036854775807) (∀(x_5:Nat),Qh x_4 x_5 x_3 x_2 x_1 x->Qi x a x_4 x_3 x_5 x_2 x_1))/\Bb (Z0<=Qd a/\Qd a<=Qd a/\Qn a<=281474976710656/\Qd a<=9223372036854775807) (∀(x_3:Nat),QG x_2 x_3 x_1 x->Qx x a/\Qe x a/\Bb (Z0<=Qb a/\Qb a<=Qb a/\Qm a<=281474976710656/\Qb a<=9223372036854775807) (∀(x_4:Nat),Qg x_3 x_4 x_2 x_1 x->Qe x a/\∀(x_5:Nat),Qh x_4 x_5 x_3 x_2 x_1 x->Qi x a x_5 x_4 x_3 x_2 x_1)/\∀(x_4:Nat),Qg x_3 x_4 x_2 x_1 x->Qx x a/\Qe x a/\Bb (Z0<=Qb a/\Qb a<=Qb a/\Qm a<=281474976710656/\Qb a<=9223372036854775807) (∀(x_5:Nat),Qh x_4 x_5 x_3 x_2 x_1 x->Qi x a x_4 x_5 x_3 x_2 x_1))/\∀(x_3:Nat),QG x_2 x_3 x_1 x->Qw x a/\Qx x a/\Qe x a/\Bb (Z0<=Qb a/\Qb a<=Qb a/\Qm a<=281474976710656/\Qb a<=9223372036854775807) (∀(x_4:Nat),Qg x_3 x_4 x_2 x_1 x->Qw x a/\Qe x a/\Bb (Z0<=Qd a/\Qd a<=Qd a/\Qn a<=281474976710656/\Qd a<=9223372036854775807) (∀(x_5:Nat),Qh x_4 x_5 x_3 x_2 x_1 x->Qi x a x_3 x_4 x_5 x_2 x_1))/\Bb (Z0<=Qd a/\Qd a<=Qd a/\Qn a<=281474976710656/\Qd a<=9223372036854775807) (∀(x_4:Nat),Qg x_3 x_4 x_2 x_1 x->Qx x a/\Qe x a/\Bb (Z0<=Qb a/\Qb a<=Qb a/\Qm a<=281474976710656/\Qb a<=9223372036854775807) (∀(x_5:Nat),Qh x_4 x_5 x_3 x_2 x_1 x->Qi x a x_3 x_5 x_4 x_2 x_1)))/\∀(x_2:Nat),x_1≠x_2/\x≠x_2/\True->Qv x a/\Qw x a/\Qx x a/\Qe x a/\Bb (Z0<=Qb a/\Qb a<=Qb a/\Qm a<=281474976710656/\Qb a<=9223372036854775807) (∀(x_3:Nat),QG x_2 x_3 x_1 x->Qv x a/\Qw x a/\Qe x a/\Bb (Z0<=Qd a/\Qd a<=Qd a/\Qn a<=281474976710656/\Qd a<=9223372036854775807) (∀(x_4:Nat),Qg x_3 x_4 x_2 x_1 x->Qv x a/\Qe x a/\Bb (Z0<=Qa a/\Qa a<=Qa a/\Qo a<=281474976710656/\Qa a<=9223372036854775807) (∀(x_5:Nat),Qh x_4 x_5 x_3 x_2 x_1 x->Qi x a x_2 x_3 x_4 x_5 x_1))/\Bb (Z0<=Qa a/\Qa a<=Qa a/\Qo a<=281474976710656/\Qa a<=9223372036854775807) (∀(x_4:Nat),Qg x_3 x_4 x_2 x_1 x->Qw x a/\Qe x a/\Bb (Z0<=Qd a/\Qd a<=Qd a/\Qn a<=281474976710656/\Qd a<=9223372036854775807) (∀(x_5:Nat),Qh x_4 x_5 x_3 x_2 x_1 x->Qi x a x_2 x_3 x_5 x_4 x_1)))/\Bb (Z0<=Qd a/\Qd a<=Qd a/\Qn a<=281474976710656/\Qd a<=9223372036854775807) (∀(x_3:Nat),QG x_2 x_3 x_1 x->Qv x a/\Qx x a/\Qe x a/\Bb (Z0<=Qb a/\Qb a<=Qb a/\Qm a<=281474976710656/\Qb a<=9223372036854775807) (∀(x_4:Nat),Qg x_3 x_4 x_2 x_1 x->Qv x a/\Qe x a/\Bb (Z0<=Qa a/\Qa a<=Qa a/\Qo a<=281474976710656/\Qa a<=9223372036854775807) (∀(x_5:Nat),Qh x_4 x_5 x_3 x_2 x_1 x->Qi x a x_2 x_4 x_3 x_5 x_1))/\Bb (Z0<=Qa a/\Qa a<=Qa a/\Qo a<=281474976710656/\Qa a<=9223372036854775807) (∀(x_4:Nat),Qg x_3 x_4 x_2 x_1 x->Qx x a/\Qe x a/\Bb (Z0<=Qb a/\Qb a<=Qb a/\Qm a<=281474976710656/\Qb a<=9223372036854775807) (∀(x_5:Nat),Qh x_4 x_5 x_3 x_2 x_1 x->Qi x a x_2 x_5 x_3 x_4 x_1)))/\Bb (Z0<=Qa a/\Qa a<=Qa a/\Qo a<=281474976710656/\Qa a<=9223372036854775807) (∀(x_3:Nat),QG x_2 x_3 x_1 x->Qw x a/\Qx x a/\Qe x a/\Bb (Z0<=Qb a/\Qb a<=Qb a/\Qm a<=281474976710656/\Qb a<=9223372036854775807) (∀(x_4:Nat),Qg x_3 x_4 x_2 x_1 x->Qw x a/\Qe x a/\Bb (Z0<=Qd a/\Qd a<=Qd a/\Qn a<=281474976710656/\Qd a<=9223372036854775807) (∀(x_5:Nat),Qh x_4 x_5 x_3 x_2 x_1 x->Qi x a x_2 x_4 x_5 x_3 x_1))/\Bb (Z0<=Qd a/\Qd a<=Qd a/\Qn a<=281474976710656/\Qd a<=9223372036854775807) (∀(x_4:Nat),Qg x_3 x_4 x_2 x_1 x->Qx x a/\Qe x a/\Bb (Z0<=Qb a/\Qb a<=Qb a/\Qm a<=281474976710656/\Qb a<=9223372036854775807) (∀(x_5:Nat),Qh x_4 x_5 x_3 x_2 x_1 x->Qi x a x_2 x_5 x_4 x_3 x_1))))/\∀(x_2:(Nat×Nat)×Nat×Nat),True->SM x_2.2.2/\SM x/\SM x_2.1.1/\QT a<=QT a/\KB a/\SM x_2.2.2/\SM x/\SM x_2.1.2/\QU a<=QU a/\KC a/\SM x/\(∃(x_3:Nat),x_3<=Ql a/\(Z0=(↑x_3:Int)/\True)/\(SM x_2.2.2/\QaC a x_2.1.1 x_2.1.2 x_2.2.1/\SM x_2.2.1/\(Q7 a/\Q7 a/\∀(i:Nat),Jv i a->clR (Kk a) N0 i=VF a x_3 i)/\QaD x_2.1.2 a x_2.1.1 x_1 x)/\True)/\∀(x_3:Nat),x_3<=Ql a->ifB (decide ((↑x_3:Int)<Qa a)) (Bb (Z0<=(↑x_3:Int)/\(↑x_3:Int)<Qa a) (∀(x_4:Nat),x_2.2.2≠x_4/\Qh x_2.2.1 x_4 x_2.1.2 x_2.1.1 x_1 x->SM x_4/\SM x_2.2.2/\SM x_4/\∃(x_5:Arr),((Arr.k (VG a x_3)=Yf x_5/\(QaF a x_3=QT x_5/\(∀(i:Nat),i<QaF a x_3->[ZI (GI (QaE a x_3) i)]=VE x_5 i)/\True)/\(QaH a x_3=QU x_5/\(∀(i:Nat),i<QaH a x_3->[ZI (GI (QaG a x_3) i)]=Vz x_5 i)/\True)/\(QaJ a x_3=Ql x_5/\(∀(i:Nat),i<QaJ a x_3->Arr.row (List.getD (QaI a x_3) i Vy)=QaK x_5 i)/\True)/\True)/\True)/\(True/\True)/\x_5∈Kk a/\∀(y:Unit),True->(SM x_2.2.2/\SM (QfA x_2.2.1 a))/\Bb (Z0<=(↑x_3:Int)/\(↑x_3:Int)<Qa a) (SM x_2.2.1/\Bb (Int.toNat (↑x_3:Int)<Ql a) ((SM (D.ref N0 x N0)/\SM (D.ref (max (N0+N1) N0) x_1 N0)/\SM (D.ref (17:Nat) x_2.2.2 N0)/\Qas a/\SM (ZI (Qa a))/\True)/\∃(y:Nat),y<=Ql a/\Ql a-y<Ql a-x_3/\(IntKind.wrap IntKind.i64 ((↑x_3:Int)+Z1)=(↑y:Int)/\True)/\(SM x_2.2.2/\QaC a x_2.1.1 x_2.1.2 x_2.2.1/\SM x_2.2.1/\(Q7 a/\Q7 a/\∀(i:Nat),Jv i a->BM (clR (Kk a) x_3) (Int.toNat (↑x_3:Int)) [Qau x_5,QaB x_5,Qat x_5,D.sl N4 (Ql x_5) (fun i=>QaK x_5 i) Mode.any] i=VF a y i)/\QaD x_2.1.2 a x_2.1.1 x_1 x)/\True)))) (SM x_2.1.1/\KB a/\Bb (QT a<=QT a) ((∀(i:Nat),i<QT a->(List.all (VE a i) fun (x:D)=>Yi x)=true)/\∀(t:Nat),SM x_2.1.2/\KC a/\Bb (QU a<=QU a) ((∀(i:Nat),i<QU a->(List.all (Vz a i) fun (x:D)=>Yi x)=true)/\∀(t:Nat),SM x_2.2.1/\Q7 a/\Bb (Ql a<=Ql a) ((∀(i:Nat),Jv i a->(List.all (VF a x_3 i) fun (x:D)=>Yi x)=true)/\∀(t:Nat),SM x_2.2.2/\SM x_1/\(SM x_1/\True)/\∃(y:Unit),True/\(VA a/\Qax a/\Qaz a/\(Q7 a/\(∀(i:Nat),Jv i a->VF a x_3 i=Ye a i)/\True)/\True)/\True/\True))))) (by kernel_rfl) ?_
 delta DA GI LN N0 N1 N4 NI SI SM Z0 Z1 ZI QT Qb Ye Qfz Qas Qv QU Vz Qat Qw Yf Qau Qm Qe Qd Qn QG Qa Qo Qg Qh VA VB Kk VC VD Yg Qav Yh KB VE Qaw Qax KC Ql Qay Qaz Q7 Jv QaA Qi QaB Qx QaC VF Vy QaD VG QaE QaF QaG QaH QaI QaJ QaK QfA Ju Yi Qfx Qfy Qar
 have da:(default:Arr)=Arr.mk 0 [] [] []:=rfl
 simp only[<- da,eq_self,implies_true,Int.toNat_natCast,Bn,Bd,decide_eq_true_eq,decide_eq_false_iff_not,true_and,and_true,exists_const,forall_const,Nat.le_refl]
 obtain ⟨l1,l2,l3⟩:=ha
 refine fun x x1 hx=>⟨?_,?_⟩
 ·repeat' (first | (refine⟨((_,_),_,_),rfl,rfl,⟨rfl,rfl,rfl⟩,rfl,fun _ _=>rfl,rfl,rfl⟩) | (refine And.intro ?_ ?_) | intro _ | omega)
 refine fun y=>⟨⟨0,Nat.zero_le _,rfl,fun _ _=>rfl⟩,fun i hi=>⟨fun hlt=>⟨⟨by omega,hlt⟩,fun x4 _=>⟨a.it.getD i default,⟨rfl,⟨rfl,fun _ _=>rfl⟩,⟨rfl,fun _ _=>rfl⟩,rfl,fun _ _=>rfl⟩,CC (by omega),⟨by omega,hlt⟩,by omega,i+1,by omega,by omega,Bc (by omega) (by omega),fun j hj=>?_⟩⟩,fun hge=>⟨fun _ _=>rfl,fun _ _=>rfl,fun j hj=>?_,fun j hj=>?_⟩⟩⟩
 ·by_cases e:j=i
  ·subst e
   rw[Oe (by omega)]
   simp only[BM,if_true]
   rfl
  ·simp only[BM,e,if_false]
   by_cases e2:j<i
   ·rw[Oe e2,Oe (by omega)]
   ·rw[Ba1 e2,Ba1 (by omega)]
 ·rw[Oe (by omega)];rfl
 ·rw[Oe (by omega)];rfl
theorem OT(a:Arr):wkL a.row2 a.row1:=by
 simp only[Arr.row1,Arr.row2,gsl,isl,wkL,wkD,Be,Ba]
 exact⟨⟨by simp[kEq],trivial⟩,⟨by simp,trivial,fun i _=>by simp[kEq],by simp[Bw]⟩,⟨by simp,trivial,fun i _=>by simp[kEq],by simp[Bw]⟩,⟨by simp,trivial,fun i _=>UD _,by simp[Bw]⟩,trivial⟩
theorem OO:∀(l:List Arr) (d w:Int) (r:Int×Int),B3 l d w=some r->∀x∈l,(Bi x).1=0
 | [],_,_,_,_,x,hx=>by cases hx
 |y::l,d,w,r,h,x,hx=>by
  rw[B3] at h
  split at h
  ·cases h
  ·rename_i hy
   rcases List.mem_cons.1 hx with rfl | hx
   ·simpa using hy
   ·exact OO l _ _ r h x hx
theorem C4{k:Int}{s n:List Int}{is:List Arr}(h:(Bi (.mk k s n is)).1=0):s.length<=8/\n.length<=65536/\is.length<=65536/\∀x∈is,(Bi x).1=0:=by
 rw[Bi] at h
 by_cases h0:Bx k s n.length is.length≠0
 ·rw[if_pos h0] at h;exact (h0 h).elim
 ·rw[if_neg h0] at h
  have h0:Bx k s n.length is.length=0:=by simpa using h0
  have hs:=Eg h0
  refine⟨BaJ h0,hs.1,hs.2,?_⟩
  by_cases hb:n.any (CR k)=true
  ·rw[if_pos hb] at h;simp at h
  ·rw[if_neg hb] at h
   cases hr:B3 is 0 ((n.length:Int)+is.length) with
   |none=>rw[hr] at h;simp at h
   |some r=>exact OO _ _ _ r hr
theorem O6:∀(a:Arr),(Bi a).1=0->ACalls Try.prog 49 [.agg a.row1] ⟨[],[]⟩ (SpecR (sCl Arr.row1 Arr.row1 (fun _=>True)) a)
 |.mk k s n is,h=>by
  obtain ⟨h1,h2,h3,h4⟩:=C4 h
  have hc:ConOk Try.prog (Rg (Arr.mk k s n is).it):=by
   intro k' ds S A hk
   unfold Rg at hk
   split at hk
   ·injection hk with hk;subst hk
    refine ConOk.plain (fun (b:Arr) hb=>?_) rfl rfl
    have hb':b∈is:=hb
    exact (O6 b (h4 b hb')).mono fun _ _ ⟨y,q1,q2,q3⟩=>⟨y,q1,q2,q3⟩
   ·cases hk
  have hm:=BcX (.mk k s n is) ⟨by show n.length<=_;omega,by show is.length<=_;omega,by show s.length<=_;omega⟩ hc
  have hm2:ACalls Try.prog 49 [.agg (Arr.mk k s n is).row1] ⟨[],[]⟩ (SpecR (sCl Arr.row2 Arr.row2 (fun _=>True)) (.mk k s n is)):=by
   refine ACalls.wkArgs hm ?_
   simp only[sCl,wkL,wkD]
   exact⟨Ck _,trivial⟩
  refine ACalls.wkEnd hm2 fun r S' ⟨y,q1,q2,q3⟩=>?_
  subst q2 q3
  refine⟨.ret (.agg (Arr.mk k s n is).row1),fun C e he=>?_,⟨(),trivial,rfl,rfl⟩⟩
  cases e with
  |returned v =>
   refine EJ (.agg (Arr.mk k s n is).row2) _ ?_ C v he
   simp only[wkD]
   exact OT _
  |panicked _=>exact he.elim
  |outgrown=>exact he.elim
termination_by a=>SizeOf.sizeOf a
decreasing_by
 have:=List.sizeOf_lt_of_mem hb'
 simp;omega
def CD(k:Nat)(ds:List D)(d:D):Prop:=ACalls Try.prog k ds ⟨[],[]⟩ (SpecR (sC ds d) ())
def CS(k:Nat)(ds:List D)(S:St)(d:D):Prop:=ACalls Try.prog k ds S (fun r S'=>r=.ret d/\S'=S)
theorem CS.frame{k:Nat}{ds:List D}{S:St}{d:D}(F:St)(h:CS k ds S d):CS k ds (S.add F) d:=by
 refine ((ACalls.frame h F).from fun C F' w H=>H).mono ?_
 rintro r S' ⟨S0,⟨rfl,rfl⟩,rfl⟩
 exact⟨rfl,rfl⟩
theorem CD.at_{k:Nat}{ds:List D}{d:D}(h:CD k ds d)(S:St):CS k ds S d:=ACalls.whole S h
theorem CS.wk{k:Nat}{ds us:List D}{S:St}{d:D}(h:CS k us S d)(hw:wkL ds us):CS k ds S d:=ACalls.wkArgs h hw
theorem CS.cd{k:Nat}{ds:List D}{d:D}(h:CS k ds ⟨[],[]⟩ d):CD k ds d:=ACalls.mono h fun _ _ ⟨h1,h2⟩=>⟨(),trivial,h1,h2⟩
theorem Es{k : Nat}{β : Type}{ds : List D}{S : St}{d : β -> D}{p : β -> Prop}(h : ∀x, p x -> CS k ds S (d x)) :
  (∀x,(pE ds S d p).pre x->ACalls Try.prog k ((pE ds S d p).args x) ((pE ds S d p).st x) (SpecR (pE ds S d p) x))/\(∀x,(pE ds S d p).fit=some x->(pE ds S d p).pre x->Bo ds ((pE ds S d p).args x)/\leS ((pE ds S d p).st x) S)/\((pE ds S d p).all=true->∀x,(pE ds S d p).pre x->Bo ds ((pE ds S d p).args x)/\(pE ds S d p).st x=S) :=
 ⟨fun x hp=>ACalls.mono (h x hp) fun _ _ ⟨h1,h2⟩=>⟨(),trivial,h1,h2⟩,fun _ e=>(by cases e),fun _ _ _=>⟨Bl ds,rfl⟩⟩
def pA(ds:List D)(S:St)(d:D)(p:Prop):FnSpec:=pE (β:=Unit) ds S (fun _=>d) fun _=>p
theorem BB{k : Nat}{ds : List D}{S : St}{d : D}{p : Prop}(h : p -> CS k ds S d) :
  (∀x,(pA ds S d p).pre x->ACalls Try.prog k ((pA ds S d p).args x) ((pA ds S d p).st x) (SpecR (pA ds S d p) x))/\(∀x,(pA ds S d p).fit=some x->(pA ds S d p).pre x->Bo ds ((pA ds S d p).args x)/\leS ((pA ds S d p).st x) S)/\((pA ds S d p).all=true->∀x,(pA ds S d p).pre x->Bo ds ((pA ds S d p).args x)/\(pA ds S d p).st x=S) :=
 Es fun _ hp=>h hp
def sS(ds:List D)(S:St)(d:D):FnSpec where
 β:=Unit
 α:=Unit
 args:=fun _=>ds
 st:=fun _=>S
 pre:=fun _=>True
 post:=fun _ _=>True
 res:=fun _ _=>.ret d
 out:=fun _ _=>S
theorem CS.of{k:Nat}{ds:List D}{S:St}{d:D}(h:ACalls Try.prog k ((sS ds S d).args ()) ((sS ds S d).st ()) (SpecR (sS ds S d) ())):CS k ds S d :=
 ACalls.mono h fun _ _ ⟨_,_,h2,h3⟩=>⟨h2,h3⟩
theorem CS.to{k:Nat}{ds:List D}{S S':St}{d:D}(h:CS k ds S' d)(h1:StTo S S')(h2:StTo S' S):CS k ds S d :=
 ACalls.to (ACalls.from h h1) fun r S0 ⟨e1,e2⟩=>⟨S,by rw[e2];exact h2,e1,rfl⟩
def WB{α:Type}(p:α->Bool):List α->Int->Int
 | [],_=>-1
 |x::r,i=>if p x then i else WB p r (i+1)
structure IdxG {α:Type} (p:α->Bool) (l:List α) (i:Nat):Prop where
 hi:i<=l.length
 hg:WB p (l.drop i) i=WB p l 0
theorem IdxG.step{α:Type}[Inhabited α]{p:α->Bool}{l:List α}{i:Nat}(h:IdxG p l i)(hlt:i<l.length):(p (l.getD i default)=true->WB p l 0=i)/\(p (l.getD i default)=false->IdxG p l (i+1)):=by
 have hg:=h.hg
 rw[Cb hlt,WB] at hg
 refine⟨fun e=>?_,fun e=>?_⟩
 ·rw[if_pos e] at hg;exact hg.symm
 ·rw[if_neg (by rw[e];exact Bool.false_ne_true)] at hg;exact⟨by omega,hg⟩
theorem IdxG.done{α:Type}{p:α->Bool}{l:List α}{i:Nat}(h:IdxG p l i)(hge:¬(i:Int)<l.length):WB p l 0 = -1:=by
 have hg:=h.hg
 have:i=l.length:=by have:=h.hi;omega
 rw[this,List.drop_length,WB] at hg
 exact hg.symm
theorem CD.wk{k:Nat}{ds us:List D}{d:D}(h:CD k us d)(hw:wkL ds us):CD k ds d:=Ben hw h
def _root_.Go.Ab.endW(d:D)(e:AEnd)(_:St):Prop:=match e with
 |.ret d'=>wkD d' d
 |_=>False
theorem CD.ofW{k:Nat}{ds:List D}{d:D}(h:ACalls Try.prog k ds ⟨[],[]⟩ (Go.Ab.endW d)):CD k ds d:=by
 refine (ACalls.wkEnd h (R':=fun r _=>r=.ret d) fun r S' hr=>?_).to ?_
 ·refine⟨.ret d,fun C e he=>?_,rfl⟩
  unfold Go.Ab.endW at hr
  split at hr
  ·cases e with
   |returned v=>exact EJ _ d hr C v he
   |panicked _=>exact he.elim
   |outgrown=>exact he.elim
  ·exact hr.elim
 ·rintro r S' rfl
  exact⟨⟨[],[]⟩,fun C F w H=>H.le ⟨List.nil_sublist _,List.nil_sublist _⟩,(),trivial,rfl,rfl⟩
def prL:List Nat->Nat
 | []=>1
 |d::r=>d*prL r
def BL:List Nat->Nat->List Nat
 | [],_=>[]
 |d::r,m=>m / prL r % d::BL r m
def hor:Nat->List Nat->List Nat->Nat
 |a,d::s,i::is=>hor (a*d+i) s is
 |a,_,_=>a
theorem EM(m:Nat):∀s,(BL s m).length=s.length
 | []=>rfl
 |d::r=>by rw[BL,List.length_cons,List.length_cons,EM m r]
theorem Ur:∀(s:List Nat) (a m:Nat),hor a s (BL s m)=a*prL s+m % prL s
 | [],a,m=>by simp[hor,prL,Nat.mod_one]
 |d::r,a,m=>by
  rw[BL,hor,Ur r,prL,Nat.add_mul,Nat.mul_assoc,Nat.add_assoc,Nat.mul_comm d (prL r),Nat.mod_mul,Nat.add_comm (m % prL r),Nat.mul_comm (prL r) (m / prL r % d),Nat.mul_comm (prL r) d]
theorem EI:∀(s:List Nat) (m i:Nat),i<s.length->(BL s m).getD i 0=m / prL (s.drop (i+1)) % s.getD i 0
 |d::r,m,0,_=>by simp[BL]
 |d::r,m,i+1,h=>by
  have:=EI r m i (by simpa using h)
  simpa[BL] using this
theorem I9:∀a b:List Nat,prL (a++b)=prL a*prL b
 | [],b=>by simp[prL]
 |d::a,b=>by rw[List.cons_append,prL,I9 a b,prL,Nat.mul_assoc]
theorem Ee{s:List Nat}{i:Nat}(h:i<s.length):prL (s.drop i)=s.getD i 0*prL (s.drop (i+1)):=by
 rw[List.drop_eq_getElem_cons h,prL]
 simp[List.getD_eq_getElem?_getD,h]
theorem CW{s:List Nat}{i j:Nat}(h:i<=j):prL (s.drop j) ∣ prL (s.drop i):=by
 have:s.drop i=(s.drop i).take (j-i)++s.drop j:=by
  have h2:(s.drop i).drop (j-i)=s.drop j:=by rw[List.drop_drop];congr 1;omega
  rw[<- h2,List.take_append_drop]
 rw[this,I9]
 exact Nat.dvd_mul_left _ _
theorem UK{s:List Nat}{m:Nat}{l:List Nat}(hl:l.length=s.length)(h:∀i,i<s.length->l.getD i 0=m / prL (s.drop (i+1)) % s.getD i 0):l=BL s m:=by
 apply List.ext_getElem (by rw[hl,EM])
 intro i h1 h2
 have h3:=h i (by omega)
 rw[<- EI s m i (by omega)] at h3
 simpa[List.getD_eq_getElem?_getD,h1,h2] using h3
structure Odo (s:List Nat) (m j:Nat) (cur:List Nat):Prop where
 len:cur.length=s.length
 le:j<=s.length
 low:∀i,i<j->cur.getD i 0=m / prL (s.drop (i+1)) % s.getD i 0
 high:∀i,j<=i->i<s.length->cur.getD i 0=0
 dvd:prL (s.drop j) ∣ m+1
theorem Odo.zero(s:List Nat)(m:Nat):Odo s m s.length (BL s m) :=
 ⟨EM m s,Nat.le_refl _,fun i hi=>EI s m i hi,fun i h1 h2=>by omega,by rw[List.drop_length];exact Nat.one_dvd _⟩
theorem RO{a b:Nat}(h:¬b ∣ a+1):(a+1) / b=a / b:=by
 rcases Nat.eq_zero_or_pos b with rfl | hb
 ·simp
 ·have h1:=Nat.div_add_mod (a+1) b
  have h2:(a+1) % b≠0:=fun q=>h (Nat.dvd_of_mod_eq_zero q)
  have h3:=Nat.mod_lt (a+1) hb
  have e:a=b*((a+1) / b)+((a+1) % b-1):=by omega
  generalize (a+1) / b=q at *
  generalize (a+1) % b=r at *
  rw[e,Nat.mul_add_div hb,Nat.div_eq_of_lt (by omega)]
  try rfl
theorem Mx{a b:Nat}(hb:0<b)(h:b ∣ a+1):(a+1) / b=a / b+1:=by
 obtain ⟨q,e⟩:=h
 have hq:0<q:=by
  rcases Nat.eq_zero_or_pos q with rfl | h
  ·simp at e
  ·exact h
 obtain ⟨p,rfl⟩:∃p,q=p+1:=⟨q-1,by omega⟩
 have e2:a=b*p+(b-1):=by rw[Nat.mul_add,Nat.mul_one] at e;omega
 rw[e,Nat.mul_div_cancel_left _ hb,e2,Nat.mul_add_div hb,Nat.div_eq_of_lt (by omega)]
 try rfl
theorem Gc{l:List Nat}{a v:Nat}(i:Nat)(h:a<l.length):(l.set a v).getD i 0=if i=a then v else l.getD i 0:=by
 simp only[List.getD_eq_getElem?_getD,List.getElem?_set]
 by_cases e:a=i
 ·subst e;simp[h]
 ·simp[e,Ne.symm e]
theorem Odo.stop{s:List Nat}{m a:Nat}{cur:List Nat}(h:Odo s m (a+1) cur)(hp:0<prL s)(hlt:cur.getD a 0+1<s.getD a 0):cur.set a (cur.getD a 0+1)=BL s (m+1):=by
 have ha:a<s.length:=h.le
 have hP:0<prL (s.drop (a+1)):=Nat.pos_of_dvd_of_pos (CW (Nat.zero_le _)) (by simpa using hp)
 have hc:=h.low a (Nat.lt_succ_self a)
 have hdiv:=Mx hP h.dvd
 have hmod:(m / prL (s.drop (a+1))+1) % s.getD a 0=m / prL (s.drop (a+1)) % s.getD a 0+1:=by
  rw[Nat.add_mod,Nat.mod_eq_of_lt (show 1<s.getD a 0 by omega),Nat.mod_eq_of_lt (by rw[<- hc];exact hlt)]
 refine UK (by rw[List.length_set];exact h.len) fun i hi=>?_
 rw[Gc i (by rw[h.len];exact ha)]
 by_cases e:i=a
 ·subst e
  rw[if_pos rfl,hdiv,hmod,hc]
 ·rw[if_neg e]
  by_cases hia:i<a
  ·have hn:¬prL (s.drop (i+1)) ∣ m+1:=fun q=>by
    have q2:prL (s.drop a) ∣ m+1:=Nat.dvd_trans (CW (by omega)) q
    rw[Ee ha] at q2
    obtain ⟨c,hc2⟩:=q2
    have:(m+1) / prL (s.drop (a+1))=s.getD a 0*c:=by
     rw[hc2,Nat.mul_comm (s.getD a 0),Nat.mul_assoc,Nat.mul_div_cancel_left _ hP]
    rw[hdiv] at this
    have h0:(m / prL (s.drop (a+1))+1) % s.getD a 0=0:=by rw[this,Nat.mul_mod_right]
    omega
   rw[RO hn,h.low i (by omega)]
  ·have hd:prL (s.drop i) ∣ m+1:=Nat.dvd_trans (CW (by omega)) h.dvd
   rw[h.high i (by omega) hi]
   rw[Ee hi] at hd
   obtain ⟨c,hc2⟩:=hd
   have hPi:0<prL (s.drop (i+1)):=Nat.pos_of_dvd_of_pos (CW (Nat.zero_le _)) (by simpa using hp)
   have:(m+1) / prL (s.drop (i+1))=s.getD i 0*c:=by
    rw[hc2,Nat.mul_comm (s.getD i 0),Nat.mul_assoc,Nat.mul_div_cancel_left _ hPi]
   rw[this,Nat.mul_mod_right]
theorem Odo.carry{s:List Nat}{m a:Nat}{cur:List Nat}(h:Odo s m (a+1) cur)(hp:0<prL s)(hge:¬cur.getD a 0+1<s.getD a 0):Odo s m a (cur.set a 0):=by
 have ha:a<s.length:=h.le
 have hP:0<prL (s.drop (a+1)):=Nat.pos_of_dvd_of_pos (CW (Nat.zero_le _)) (by simpa using hp)
 have hc:=h.low a (Nat.lt_succ_self a)
 have hs:0<s.getD a 0:=by
  have:prL (s.drop a) ∣ prL (s.drop 0):=CW (Nat.zero_le _)
  have:=Nat.pos_of_dvd_of_pos this (by simpa using hp)
  rw[Ee ha] at this
  exact Nat.pos_of_ne_zero fun q=>by rw[q,Nat.zero_mul] at this;exact absurd this (Nat.lt_irrefl 0)
 refine⟨by rw[List.length_set];exact h.len,by omega,fun i hi=>?_,fun i h1 h2=>?_,?_⟩
 ·rw[Gc i (by rw[h.len];exact ha),if_neg (by omega)]
  exact h.low i (by omega)
 ·rw[Gc i (by rw[h.len];exact ha)]
  split
  ·rfl
  ·exact h.high i (by omega) h2
 ·rw[Ee ha]
  obtain ⟨c,hc2⟩:=h.dvd
  have hdiv:=Mx hP h.dvd
  have e:(m+1) / prL (s.drop (a+1))=c:=by rw[hc2,Nat.mul_div_cancel_left _ hP]
  have hm:=Nat.mod_lt (m / prL (s.drop (a+1))) hs
  have hd:s.getD a 0 ∣ c:=by
   rw[<- e,hdiv]
   have h2:=Nat.div_add_mod (m / prL (s.drop (a+1))) (s.getD a 0)
   have h3:m / prL (s.drop (a+1)) % s.getD a 0=s.getD a 0-1:=by omega
   refine⟨m / prL (s.drop (a+1)) / s.getD a 0+1,?_⟩
   rw[Nat.mul_add,Nat.mul_one]
   omega
  obtain ⟨q,rfl⟩:=hd
  rw[hc2,Nat.mul_comm (s.getD a 0) (prL _)]
  exact⟨q,by rw[Nat.mul_assoc]⟩
def pzL:List Int->Nat
 | []=>1
 |d::r=>if d=0 then pzL r else d.toNat*pzL r
theorem Wr:∀l:List Int,(∀d∈l,0<=d)->1<=pzL l
 | [],_=>Nat.le_refl _
 |d::r,h=>by
  have h1:=Wr r fun x hx=>h x (by simp[hx])
  have h2:=h d (by simp)
  rw[pzL]
  split
  ·exact h1
  ·exact Nat.mul_pos (by omega) h1
theorem In:∀(l:List Int) (p:Nat) (q:Int),1<=p->p<=65536->(goO l p=some q↔(∀d∈l,0<=d/\d<=65536)/\p*pzL l<=65536/\q=((p*pzL l:Nat):Int))
 | [],p,q,h1,h2=>by
  simp only[goO,pzL,Nat.mul_one,Option.some.injEq]
  constructor
  ·rintro rfl;exact⟨fun _ h=>(nomatch h),h2,rfl⟩
  ·rintro ⟨_,_,h⟩;exact h.symm
 |d::r,p,q,h1,h2=>by
  rw[goO]
  by_cases hd:d<0\/65536<d
  ·rw[if_pos hd]
   constructor
   ·intro h;cases h
   ·rintro ⟨h,_⟩
    have:=h d (by simp)
    omega
  ·rw[if_neg hd]
   by_cases h0:d=0
   ·rw[if_pos h0,In r p q h1 h2,pzL,if_pos h0]
    simp only[List.forall_mem_cons]
    constructor
    ·rintro ⟨a,b⟩;exact⟨⟨by omega,a⟩,b⟩
    ·rintro ⟨⟨_,a⟩,b⟩;exact⟨a,b⟩
   ·rw[if_neg h0]
    have e:(p:Int)*d=((p*d.toNat:Nat):Int):=by
     rw[Int.natCast_mul,Int.toNat_of_nonneg (by omega)]
    rw[e,pzL,if_neg h0,<- Nat.mul_assoc]
    by_cases hb:65536<((p*d.toNat:Nat):Int)
    ·rw[if_pos hb]
     constructor
     ·intro h;cases h
     ·rintro ⟨a,b,_⟩
      have:=Wr r fun x hx=>(a x (by simp[hx])).1
      have:p*d.toNat*1<=p*d.toNat*pzL r:=Nat.mul_le_mul_left _ this
      omega
    ·rw[if_neg hb,In r (p*d.toNat) q (Nat.mul_pos h1 (by omega)) (by omega)]
     simp only[List.forall_mem_cons]
     constructor
     ·rintro ⟨a,b⟩;exact⟨⟨by omega,a⟩,b⟩
     ·rintro ⟨⟨_,a⟩,b⟩;exact⟨a,b⟩
theorem Bq(l:List Int):Bk l=true↔l.length<=8/\(∀d∈l,0<=d/\d<=65536)/\pzL l<=65536:=by
 unfold Bk
 rw[Bool.and_eq_true,decide_eq_true_iff,Option.isSome_iff_exists]
 have h:=fun q=>In l 1 q (Nat.le_refl 1) (by omega)
 simp only[Nat.one_mul] at h
 constructor
 ·rintro ⟨h1,q,hq⟩
  obtain ⟨a,b,_⟩:=(h q).1 hq
  exact⟨h1,a,b⟩
 ·rintro ⟨h1,a,b⟩
  exact⟨h1,_,(h _).2 ⟨a,b,rfl⟩⟩
def shN(l:List Int):List Nat:=l.map Int.toNat
theorem BaD:∀ {l:List Int},(∀d∈l,0<=d)->(l.contains 0=false)->pzL l=prL (shN l)
 | [],_,_=>rfl
 |d::r,h,hc=>by
  simp only[List.contains_cons,Bool.or_eq_false_iff,beq_eq_false_iff_ne] at hc
  have hd:d≠0:=fun e=>hc.1 e.symm
  rw[pzL,if_neg hd,BaD (fun x hx=>h x (by simp[hx])) hc.2]
  rfl
theorem Tl:∀ {l:List Int},l.contains 0=true->prL (shN l)=0
 |d::r,h=>by
  rw[List.contains_cons,Bool.or_eq_true,beq_iff_eq] at h
  show d.toNat*prL (shN r)=0
  rcases h with h | h
  ·rw[<- h];simp
  ·rw[Tl h,Nat.mul_zero]
theorem Gr{l:List Int}(h:Bk l=true):BU l=(prL (shN l):Nat):=by
 obtain ⟨h1,h2,h3⟩:=(Bq l).1 h
 unfold BU
 cases hc:l.contains 0 with
 |true=>rw[if_pos rfl,Tl hc];rfl
 |false =>
  have h4:=(In l 1 _ (Nat.le_refl 1) (by omega)).2 ⟨h2,by simpa using h3,rfl⟩
  have h5:goO l 1=some ((pzL l:Nat):Int):=by simpa using h4
  rw[h5,BaD (fun d hd=>(h2 d hd).1) hc]
  simp
theorem WP{d n:Int}{r:List Int}(h:Bk (d::r)=true)(h0:0<=n)(hn:n<=d):Bk (n::r)=true:=by
 obtain ⟨h1,h2,h3⟩:=(Bq _).1 h
 rw[Bq]
 have hd:=h2 d (by simp)
 refine⟨h1,fun x hx=>?_,?_⟩
 ·rcases List.mem_cons.1 hx with rfl | hx
  ·exact⟨h0,by omega⟩
  ·exact h2 x (by simp[hx])
 ·have hp:=Wr r fun x hx=>(h2 x (by simp[hx])).1
  rw[pzL] at h3 ⊢
  by_cases hn0:n=0
  ·rw[if_pos hn0]
   by_cases hd0:d=0
   ·rw[if_pos hd0] at h3;exact h3
   ·rw[if_neg hd0] at h3
    have:1*pzL r<=d.toNat*pzL r:=Nat.mul_le_mul_right _ (by omega)
    omega
  ·rw[if_neg hn0]
   have hd0:d≠0:=by omega
   rw[if_neg hd0] at h3
   have:n.toNat*pzL r<=d.toNat*pzL r:=Nat.mul_le_mul_right _ (by omega)
   omega
theorem MW:∀ {l l':List Arr},l'.Sublist l->∀ {d w d' w':Int} {r:Int×Int},B3 l d w=some r->d'<=d->w'<=w->w<=262145->∃r',B3 l' d' w'=some r'/\r'.1<=r.1/\r'.2<=r.2
 |_,_,.slnil,d,w,d',w',r,h,hd,hw,_=>by
  rw[B3] at h;injection h with h;subst h
  exact⟨(d',w'),by rw[B3],hd,hw⟩
 |_,_,.cons x s,d,w,d',w',r,h,hd,hw,hb=>by
  rw[B3] at h
  have hx:=B8 x
  split at h
  ·cases h
  ·refine MW s h ?_ ?_ ?_
   ·split<;>omega
   ·split<;>omega
   ·split<;>omega
 |_,_,.cons_cons x s,d,w,d',w',r,h,hd,hw,hb=>by
  rw[B3] at h ⊢
  have hx:=B8 x
  split at h
  ·cases h
  ·rename_i h0
   rw[if_neg h0]
   refine MW s h ?_ ?_ ?_
   ·split<;>split<;>omega
   ·split<;>split<;>omega
   ·split<;>omega
theorem BbF{k:Int}{s s' nu nu':List Int}{it it':List Arr}(h:(Bi (.mk k s nu it)).1=0)(hf:Bx k s' nu'.length it'.length=0)(h1:nu'.Sublist nu)(h2:it'.Sublist it):(Bi (.mk k s' nu' it')).1=0:=by
 obtain ⟨_,z1,z2,_⟩:=C4 h
 rw[Bi] at h ⊢
 rw[if_neg (by rw[hf];decide)]
 split at h
 ·rename_i h0;exact (h0 h).elim
 ·split at h
  ·simp at h
  ·rename_i hb
   have hb2:¬nu'.any (CR k)=true:=fun q=>by
    apply hb
    rw[List.any_eq_true] at q ⊢
    obtain ⟨x,hx,e⟩:=q
    exact⟨x,h1.subset hx,e⟩
   rw[if_neg hb2]
   cases hc:B3 it 0 ((nu.length:Int)+it.length) with
   |none=>rw[hc] at h;simp at h
   |some r =>
    rw[hc] at h
    simp only at h
    split at h
    ·simp at h
    ·rename_i hr
     have l1:=h1.length_le
     have l2:=h2.length_le
     have hb3:(nu.length:Int)+it.length<=262145:=by
      unfold Bx at hf
      omega
     obtain ⟨r',e1,e2,e3⟩:=MW h2 hc (Int.le_refl 0) (show (nu'.length:Int)+it'.length<=(nu.length:Int)+it.length by omega) hb3
     rw[e1]
     simp only
     rw[if_neg (by omega)]
def GH(a:Arr):Nat:=prL (shN a.sh.tail)
def tkA(n:Nat)(a:Arr):Arr:=.mk a.k ((n:Int)::a.sh.tail) (a.nu.take (n*GH a)) (a.it.take (n*GH a))
def drA(n:Nat)(a:Arr):Arr:=.mk a.k ((a.sh.headD 0-(n:Int))::a.sh.tail) (a.nu.drop (n*GH a)) (a.it.drop (n*GH a))
theorem BJ{a:Arr}(h:(Bi a).1=0):Bx a.k a.sh a.nu.length a.it.length=0:=by
 cases a with
 |mk k s n is =>
  rw[Bi] at h
  by_cases h0:Bx k s n.length is.length≠0
  ·rw[if_pos h0] at h;exact (h0 h).elim
  ·exact Decidable.not_not.1 h0
theorem M5(s:List Int):B1 s=0↔Bk s=true:=by
 rw[Bq]
 unfold B1
 have h:=fun q=>In s 1 q (Nat.le_refl 1) (by omega)
 simp only[Nat.one_mul] at h
 constructor
 ·intro e
  split at e
  ·omega
  ·split at e
   ·omega
   ·split at e
    ·rename_i h1 _ h3
     obtain ⟨q,hq⟩:=Option.isSome_iff_exists.1 h3
     obtain ⟨a,b,_⟩:=(h q).1 hq
     exact⟨by omega,a,b⟩
    ·omega
 ·rintro ⟨h1,h2,h3⟩
  have h5:goO s 1=some ((pzL s:Nat):Int):=by simpa using (h _).2 ⟨h2,h3,rfl⟩
  rw[if_neg (by omega),if_neg,h5]
  ·rfl
  ·intro q
   rw[List.any_eq_true] at q
   obtain ⟨x,hx,e⟩:=q
   have:=h2 x hx
   simp at e
   omega
theorem BN{k:Int}{s:List Int}{nn ni:Nat}:Bx k s nn ni=0↔(k=1\/k=2\/k=3)/\Bk s=true/\(if k=3 then ni else nn)=prL (shN s)/\(if k=3 then nn else ni)=0:=by
 unfold Bx
 by_cases hk:k=1\/k=2\/k=3
 ·rw[if_pos hk]
  by_cases hd:B1 s=0
  ·have hr:=(M5 s).1 hd
   rw[if_neg (by simpa using hd),Gr hr]
   simp only[hk,hr,true_and]
   split<;>split<;>omega
  ·rw[if_pos hd]
   have hr:¬Bk s=true:=fun q=>hd ((M5 s).2 q)
   simp only[hr]
   simpa using hd
 ·rw[if_neg hk]
  simp only[hk,false_and,iff_false]
  decide
theorem Ud(d i m:Nat)(r:List Nat):hor 0 (d::r) (i::BL r m)=i*prL r+m % prL r:=by
 rw[hor,Ur,Nat.zero_mul,Nat.zero_add]
theorem Mg{m n R:Nat}(h:m<n*R):m / R<n:=by
 have hR:0<R:=Nat.pos_of_ne_zero fun e=>by rw[e,Nat.mul_zero] at h;exact absurd h (Nat.not_lt_zero _)
 rw[Nat.div_lt_iff_lt_mul hR]
 exact h
theorem Bbs{n c d m:Nat}{r:List Nat}(h:m<n*prL r):hor 0 (d::r) ((m / prL r % n+c)::BL r m)=m+c*prL r:=by
 rw[Ud,Nat.mod_eq_of_lt (Mg h),Nat.add_mul,Nat.add_right_comm,Nat.mul_comm (m / prL r),Nat.div_add_mod]
theorem Baf{α:Type}(l:List α)(k i:Nat)(z:α):(l.drop k).getD i z=l.getD (k+i) z:=by
 simp[List.getD_eq_getElem?_getD]
theorem R7{α:Type}(l:List α){k i:Nat}(h:i<k)(z:α):(l.take k).getD i z=l.getD i z:=by
 simp[List.getD_eq_getElem?_getD,List.getElem?_take_of_lt h]
theorem BcQ{α : Type}{l : List α}{n d R m : Nat}(z : α)(hl : l.length=d*R)(hn : n<=d)(hm : m<d*R) :
  (l.drop (n*R)++l.take (n*R)).getD m z=l.getD ((m / R+n % d+d) % d*R+m % R) z:=by
 have hq:=Mg hm
 have hR:0<R:=Nat.pos_of_ne_zero fun e=>by rw[e,Nat.mul_zero] at hm;exact absurd hm (Nat.not_lt_zero _)
 have hdm:=Nat.div_add_mod m R
 have hmr:=Nat.mod_lt m hR
 have hnR:n*R<=d*R:=Nat.mul_le_mul_right _ hn
 have hmul:m=m / R*R+m % R:=by rw[Nat.mul_comm];exact hdm.symm
 clear hdm
 generalize m / R=q at *
 generalize m % R=r at *
 have hdl:(l.drop (n*R)).length=d*R-n*R:=by rw[List.length_drop,hl]
 have e0:(q+n % d+d) % d=if q+n<d then q+n else q+n-d:=by
  rw[Nat.add_mod_right]
  by_cases hnd:n=d
  ·rw[hnd,Nat.mod_self,Nat.add_zero,Nat.mod_eq_of_lt hq,if_neg (by omega)]
   omega
  ·rw[Nat.mod_eq_of_lt (show n<d by omega)]
   split
   ·rename_i h;exact Nat.mod_eq_of_lt h
   ·rename_i h
    rw[Nat.mod_eq_sub_mod (by omega),Nat.mod_eq_of_lt (by omega)]
 rw[e0,List.getD_eq_getElem?_getD]
 by_cases hlt:q+n<d
 ·rw[if_pos hlt]
  have h1:(q+n+1)*R<=d*R:=Nat.mul_le_mul_right _ hlt
  rw[Nat.add_mul,Nat.one_mul,Nat.add_mul] at h1
  rw[List.getElem?_append_left (by omega),List.getElem?_drop,<- List.getD_eq_getElem?_getD,Nat.add_mul]
  congr 1
  omega
 ·rw[if_neg hlt]
  have h1:d*R<=(q+n)*R:=Nat.mul_le_mul_right _ (by omega)
  rw[Nat.add_mul] at h1
  rw[List.getElem?_append_right (by omega),hdl,List.getElem?_take_of_lt (by omega),<- List.getD_eq_getElem?_getD,Nat.sub_mul,Nat.add_mul]
  congr 1
  omega
def roA(n:Nat)(a:Arr):Arr:=.mk a.k a.sh (a.nu.drop (n*GH a)++a.nu.take (n*GH a)) (a.it.drop (n*GH a)++a.it.take (n*GH a))
def joA(a b:Arr):Arr:=.mk a.k ((a.sh.headD 0+b.sh.headD 0)::a.sh.tail) (a.nu++b.nu) (a.it++b.it)
theorem Bdc{n:Nat}{a:Arr}(hr:a.sh≠[]):joA (drA n a) (tkA n a)=roA n a:=by
 cases a with
 |mk k s nu it =>
  cases s with
  |nil=>exact (hr rfl).elim
  |cons d r =>
   simp only[joA,roA,drA,tkA,Arr.k,Arr.sh,Arr.nu,Arr.it,List.tail_cons,List.headD_cons,GH]
   congr 2
   omega
theorem CS.behind{k:Nat}{ds:List D}{b pre:List (Nat×Nat×AObj)}{ts:List (Nat×Nat)}{d:D}(h:CS k ds ⟨b,[]⟩ d):CS k ds ⟨pre++b,ts⟩ d:=by
 refine ((ACalls.frame h ⟨pre,ts⟩).perm (S':=⟨pre++b,ts⟩) (by simpa[St.add] using List.perm_append_comm) (by simp[St.add])).to ?_
 rintro r S' ⟨S0,⟨rfl,rfl⟩,rfl⟩
 refine⟨⟨pre++b,ts⟩,fun C F w H=>H.add_perm (by simpa[St.add] using List.perm_append_comm) (by simp[St.add]),rfl,rfl⟩
noncomputable def Et1:Senv:=EC EA 31 4 [6,17] (fun id=>match id with | 2=>([0,1,2,3,4,5,6,7,8,9,10,11,12],[]) | _=>([],[]))
def QaL(a b:Nat):Bool:=decide (GI [(↑a:Int)] (Int.toNat (↑b:Int))<Z0)
def Yj(a b:Nat):Bool:=bif decide ((↑a:Int)<(NI N1)) then QaL b a else false
theorem Bd7(n ax i:Nat)(xc xy:Nat)(_o:AObj):CS 32 [.int .i64 (ax:Nat),.int .i64 (i:Nat),.ref 3 xc 0,.ref 1 xy 0] ⟨[(3,xc,.cells [isl [(n:Int)] .any])],[]⟩ (.int .i64 (i:Nat)):=by
 refine CS.of (Bp (A:=sS _ _ _) (x:=()) (E:=Et1) (eOk BA rfl) Try.func32 rfl (by kernel_rfl) rfl (by simp[sS,Et1,EC,E0]) ?_)
 refine Bt (T :=
  (SM xc/\ifB (decide ((↑ax:Int)<Z1)) (SM xc/\Bb (Z0<=(↑ax:Int)/\(↑ax:Int)<Z1) (QaL n ax=Yj ax n/\True)) (false=Yj ax n/\True))/\ifB (Yj ax n) False (True/\∃(y:Unit),True/\SM (↑i:Int)/\(SM xc/\((SM N1/\(∀(i:Nat),i<N1->SM [ZI (GI [(↑n:Int)] i)])/\True)/\True)/\True)/\True)) (by kernel_rfl) ?_
 delta GI N1 NI SM Z0 Z1 ZI QaL Yj
 simp only[eq_self,implies_true,Int.toNat_natCast,Bn,Bd,decide_eq_true_eq,decide_eq_false_iff_not,true_and,and_true,exists_const]
 have h1:decide ([(n:Int)].getD ax 0<0)=false:=by rcases ax with _ | ax<;>simp
 rw[h1]
 refine⟨⟨fun h=>⟨⟨by omega,h⟩,by simp⟩,fun _=>by simp⟩,by simp⟩
noncomputable def Edd1:Senv:=EC EA 24 3 [5,16] (fun _=>([],[]))
def QaM(a b:Nat):Bool:=decide (Z0<GI [(↑a:Int)] (Int.toNat (↑b:Int)))
def Yk(a b:Nat):Bool:=bif decide ((↑a:Int)<(NI N1)) then QaM b a else false
def QaN(a b:Nat):Prop:=(SM a/\((SM N1/\(∀(i:Nat),i<N1->SM [ZI (GI [(↑b:Int)] i)])/\True)/\True)/\True)/\True
theorem Bee(n ax i:Nat)(hb:i+n<=1000000)(xc:Nat):CS 33 [.int .i64 (ax:Nat),.int .i64 (i:Nat),.ref 3 xc 0] ⟨[(3,xc,.cells [isl [(n:Int)] .any])],[]⟩ (.int .i64 ((if ax=0 then i+n else i:Nat):Int)):=by
 refine CS.of (Bp (A:=sS _ _ _) (x:=()) (E:=Edd1) (eOk BA rfl) Try.func33 rfl (by kernel_rfl) rfl (by simp[sS,Edd1,EC,E0]) ?_)
 refine Bt (T :=
  (SM xc/\ifB (decide ((↑ax:Int)<Z1)) (SM xc/\Bb (Z0<=(↑ax:Int)/\(↑ax:Int)<Z1) (QaM n ax=Yk ax n/\True)) (false=Yk ax n/\True))/\ifB (Yk ax n) (SM xc/\Bb (Z0<=(↑ax:Int)/\(↑ax:Int)<Z1) (True/\∃(y:Unit),True/\IntKind.wrap IntKind.i64 ((↑i:Int)+GI [(↑n:Int)] (Int.toNat (↑ax:Int)))=(NI (if ax=N0 then i+n else i))/\QaN xc n)) (True/\∃(y:Unit),True/\(↑i:Int)=(NI (if ax=N0 then i+n else i))/\QaN xc n)) (by kernel_rfl) ?_
 delta GI N0 N1 NI SM Z0 Z1 ZI QaM Yk QaN
 simp only[eq_self,implies_true,Int.toNat_natCast,Bn,Bd,decide_eq_true_eq,decide_eq_false_iff_not,true_and,and_true,exists_const]
 have h2:decide (0<[(n:Int)].getD ax 0)=decide (ax=0/\0<n):=by rcases ax with _ | ax<;>simp
 rw[h2]
 have h3:(decide ((ax:Int)<((1:Nat):Int)))=decide (ax=0):=decide_eq_decide.2 (by omega)
 rw[h3]
 rcases ax with _ | ax
 ·have e:[(n:Int)].getD 0 0=n:=rfl
  refine⟨⟨fun _=>⟨⟨by omega,by omega⟩,rfl⟩,fun h=>absurd h (by omega)⟩,fun _=>⟨⟨by omega,by omega⟩,?_⟩,fun h=>?_⟩
  ·rw[if_pos rfl,e,Bc (by omega) (by omega)];push_cast;rfl
  ·have:n=0:=by
    rcases Nat.eq_zero_or_pos n with h0 | h0
    ·exact h0
    ·simp[h0] at h
   subst this;simp
 ·refine⟨⟨fun h=>absurd h (by omega),fun _=>rfl⟩,fun h=>(by simp at h),fun _=>by rw[if_neg (by omega)]⟩
def Bbm(k:Int):Arr:=if k=1 then .mk 1 [] [0] [] else if k=2 then .mk 2 [] [32] [] else .mk 3 [] [] [.mk 1 [0] [] []]
noncomputable def Efl:Senv:=EC EA 20 3 [4,5,9,13] (fun _=>([],[]))
def QaO:Prop:=SM N0/\(∀(i:Nat),i<N0->False)/\True
theorem BdA(s n:List Int)(l:List Arr):CD 51 [.agg [.int .i64 1,isl s .any,isl n .any,gsl 4 Arr.row l]] (.agg (Arr.mk 1 [] [0] []).row1):=by
 refine CD.ofW (Ig (E:=Efl) (eOk BA rfl) Try.func51 rfl (by kernel_rfl) rfl (by simp[Efl,EC,E0]) ?_)
 refine Bt (T :=
  ∀(x:Nat),True->∀(x_1:Nat),x≠x_1/\True->SM x/\SM x_1/\(SM x_1/\True)/\SM Z1/\QaO/\(SM N1/\(∀(i:Nat),i<N1->wkL (List.getD [[ZI Z0]] i []) [ZI (GI [Z0] i)])/\True)/\QaO/\True) (by kernel_rfl) ?_
 delta GI N0 N1 SM Z0 Z1 ZI QaO
 simp only[eq_self,ne_eq,true_and,and_true,forall_const]
 refine fun _ _ _=>⟨fun i h=>by omega,fun i h=>?_,fun i h=>by omega⟩
 obtain rfl:i=0:=by omega
 exact Bf _
def QaP:Prop:=SM N0/\(∀(i:Nat),i<N0->False)/\True
theorem Bdp(s n:List Int)(l:List Arr):CD 51 [.agg [.int .i64 2,isl s .any,isl n .any,gsl 4 Arr.row l]] (.agg (Arr.mk 2 [] [32] []).row1):=by
 refine CD.ofW (Ig (E:=Efl) (eOk BA rfl) Try.func51 rfl (by kernel_rfl) rfl (by simp[Efl,EC,E0]) ?_)
 refine Bt (T :=
  ∀(x:Nat),True->∀(x_1:Nat),x≠x_1/\True->SM x/\SM x_1/\(SM x_1/\True)/\SM (2:Int)/\QaP/\(SM N1/\(∀(i:Nat),i<N1->wkL (List.getD [[ZI 32]] i []) [ZI (GI [(32:Int)] i)])/\True)/\QaP/\True) (by kernel_rfl) ?_
 delta GI N0 N1 SM Z0 ZI QaP
 simp only[eq_self,ne_eq,true_and,and_true,forall_const]
 refine fun _ _ _=>⟨fun i h=>by omega,fun i h=>?_,fun i h=>by omega⟩
 obtain rfl:i=0:=by omega
 exact Bf _
def QaQ:Prop:=SM N0/\(∀(i:Nat),i<N0->False)/\True
theorem Bdu(s n:List Int)(l:List Arr):CD 51 [.agg [.int .i64 3,isl s .any,isl n .any,gsl 4 Arr.row l]] (.agg (Arr.mk 3 [] [] [.mk 1 [0] [] []]).row1):=by
 refine CD.ofW (Ig (E:=Efl) (eOk BA rfl) Try.func51 rfl (by kernel_rfl) rfl (by simp[Efl,EC,E0]) ?_)
 refine Bt (T :=
  ∀(x:Nat),True->∀(x_1:Nat),x≠x_1/\True->SM x/\SM x_1/\(SM x_1/\True)/\SM (3:Int)/\QaQ/\QaQ/\(SM N1/\(∀(i:Nat),i<N1->wkL (List.getD [[ZI Z1,D.sl N1 N1 (fun i=>List.getD [[ZI Z0]] i []) Mode.full,D.sl N1 N0 (fun x=>[]) Mode.nil,D.sl N1 N0 (fun x=>[]) Mode.nil]] i []) (Arr.row (GA [Arr.mk Z1 [Z0] [] []] i)))/\True)/\True) (by kernel_rfl) ?_
 delta DA GA N0 N1 SM Z0 Z1 ZI QaQ
 simp only[eq_self,ne_eq,true_and,and_true,forall_const]
 refine fun _ _ _=>⟨fun i h=>by omega,fun i h=>by omega,fun i h=>?_⟩
 obtain rfl:i=0:=by omega
 show wkL [D.int IntKind.i64 1,D.sl 1 1 (fun i=>[[D.int IntKind.i64 0]].getD i []) Mode.full,D.sl 1 0 (fun x=>[]) Mode.nil,D.sl 1 0 (fun x=>[]) Mode.nil] (Arr.mk 1 [0] [] []).row
 simp only[Arr.row,isl,GJ,wkL,wkD,Be,Ba,List.length_nil,List.length_cons]
 refine⟨⟨rfl,trivial⟩,⟨rfl,trivial,fun j hj=>?_,trivial⟩,⟨rfl,trivial,fun j hj=>by omega,trivial⟩,?_⟩
 ·obtain rfl:j=0:=by omega
  exact Bf _
 ·exact⟨⟨rfl,trivial,fun j hj=>absurd hj (by omega),trivial⟩,trivial⟩
theorem Beh(a:Arr)(h:a.k=1\/a.k=2\/a.k=3):CD 51 [.agg a.row1] (.agg (Bbm a.k).row1):=by
 cases a with
 |mk k s n l =>
  obtain rfl | rfl | rfl:k=1\/k=2\/k=3:=h
  ·exact BdA s n l
  ·exact Bdp s n l
  ·exact Bdu s n l
noncomputable def Esiz:Senv:=EC OL 8 1 [2,5] (fun _=>([],[]))
def QaR(a:List Int):Prop:=IntsP (LN a) fun i=>[ZI (GI a i)]
def QaS(a:List Int):List Int:=BF (LN a) fun i=>[ZI (GI a i)]
def QaT(a:List Int):Bool:=Bk (QaS a)
theorem I8(l:List Int)(h:Bk l=true):ACalls Try.prog 46 [isl l .any] ⟨[],[]⟩ (SpecR (sC [isl l .any] (.int .i64 (BU l))) ()):=by
 refine Bp (A:=sC _ _) (x:=()) (E:=Esiz) (eOk Iu rfl) Try.func46 rfl (by kernel_rfl) rfl (by simp[sC,Esiz,EC,E0]) ?_
 refine Bt (T :=
  QaR l/\∀(y:Unit),True->ifB (!QaT l) (RT ((-1:Int)=BU l)) ((QaR l/\QaT l=true)/\∀(y:Unit),True->RT (BU (QaS l)=BU l))) (by kernel_rfl) ?_
 delta GI LN Z0 ZI QaR QaS QaT RT
 simp only[Cr,Bn,true_and,and_true,exists_const,forall_const,h]
 exact⟨BI l,fun h=>(by simp at h),fun _=>BI l⟩
theorem M2(a:Arr):wkL a.row a.row1:=by
 cases a with
 |mk k s n is =>
  simp only[Arr.row,Arr.row1,Arr.k,Arr.sh,Arr.nu,Arr.it,gsl,isl,wkL,wkD,Be,Ba]
  refine⟨⟨by simp[kEq],trivial⟩,⟨by simp,trivial,fun i _=>by simp[kEq],by simp[Bw]⟩,⟨by simp,trivial,fun i _=>by simp[kEq],by simp[Bw]⟩,⟨by simp,by simp[Cc],fun i hi=>?_,by simp[Bw]⟩,trivial⟩
  have:(GJ is).getD i []=(is.getD i default).row:=by
   have hi:i<is.length:=by simpa[Cc] using hi
   rw[Cc];simp[List.getD_eq_getElem?_getD,hi]
  rw[this]
  exact Bf _
theorem Odo.last{s:List Nat}{m:Nat}{cur:List Nat}(h:Odo s m 0 cur)(hp:0<prL s):cur=BL s (m+1):=by
 refine UK h.len fun i hi=>?_
 rw[h.high i (Nat.zero_le _) hi]
 have hd:prL (s.drop i) ∣ m+1:=Nat.dvd_trans (CW (Nat.zero_le _)) h.dvd
 rw[Ee hi] at hd
 obtain ⟨c,hc2⟩:=hd
 have hPi:0<prL (s.drop (i+1)):=Nat.pos_of_dvd_of_pos (CW (Nat.zero_le _)) (by simpa using hp)
 have:(m+1) / prL (s.drop (i+1))=s.getD i 0*c:=by
  rw[hc2,Nat.mul_comm (s.getD i 0),Nat.mul_assoc,Nat.mul_div_cancel_left _ hPi]
 rw[this,Nat.mul_mod_right]
def hp(s:List Nat)(ix:Nat->Nat):Nat->Nat
 |0=>0
 |j+1=>hp s ix j*s.getD j 0+ix j
theorem BaP(s l:List Nat)(hl:l.length=s.length):∀j,j<=s.length->hor (hp s (fun i=>l.getD i 0) j) (s.drop j) (l.drop j)=hor 0 s l
 |0,_=>by simp[hp]
 |j+1,h=>by
  have hs:s.drop j=s.getD j 0::s.drop (j+1):=Cb (by omega)
  have hk:l.drop j=l.getD j 0::l.drop (j+1):=Cb (by omega)
  rw[<- BaP s l hl j (by omega),hs,hk,hor,hp]
theorem Bb4{s l:List Nat}(hl:l.length=s.length):hp s (fun i=>l.getD i 0) s.length=hor 0 s l:=by
 rw[<- BaP s l hl s.length (Nat.le_refl _),List.drop_length]
 cases l.drop s.length<;>rfl
theorem Bbb{s:List Nat}{j:Nat}(h:j<s.length):prL (s.take (j+1))=prL (s.take j)*s.getD j 0:=by
 have:s.take (j+1)=s.take j++[s.getD j 0]:=Bao h
 rw[this,I9,prL,prL,Nat.mul_one]
theorem Bc9{s:List Nat}{ix:Nat->Nat}(h:∀j,j<s.length->ix j<s.getD j 0):∀j,j<=s.length->hp s ix j<prL (s.take j)
 |0,_=>by simp[hp,prL]
 |j+1,hj=>by
  have h1:=Bc9 h j (by omega)
  have h2:=h j hj
  rw[Bbb hj,hp]
  calc hp s ix j*s.getD j 0+ix j<hp s ix j*s.getD j 0+s.getD j 0:=by omega
   _=(hp s ix j+1)*s.getD j 0:=by rw[Nat.add_mul,Nat.one_mul]
   _<=prL (s.take j)*s.getD j 0:=Nat.mul_le_mul_right _ h1
theorem Bdh{s:List Nat}{ix:Nat->Nat}(h:∀j,j<s.length->ix j<s.getD j 0)(hp0:0<prL s)(j:Nat)(hj:j<=s.length):hp s ix j<prL s:=by
 refine Nat.lt_of_lt_of_le (Bc9 h j hj) (Nat.le_of_dvd hp0 ?_)
 have:s=s.take j++s.drop j:=(List.take_append_drop j s).symm
 exact⟨prL (s.drop j),by rw[<- I9,<- this]⟩
theorem G6{s:List Nat}{f g:Nat->Nat}:∀j,(∀i,i<j->f i=g i)->hp s f j=hp s g j
 |0,_=>rfl
 |j+1,h=>by rw[hp,hp,G6 j fun i hi=>h i (by omega),h j (by omega)]
end
end Go.Proofs.Ytgkifngdbpjccaa
