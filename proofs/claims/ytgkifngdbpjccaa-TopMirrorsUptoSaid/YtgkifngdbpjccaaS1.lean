/- Functions of the given program and what each of them computes: lemmas towards the statement, their conditions stated with each of them. -/
import Derived.Test.YtgkifngdbpjccaaAb2
import Derived.Test.YtgkifngdbpjccaaProg
import Derived.KernelRfl
import Derived.Test.YtgkifngdbpjccaaRows
import Derived.Deep.DeepHandedRow
import Derived.Shelf.Lay
import Derived.Shelf.LaySoft
import Derived.Shelf.Lays2
import Derived.Shelf.Spec.SlicesInsert
import Derived.Shelf.Spec.SlicesInsertGrow
namespace Go.Proofs.Ytgkifngdbpjccaa
open Go Go.Ab
noncomputable section
noncomputable def tab:List (Nat×TI):=[
 (0,⟨TypeDesc.tuple #[],1,0,[.unk]⟩),
 (1,⟨TypeDesc.func #[] #[] false,1,8,[.nilf]⟩),
 (2,⟨TypeDesc.int .i64,1,8,[.int .i64 0]⟩),
 (3,⟨TypeDesc.int .i64,1,8,[.int .i64 0]⟩),
 (4,⟨TypeDesc.bool,1,1,[.bool false]⟩),
 (5,⟨TypeDesc.int .u8,1,1,[.int .u8 0]⟩),
 (9,⟨TypeDesc.string,1,16,[.str []]⟩),
 (20,⟨TypeDesc.interface #[],1,16,[.nili]⟩),
 (21,⟨TypeDesc.int .i32,1,4,[.int .i32 0]⟩),
 (22,⟨TypeDesc.int .i64,1,8,[.int .i64 0]⟩),
 (23,⟨TypeDesc.slice 3,1,24,[.sl 1 0 (fun _=>[]) .nil]⟩),
 (24,⟨TypeDesc.slice 26,1,24,[.sl 1 0 (fun _=>[]) .nil]⟩),
 (25,⟨Try.t25.desc,4,80,[.int .i64 0,.sl 1 0 (fun _=>[]) .nil,.sl 1 0 (fun _=>[]) .nil,.sl 1 0 (fun _=>[]) .nil]⟩),
 (26,⟨Try.t25.desc,4,80,[.int .i64 0,.sl 1 0 (fun _=>[]) .nil,.sl 1 0 (fun _=>[]) .nil,.sl 1 0 (fun _=>[]) .nil]⟩),
 (27,⟨TypeDesc.func #[26,3] #[4] false,1,8,[.nilf]⟩),
 (28,⟨TypeDesc.func #[] #[4] false,1,8,[.nilf]⟩),
 (29,⟨TypeDesc.int .i64,1,8,[.int .i64 0]⟩),
 (30,⟨TypeDesc.tuple #[26,29],1,0,[.unk]⟩),
 (31,⟨TypeDesc.func #[26,26] #[26,29] false,1,8,[.nilf]⟩),
 (32,⟨TypeDesc.func #[26] #[26] false,1,8,[.nilf]⟩),
 (33,⟨TypeDesc.func #[26,26] #[4] false,1,8,[.nilf]⟩),
 (34,⟨TypeDesc.func #[26] #[3] false,1,8,[.nilf]⟩),
 (35,⟨TypeDesc.func #[3] #[26] false,1,8,[.nilf]⟩),
 (36,⟨TypeDesc.func #[3,26] #[4] false,1,8,[.nilf]⟩),
 (37,⟨TypeDesc.func #[26] #[29] false,1,8,[.nilf]⟩),
 (38,⟨TypeDesc.func #[23] #[26] true,1,8,[.nilf]⟩),
 (39,⟨TypeDesc.func #[26,26,4] #[26,29] false,1,8,[.nilf]⟩),
 (40,⟨TypeDesc.func #[26,41] #[26] false,1,8,[.nilf]⟩),
 (41,⟨TypeDesc.func #[3,3] #[3] false,1,8,[.nilf]⟩),
 (42,⟨TypeDesc.func #[23,26,23] #[26] false,1,8,[.nilf]⟩),
 (43,⟨TypeDesc.func #[23,23] #[23] false,1,8,[.nilf]⟩),
 (44,⟨TypeDesc.func #[23,23] #[4] false,1,8,[.nilf]⟩),
 (45,⟨TypeDesc.func #[24,24,33] #[4] false,1,8,[.nilf]⟩),
 (46,⟨TypeDesc.tuple #[23,26,29],1,0,[.unk]⟩),
 (47,⟨TypeDesc.func #[26,26] #[23,26,29] false,1,8,[.nilf]⟩),
 (48,⟨TypeDesc.func #[23] #[23] false,1,8,[.nilf]⟩),
 (49,⟨TypeDesc.func #[3] #[3] false,1,8,[.nilf]⟩),
 (50,⟨TypeDesc.func #[26,23,41] #[26,29] false,1,8,[.nilf]⟩),
 (51,⟨TypeDesc.tuple #[29,3],1,0,[.unk]⟩),
 (52,⟨TypeDesc.func #[26] #[29,3] false,1,8,[.nilf]⟩),
 (53,⟨Try.t53.desc,5,104,[.int .i64 0,.sl 1 0 (fun _=>[]) .nil,.sl 1 0 (fun _=>[]) .nil,.sl 1 0 (fun _=>[]) .nil,.sl 1 0 (fun _=>[]) .nil]⟩),
 (54,⟨Try.t53.desc,5,104,[.int .i64 0,.sl 1 0 (fun _=>[]) .nil,.sl 1 0 (fun _=>[]) .nil,.sl 1 0 (fun _=>[]) .nil,.sl 1 0 (fun _=>[]) .nil]⟩),
 (55,⟨TypeDesc.func #[26,23,3,3] #[54] false,1,8,[.nilf]⟩),
 (56,⟨TypeDesc.func #[23] #[4] false,1,8,[.nilf]⟩),
 (57,⟨TypeDesc.func #[] #[3] false,1,8,[.nilf]⟩),
 (58,⟨TypeDesc.tuple #[3,3],1,0,[.unk]⟩),
 (59,⟨TypeDesc.func #[23,3] #[3,3] false,1,8,[.nilf]⟩),
 (60,⟨TypeDesc.array 2 3,2,16,[.int .i64 0,.int .i64 0]⟩),
 (61,⟨TypeDesc.func #[62,3,3] #[] false,1,8,[.nilf]⟩),
 (62,⟨TypeDesc.pointer 26,1,8,[.nilp]⟩),
 (63,⟨TypeDesc.func #[26] #[29,3,3] false,1,8,[.nilf]⟩),
 (64,⟨TypeDesc.func #[3] #[4] false,1,8,[.nilf]⟩),
 (65,⟨TypeDesc.tuple #[29,3,3],1,0,[.unk]⟩),
 (66,⟨TypeDesc.func #[23] #[3] false,1,8,[.nilf]⟩),
 (67,⟨TypeDesc.tuple #[23,4],1,0,[.unk]⟩),
 (68,⟨TypeDesc.func #[23,3] #[23,4] false,1,8,[.nilf]⟩),
 (69,⟨TypeDesc.tuple #[3,4],1,0,[.unk]⟩),
 (70,⟨TypeDesc.func #[23,23] #[3,4] false,1,8,[.nilf]⟩),
 (71,⟨TypeDesc.func #[23,3] #[23] false,1,8,[.nilf]⟩),
 (72,⟨TypeDesc.array 8 3,8,64,[.int .i64 0,.int .i64 0,.int .i64 0,.int .i64 0,.int .i64 0,.int .i64 0,.int .i64 0,.int .i64 0]⟩),
 (73,⟨TypeDesc.func #[23] #[29] false,1,8,[.nilf]⟩),
 (74,⟨TypeDesc.func #[23,3,23] #[23] true,1,8,[.nilf]⟩),
 (75,⟨TypeDesc.func #[23,64] #[4] false,1,8,[.nilf]⟩),
 (76,⟨TypeDesc.int .u64,1,8,[.int .u64 0]⟩),
 (77,⟨TypeDesc.tuple #[76,76],1,0,[.unk]⟩),
 (78,⟨TypeDesc.func #[76,76] #[76,76] false,1,8,[.nilf]⟩),
 (79,⟨TypeDesc.func #[23,3] #[] false,1,8,[.nilf]⟩),
 (80,⟨TypeDesc.func #[23,3] #[4] false,1,8,[.nilf]⟩),
 (81,⟨TypeDesc.func #[23,64] #[3] false,1,8,[.nilf]⟩),
 (82,⟨TypeDesc.int .u32,1,4,[.int .u32 0]⟩),
 (83,⟨TypeDesc.tuple #[82,82],1,0,[.unk]⟩),
 (84,⟨TypeDesc.func #[82,82] #[82,82] false,1,8,[.nilf]⟩),
 (85,⟨TypeDesc.int .u64,1,8,[.int .u64 0]⟩),
 (86,⟨TypeDesc.tuple #[85,85],1,0,[.unk]⟩),
 (87,⟨TypeDesc.func #[85,85] #[85,85] false,1,8,[.nilf]⟩),
 (88,⟨TypeDesc.func #[23,3] #[3] false,1,8,[.nilf]⟩),
 (89,⟨TypeDesc.func #[23] #[] false,1,8,[.nilf]⟩),
 (90,⟨TypeDesc.func #[] #[9] false,1,8,[.nilf]⟩),
 (98,⟨TypeDesc.func #[104,104] #[4] false,1,8,[.nilf]⟩),
 (99,⟨TypeDesc.pointer 5,1,8,[.nilp]⟩),
 (104,⟨TypeDesc.unsafePointer,1,8,[.nilp]⟩)]
theorem tc{P:Program}{l:List (Nat×TI)}{t:Nat}{d:TypeDesc}{a b:Nat}{z:List D}(h1:P.underlying t=some d)(h:TabOk P (E3 l))(h2:(P.info? t).map (fun i=>(i.size,i.bytes,i.zero.map fun z=>(z.cells.size,z.cells.toList.map Ir)))=some (a,b,some (a,z)):=by kernel_rfl):TabOk P (E3 ((t,⟨d,a,b,z⟩)::l)):=TabOk.cons (ti:=⟨d,a,b,z⟩) h1 h2 h
theorem Me:TabOk Try.prog (E3 tab) :=
 TabOk.cons (ti:=⟨_,_,_,_⟩) Try.underlying0 (by kernel_rfl) <|
 TabOk.cons (ti:=⟨_,_,_,_⟩) Try.underlying1 (by kernel_rfl) <|
 TabOk.cons (ti:=⟨_,_,_,_⟩) Try.underlying2 (by kernel_rfl) <|
 TabOk.cons (ti:=⟨_,_,_,_⟩) Try.underlying3 (by kernel_rfl) <|
 TabOk.cons (ti:=⟨_,_,_,_⟩) Try.underlying4 (by kernel_rfl) <|
 TabOk.cons (ti:=⟨_,_,_,_⟩) Try.underlying5 (by kernel_rfl) <|
 TabOk.cons (ti:=⟨_,_,_,_⟩) Try.underlying9 (by kernel_rfl) <|
 TabOk.cons (ti:=⟨_,_,_,_⟩) Try.underlying20 (by kernel_rfl) <|
 TabOk.cons (ti:=⟨_,_,_,_⟩) Try.underlying21 (by kernel_rfl) <|
 TabOk.cons (ti:=⟨_,_,_,_⟩) Try.underlying22 (by kernel_rfl) <|
 TabOk.cons (ti:=⟨_,_,_,_⟩) Try.underlying23 (by kernel_rfl) <|
 TabOk.cons (ti:=⟨_,_,_,_⟩) Try.underlying24 (by kernel_rfl) <|
 TabOk.cons (ti:=⟨_,_,_,_⟩) Try.underlying25 (by kernel_rfl) <|
 TabOk.cons (ti:=⟨_,_,_,_⟩) Try.underlying26 (by kernel_rfl) <|
 TabOk.cons (ti:=⟨_,_,_,_⟩) Try.underlying27 (by kernel_rfl) <|
 TabOk.cons (ti:=⟨_,_,_,_⟩) Try.underlying28 (by kernel_rfl) <|
 TabOk.cons (ti:=⟨_,_,_,_⟩) Try.underlying29 (by kernel_rfl) <|
 TabOk.cons (ti:=⟨_,_,_,_⟩) Try.underlying30 (by kernel_rfl) <|
 TabOk.cons (ti:=⟨_,_,_,_⟩) Try.underlying31 (by kernel_rfl) <|
 TabOk.cons (ti:=⟨_,_,_,_⟩) Try.underlying32 (by kernel_rfl) <|
 TabOk.cons (ti:=⟨_,_,_,_⟩) Try.underlying33 (by kernel_rfl) <|
 TabOk.cons (ti:=⟨_,_,_,_⟩) Try.underlying34 (by kernel_rfl) <|
 TabOk.cons (ti:=⟨_,_,_,_⟩) Try.underlying35 (by kernel_rfl) <|
 TabOk.cons (ti:=⟨_,_,_,_⟩) Try.underlying36 (by kernel_rfl) <|
 TabOk.cons (ti:=⟨_,_,_,_⟩) Try.underlying37 (by kernel_rfl) <|
 TabOk.cons (ti:=⟨_,_,_,_⟩) Try.underlying38 (by kernel_rfl) <|
 TabOk.cons (ti:=⟨_,_,_,_⟩) Try.underlying39 (by kernel_rfl) <|
 TabOk.cons (ti:=⟨_,_,_,_⟩) Try.underlying40 (by kernel_rfl) <|
 TabOk.cons (ti:=⟨_,_,_,_⟩) Try.underlying41 (by kernel_rfl) <|
 TabOk.cons (ti:=⟨_,_,_,_⟩) Try.underlying42 (by kernel_rfl) <|
 TabOk.cons (ti:=⟨_,_,_,_⟩) Try.underlying43 (by kernel_rfl) <|
 TabOk.cons (ti:=⟨_,_,_,_⟩) Try.underlying44 (by kernel_rfl) <|
 TabOk.cons (ti:=⟨_,_,_,_⟩) Try.underlying45 (by kernel_rfl) <|
 TabOk.cons (ti:=⟨_,_,_,_⟩) Try.underlying46 (by kernel_rfl) <|
 TabOk.cons (ti:=⟨_,_,_,_⟩) Try.underlying47 (by kernel_rfl) <|
 TabOk.cons (ti:=⟨_,_,_,_⟩) Try.underlying48 (by kernel_rfl) <|
 TabOk.cons (ti:=⟨_,_,_,_⟩) Try.underlying49 (by kernel_rfl) <|
 TabOk.cons (ti:=⟨_,_,_,_⟩) Try.underlying50 (by kernel_rfl) <|
 TabOk.cons (ti:=⟨_,_,_,_⟩) Try.underlying51 (by kernel_rfl) <|
 TabOk.cons (ti:=⟨_,_,_,_⟩) Try.underlying52 (by kernel_rfl) <|
 TabOk.cons (ti:=⟨_,_,_,_⟩) Try.underlying53 (by kernel_rfl) <|
 TabOk.cons (ti:=⟨_,_,_,_⟩) Try.underlying54 (by kernel_rfl) <|
 TabOk.cons (ti:=⟨_,_,_,_⟩) Try.underlying55 (by kernel_rfl) <|
 TabOk.cons (ti:=⟨_,_,_,_⟩) Try.underlying56 (by kernel_rfl) <|
 TabOk.cons (ti:=⟨_,_,_,_⟩) Try.underlying57 (by kernel_rfl) <|
 TabOk.cons (ti:=⟨_,_,_,_⟩) Try.underlying58 (by kernel_rfl) <|
 TabOk.cons (ti:=⟨_,_,_,_⟩) Try.underlying59 (by kernel_rfl) <|
 TabOk.cons (ti:=⟨_,_,_,_⟩) Try.underlying60 (by kernel_rfl) <|
 TabOk.cons (ti:=⟨_,_,_,_⟩) Try.underlying61 (by kernel_rfl) <|
 TabOk.cons (ti:=⟨_,_,_,_⟩) Try.underlying62 (by kernel_rfl) <|
 TabOk.cons (ti:=⟨_,_,_,_⟩) Try.underlying63 (by kernel_rfl) <|
 TabOk.cons (ti:=⟨_,_,_,_⟩) Try.underlying64 (by kernel_rfl) <|
 TabOk.cons (ti:=⟨_,_,_,_⟩) Try.underlying65 (by kernel_rfl) <|
 TabOk.cons (ti:=⟨_,_,_,_⟩) Try.underlying66 (by kernel_rfl) <|
 TabOk.cons (ti:=⟨_,_,_,_⟩) Try.underlying67 (by kernel_rfl) <|
 TabOk.cons (ti:=⟨_,_,_,_⟩) Try.underlying68 (by kernel_rfl) <|
 TabOk.cons (ti:=⟨_,_,_,_⟩) Try.underlying69 (by kernel_rfl) <|
 TabOk.cons (ti:=⟨_,_,_,_⟩) Try.underlying70 (by kernel_rfl) <|
 TabOk.cons (ti:=⟨_,_,_,_⟩) Try.underlying71 (by kernel_rfl) <|
 TabOk.cons (ti:=⟨_,_,_,_⟩) Try.underlying72 (by kernel_rfl) <|
 TabOk.cons (ti:=⟨_,_,_,_⟩) Try.underlying73 (by kernel_rfl) <|
 TabOk.cons (ti:=⟨_,_,_,_⟩) Try.underlying74 (by kernel_rfl) <|
 TabOk.cons (ti:=⟨_,_,_,_⟩) Try.underlying75 (by kernel_rfl) <|
 TabOk.cons (ti:=⟨_,_,_,_⟩) Try.underlying76 (by kernel_rfl) <|
 TabOk.cons (ti:=⟨_,_,_,_⟩) Try.underlying77 (by kernel_rfl) <|
 TabOk.cons (ti:=⟨_,_,_,_⟩) Try.underlying78 (by kernel_rfl) <|
 TabOk.cons (ti:=⟨_,_,_,_⟩) Try.underlying79 (by kernel_rfl) <|
 TabOk.cons (ti:=⟨_,_,_,_⟩) Try.underlying80 (by kernel_rfl) <|
 TabOk.cons (ti:=⟨_,_,_,_⟩) Try.underlying81 (by kernel_rfl) <|
 TabOk.cons (ti:=⟨_,_,_,_⟩) Try.underlying82 (by kernel_rfl) <|
 TabOk.cons (ti:=⟨_,_,_,_⟩) Try.underlying83 (by kernel_rfl) <|
 TabOk.cons (ti:=⟨_,_,_,_⟩) Try.underlying84 (by kernel_rfl) <|
 TabOk.cons (ti:=⟨_,_,_,_⟩) Try.underlying85 (by kernel_rfl) <|
 TabOk.cons (ti:=⟨_,_,_,_⟩) Try.underlying86 (by kernel_rfl) <|
 TabOk.cons (ti:=⟨_,_,_,_⟩) Try.underlying87 (by kernel_rfl) <|
 TabOk.cons (ti:=⟨_,_,_,_⟩) Try.underlying88 (by kernel_rfl) <|
 TabOk.cons (ti:=⟨_,_,_,_⟩) Try.underlying89 (by kernel_rfl) <|
 TabOk.cons (ti:=⟨_,_,_,_⟩) Try.underlying90 (by kernel_rfl) <|
 TabOk.cons (ti:=⟨_,_,_,_⟩) Try.underlying98 (by kernel_rfl) <|
 TabOk.cons (ti:=⟨_,_,_,_⟩) Try.underlying99 (by kernel_rfl) <|
 TabOk.cons (ti:=⟨_,_,_,_⟩) Try.underlying104 (by kernel_rfl) <|
 TabOk.nil _
noncomputable def W5:List (Nat×Frm):=[
 (3,{ fn:=Try.f3,n:=79,V:=11,cross:=[18,42],ord:=fun id=>match id with | 6=>([0,2,1,3,4,5,6,7,8,9,10],[1,3,4,8,9]) | 7=>([0,2,1,3,4,5,6,7,8,9,10],[1,3,4,8,9]) | 8=>([0,1,2,3,4,5,7,6,8,9,10,11,13,12,14,15,16,17,18,19],[6,8,12,14,17]) | _=>([],[]) }),
 (4,{ fn:=Try.f4,n:=76,V:=2,cross:=[3,4,5,6,7,8,9,10,11,12,31],ord:=fun id=>match id with | 3=>([0,2,1,3,4,5,6,7,8,9],[1,3,7,8]) | 4=>([0,2,1,3,4,5,6,7,8,9],[1,3,7,8]) | 6=>([0,2,1,3,4,5,6,7,8,9],[1,3,7,8]) | _=>([],[]) }),
 (5,{ fn:=Try.f5,n:=14,V:=3,cross:=[4],ord:=fun _=>([],[]) }),
 (6,{ fn:=Try.f6,n:=35,V:=5,cross:=[],ord:=fun id=>match id with | 3=>([0,1,2,3,4,5,6,7,8,9,10,11,12,13,14,15],[7,11,12,13]) | _=>([],[]) }),
 (7,{ fn:=Try.f7,n:=11,V:=6,cross:=[],ord:=fun _=>([],[]) }),
 (8,{ fn:=Try.f8,n:=10,V:=3,cross:=[5],ord:=fun _=>([],[]) }),
 (9,{ fn:=Try.f9,n:=11,V:=6,cross:=[],ord:=fun _=>([],[]) }),
 (10,{ fn:=Try.f10,n:=35,V:=6,cross:=[8,16,17,18],ord:=fun id=>match id with | 10=>([0,1,2,3,4,5,6,7],[5,6,7]) | _=>([],[]) }),
 (11,{ fn:=Try.f11,n:=31,V:=5,cross:=[],ord:=fun _=>([],[]) }),
 (12,{ fn:=Try.f12,n:=11,V:=3,cross:=[6],ord:=fun _=>([],[]) }),
 (13,{ fn:=Try.f13,n:=44,V:=11,cross:=[19,25,26,27,28],ord:=fun _=>([],[]) }),
 (14,{ fn:=Try.f14,n:=6,V:=1,cross:=[2],ord:=fun _=>([],[]) }),
 (15,{ fn:=Try.f15,n:=50,V:=11,cross:=[19,25,26,27,28],ord:=fun id=>match id with | 8=>([0,1,2,3,4,5,6,7,8,9,10,11],[7,11]) | _=>([],[]) }),
 (16,{ fn:=Try.f16,n:=39,V:=7,cross:=[16,21,27],ord:=fun _=>([],[]) }),
 (17,{ fn:=Try.f17,n:=33,V:=5,cross:=[20],ord:=fun _=>([],[]) }),
 (18,{ fn:=Try.f18,n:=11,V:=5,cross:=[],ord:=fun _=>([],[]) }),
 (19,{ fn:=Try.f19,n:=8,V:=1,cross:=[2],ord:=fun _=>([],[]) }),
 (20,{ fn:=Try.f20,n:=179,V:=5,cross:=[6,7,8,9,10,11,12,13,14,15,16,17,18,19,20,21,22,30,38,45,68,86,87,88,105,129,163,164,165],ord:=fun id=>match id with | 3=>([0,1,2,3,4,5,6,7],[]) | 12=>([0,1,2,3,4,6,7,8,9,10,5,11,12,13,14,15],[5,11,12,13,14,15]) | 17=>([0,1,2,3,4,5,6,7,8,9,10,11,12,13,14,15],[]) | 20=>([0,1,2,3,4,5,6,7,8,9,10,11],[11]) | 21=>([0,1,2,3,4,6,5,7,8,9,10],[1,5,7]) | 26=>([0,1,2,3,4,5,6,7,8,9,10,11,12,13,14,15,16],[15,16]) | _=>([],[]) }),
 (21,{ fn:=Try.f21,n:=16,V:=7,cross:=[],ord:=fun _=>([],[]) }),
 (22,{ fn:=Try.f22,n:=80,V:=3,cross:=[4,5,6,7,8,9,10,11,12,21,22,23,32,33,34,35,56],ord:=fun id=>match id with | 1=>([0,1,2,3,4,5,6,7],[4,6,7]) | 13=>([0,1,2,3,4,5,6,7,8,9,10,11],[7,8,9,11]) | 14=>([0,1,2,3,4,5,6,7,8,9,10],[7,8,10]) | _=>([],[]) }),
 (23,{ fn:=Try.f23,n:=16,V:=3,cross:=[5,7],ord:=fun _=>([],[]) }),
 (24,{ fn:=Try.f24,n:=97,V:=3,cross:=[4,6,7,8,9,10,11,12,13,24,25,26,27,28,47,75,92],ord:=fun id=>match id with | 9=>([0,1,2,3,4,5,6,7,8,9,10,11,12],[]) | 12=>([0,1,2,3,4,5,6,7,8,9,10,11],[7,8,9,11]) | 13=>([0,1,2,3,4,5,6,7,8,9,10],[7,8,10]) | 19=>([0,1,2,3,4,5,6,7,8],[]) | _=>([],[]) }),
 (25,{ fn:=Try.f25,n:=47,V:=2,cross:=[4,5,6,7,8,9,10,11,18,37],ord:=fun id=>match id with | 7=>([0,1,2,3,4,5,6,7,8,9,10,11,12,13,14,15],[]) | _=>([],[]) }),
 (26,{ fn:=Try.f26,n:=26,V:=2,cross:=[4,5,10,12,13,14,24],ord:=fun id=>match id with | 6=>([0,1,2,3,4,5,6,7,8],[]) | _=>([],[]) }),
 (27,{ fn:=Try.f27,n:=32,V:=3,cross:=[6,7,8,9,14,15,16,17,18,30],ord:=fun _=>([],[]) }),
 (28,{ fn:=Try.f28,n:=62,V:=8,cross:=[17,22,28,43,52],ord:=fun id=>match id with | 13=>([0,1,2,3,4,5],[4]) | _=>([],[]) }),
 (29,{ fn:=Try.f29,n:=8,V:=1,cross:=[2,4],ord:=fun _=>([],[]) }),
 (30,{ fn:=Try.f30,n:=7,V:=1,cross:=[2],ord:=fun _=>([],[]) }),
 (31,{ fn:=Try.f31,n:=119,V:=4,cross:=[6,7,8,9,10,11,12,13,14,15,16,19,28,29,30,34,35,36,37,55,69,95,110,116],ord:=fun id=>match id with | 18=>([0,1,2,3,4,5,6,7,8,9,10,11],[7,8,9,11]) | 19=>([0,1,2,3,4,5,6,7,8,9,10],[7,8,10]) | 24=>([0,1,2,3,4,5,6,7],[]) | _=>([],[]) }),
 (32,{ fn:=Try.f32,n:=31,V:=4,cross:=[6,17],ord:=fun id=>match id with | 2=>([0,1,2,3,4,5,6,7,8,9,10,11,12],[]) | _=>([],[]) }),
 (33,{ fn:=Try.f33,n:=24,V:=3,cross:=[5,16],ord:=fun _=>([],[]) }),
 (34,{ fn:=Try.f34,n:=32,V:=4,cross:=[6,7,12],ord:=fun _=>([],[]) }),
 (35,{ fn:=Try.f35,n:=16,V:=3,cross:=[4,5,11],ord:=fun _=>([],[]) }),
 (36,{ fn:=Try.f36,n:=107,V:=11,cross:=[18,23,30,43,48,76,81,94,105],ord:=fun id=>match id with | 9=>([0,2,3,1,4,5,6,7,8,9],[1,4]) | _=>([],[]) }),
 (37,{ fn:=Try.f37,n:=48,V:=5,cross:=[8,9,10,29],ord:=fun id=>match id with | 6=>([0,1,2,4,3,5,6,7,8],[3,5,6,8]) | 7=>([0,1,2,3,4,5],[3,5]) | _=>([],[]) }),
 (38,{ fn:=Try.f38,n:=31,V:=1,cross:=[2,3,5,8,9,10,11,12,15,22,29],ord:=fun _=>([],[]) }),
 (39,{ fn:=Try.f39,n:=18,V:=3,cross:=[7],ord:=fun id=>match id with | 2=>([0,1,3,4,2,5,6,7],[2,5]) | _=>([],[]) }),
 (40,{ fn:=Try.f40,n:=27,V:=2,cross:=[4,5,18],ord:=fun id=>match id with | 3=>([0,1,2,4,5,6,3,7,8,9],[3,7]) | _=>([],[]) }),
 (41,{ fn:=Try.f41,n:=108,V:=5,cross:=[8,10,15,16,17,18,22,57,89,90,91,92],ord:=fun id=>match id with | 5=>([0,1,2,3,4,5,6,7,8,10,9,11,12,13,15,16,14,17],[9,11,12,14,17]) | 6=>([0,1,2,3,4,5,6,7,8,9,10,11,12,13,14],[10,11,14]) | 15=>([0,1,2,3,4,6,5,7,8,9,11,12,10,13],[5,7,8,10,13]) | _=>([],[]) }),
 (42,{ fn:=Try.f42,n:=87,V:=7,cross:=[8,9,10,12,13,14,15,19,22,23,24,25,45,55,56,57,58,69,84],ord:=fun id=>match id with | 10=>([0,1,2,3,4,5,6,7,8],[]) | _=>([],[]) }),
 (43,{ fn:=Try.f43,n:=44,V:=5,cross:=[12,13,16,20,25,29,34],ord:=fun id=>match id with | 1=>([0,1,2,3,4,5,6,7],[]) | _=>([],[]) }),
 (44,{ fn:=Try.f44,n:=9,V:=1,cross:=[2],ord:=fun _=>([],[]) }),
 (45,{ fn:=Try.f45,n:=17,V:=1,cross:=[2],ord:=fun _=>([],[]) }),
 (46,{ fn:=Try.f46,n:=8,V:=1,cross:=[2,5],ord:=fun _=>([],[]) }),
 (47,{ fn:=Try.f47,n:=41,V:=2,cross:=[4,5,6,7,15,20],ord:=fun _=>([],[]) }),
 (48,{ fn:=Try.f48,n:=46,V:=2,cross:=[4,5,6,7,8,18,19,20,21,22,35],ord:=fun _=>([],[]) }),
 (49,{ fn:=Try.f49,n:=47,V:=6,cross:=[32,33,34,35],ord:=fun id=>match id with | 1=>([0,1,2,3,4,6,7,8,10,11,12,5,9,13,14,15,16],[5,9,13,15,16]) | 7=>([0,1,2,3,4,5,6],[4,6]) | _=>([],[]) }),
 (50,{ fn:=Try.f50,n:=48,V:=2,cross:=[4,5,6,7,8,10,26,37],ord:=fun id=>match id with | 9=>([0,1,2,3,4,5,6,7,8,9],[7]) | _=>([],[]) }),
 (51,{ fn:=Try.f51,n:=20,V:=3,cross:=[4,5,9,13],ord:=fun _=>([],[]) }),
 (52,{ fn:=Try.f52,n:=21,V:=1,cross:=[2,3,6,10,17,20],ord:=fun _=>([],[]) }),
 (53,{ fn:=Try.f53,n:=17,V:=1,cross:=[2,3,7,14],ord:=fun _=>([],[]) }),
 (54,{ fn:=Try.f54,n:=9,V:=1,cross:=[2],ord:=fun _=>([],[]) }),
 (55,{ fn:=Try.f55,n:=17,V:=1,cross:=[2],ord:=fun _=>([],[]) }),
 (56,{ fn:=Try.f56,n:=95,V:=3,cross:=[6,7,8,9,16,22,31,68],ord:=fun id=>match id with | 11=>([0,1,2,3,4,5,6,7,8],[8]) | 15=>([0,1,2,3,4,5,6,7,8],[8]) | _=>([],[]) }),
 (57,{ fn:=Try.f57,n:=30,V:=4,cross:=[5,11,14,15,16,17,21],ord:=fun _=>([],[]) }),
 (58,{ fn:=Try.f58,n:=19,V:=1,cross:=[2,3,5,7,8,9,10,11],ord:=fun _=>([],[]) }),
 (59,{ fn:=Try.f59,n:=9,V:=2,cross:=[4],ord:=fun _=>([],[]) }),
 (60,{ fn:=Try.f60,n:=5,V:=1,cross:=[2],ord:=fun _=>([],[]) }),
 (61,{ fn:=Try.f61,n:=30,V:=2,cross:=[4,5,6,7,8,9],ord:=fun _=>([],[]) }),
 (62,{ fn:=Try.f62,n:=30,V:=1,cross:=[2,3,4,8,15,20,28],ord:=fun _=>([],[]) }),
 (64,{ fn:=Try.f64,n:=10,V:=2,cross:=[],ord:=fun _=>([],[]) }),
 (65,{ fn:=Try.f65,n:=16,V:=3,cross:=[4,5,11],ord:=fun _=>([],[]) }),
 (66,{ fn:=Try.f66,n:=9,V:=2,cross:=[4],ord:=fun _=>([],[]) }),
 (67,{ fn:=Try.f67,n:=19,V:=2,cross:=[4,5,7,8,9,16],ord:=fun _=>([],[]) }),
 (68,{ fn:=Try.f68,n:=17,V:=2,cross:=[4,5,6],ord:=fun _=>([],[]) }),
 (69,{ fn:=Try.f69,n:=51,V:=2,cross:=[4,5,6,7,8,9,10,11,12,13],ord:=fun _=>([],[]) }),
 (70,{ fn:=Try.f70,n:=14,V:=2,cross:=[],ord:=fun _=>([],[]) }),
 (71,{ fn:=Try.f71,n:=19,V:=2,cross:=[4,5,7,8,9,16],ord:=fun _=>([],[]) }),
 (72,{ fn:=Try.f72,n:=28,V:=1,cross:=[2,3,9],ord:=fun id=>match id with | 3=>([0,1,2,3,4,5,6,7,8,9,10,11,12,13,14,15],[13,15]) | _=>([],[]) })]
abbrev eqs:List Nat:=[]
theorem Mi:∀t,eqs.contains t=true->Try.prog.eqGuardType Try.prog.depth t=false/\Try.prog.stoodInHeld t=false:=by
 intro t h
 exact absurd h (by simp[eqs])
theorem Tp:FrmOk Try.prog (GK W5) :=
 FrmOk.cons Try.func3 rfl (by decide) <|
 FrmOk.cons Try.func4 rfl (by decide) <|
 FrmOk.cons Try.func5 rfl (by decide) <|
 FrmOk.cons Try.func6 rfl (by decide) <|
 FrmOk.cons Try.func7 rfl (by decide) <|
 FrmOk.cons Try.func8 rfl (by decide) <|
 FrmOk.cons Try.func9 rfl (by decide) <|
 FrmOk.cons Try.func10 rfl (by decide) <|
 FrmOk.cons Try.func11 rfl (by decide) <|
 FrmOk.cons Try.func12 rfl (by decide) <|
 FrmOk.cons Try.func13 rfl (by decide) <|
 FrmOk.cons Try.func14 rfl (by decide) <|
 FrmOk.cons Try.func15 rfl (by decide) <|
 FrmOk.cons Try.func16 rfl (by decide) <|
 FrmOk.cons Try.func17 rfl (by decide) <|
 FrmOk.cons Try.func18 rfl (by decide) <|
 FrmOk.cons Try.func19 rfl (by decide) <|
 FrmOk.cons Try.func20 rfl (by decide) <|
 FrmOk.cons Try.func21 rfl (by decide) <|
 FrmOk.cons Try.func22 rfl (by decide) <|
 FrmOk.cons Try.func23 rfl (by decide) <|
 FrmOk.cons Try.func24 rfl (by decide) <|
 FrmOk.cons Try.func25 rfl (by decide) <|
 FrmOk.cons Try.func26 rfl (by decide) <|
 FrmOk.cons Try.func27 rfl (by decide) <|
 FrmOk.cons Try.func28 rfl (by decide) <|
 FrmOk.cons Try.func29 rfl (by decide) <|
 FrmOk.cons Try.func30 rfl (by decide) <|
 FrmOk.cons Try.func31 rfl (by decide) <|
 FrmOk.cons Try.func32 rfl (by decide) <|
 FrmOk.cons Try.func33 rfl (by decide) <|
 FrmOk.cons Try.func34 rfl (by decide) <|
 FrmOk.cons Try.func35 rfl (by decide) <|
 FrmOk.cons Try.func36 rfl (by decide) <|
 FrmOk.cons Try.func37 rfl (by decide) <|
 FrmOk.cons Try.func38 rfl (by decide) <|
 FrmOk.cons Try.func39 rfl (by decide) <|
 FrmOk.cons Try.func40 rfl (by decide) <|
 FrmOk.cons Try.func41 rfl (by decide) <|
 FrmOk.cons Try.func42 rfl (by decide) <|
 FrmOk.cons Try.func43 rfl (by decide) <|
 FrmOk.cons Try.func44 rfl (by decide) <|
 FrmOk.cons Try.func45 rfl (by decide) <|
 FrmOk.cons Try.func46 rfl (by decide) <|
 FrmOk.cons Try.func47 rfl (by decide) <|
 FrmOk.cons Try.func48 rfl (by decide) <|
 FrmOk.cons Try.func49 rfl (by decide) <|
 FrmOk.cons Try.func50 rfl (by decide) <|
 FrmOk.cons Try.func51 rfl (by decide) <|
 FrmOk.cons Try.func52 rfl (by decide) <|
 FrmOk.cons Try.func53 rfl (by decide) <|
 FrmOk.cons Try.func54 rfl (by decide) <|
 FrmOk.cons Try.func55 rfl (by decide) <|
 FrmOk.cons Try.func56 rfl (by decide) <|
 FrmOk.cons Try.func57 rfl (by decide) <|
 FrmOk.cons Try.func58 rfl (by decide) <|
 FrmOk.cons Try.func59 rfl (by decide) <|
 FrmOk.cons Try.func60 rfl (by decide) <|
 FrmOk.cons Try.func61 rfl (by decide) <|
 FrmOk.cons Try.func62 rfl (by decide) <|
 FrmOk.cons Try.func64 rfl (by decide) <|
 FrmOk.cons Try.func65 rfl (by decide) <|
 FrmOk.cons Try.func66 rfl (by decide) <|
 FrmOk.cons Try.func67 rfl (by decide) <|
 FrmOk.cons Try.func68 rfl (by decide) <|
 FrmOk.cons Try.func69 rfl (by decide) <|
 FrmOk.cons Try.func70 rfl (by decide) <|
 FrmOk.cons Try.func71 rfl (by decide) <|
 FrmOk.cons Try.func72 rfl (by decide) <|
 FrmOk.nil _
theorem mix:Try.prog.follows .mixedOrders=true:=by kernel_rfl
def SM{α:Type}(x:α):Prop:=x=x
def Z0:Int:=0
def Z1:Int:=1
def N0:Nat:=0
def N1:Nat:=1
def N2:Nat:=2
def N4:Nat:=4
def N6:Nat:=6
def LN{α:Type}(l:List α):Nat:=List.length l
def LI{α:Type}(l:List α):Int:=(↑(List.length l):Int)
def NI(x:Nat):Int:=(↑x:Int)
def TN(x:Nat):Nat:=Int.toNat (↑x:Int)
def TL{α:Type}(l:List α):Nat:=Int.toNat (↑(List.length l):Int)
def GI(l:List Int)(i:Nat):Int:=List.getD l i (0:Int)
def ZI(a:Int):D:=D.int IntKind.i64 a
def SI(l:List Int):D:=D.sl 1 (List.length l) (fun i=>[D.int IntKind.i64 (List.getD l i (0:Int))]) Mode.any
abbrev Con:=Nat->List D->St->Option FnSpec
noncomputable def E0(con:Con)(n V:Nat)(cross:List Nat)(ord:Nat->List Nat×List Nat):Senv where
 P:=Try.prog
 tt:=E3 tab
 n:=n
 dfs:=[]
 V:=V
 cross:=cross
 gh:=fun _=>[]
 gr:=[]
 unr:=fun _=>0
 cut:=fun _ _ _=>none
 ann:=fun _ _ _=>none
 ord:=ord
 con:=con
 eqs:=eqs
noncomputable def EC(con:Con)(n V:Nat)(cross:List Nat)(ord:Nat->List Nat×List Nat):Senv :=
 { E0 con n V cross ord with auto:=true,inl:=Us { E0 con 0 0 [] (fun _=>([],[])) with auto:=true } (GK W5) 9 }
abbrev E5:Con:=fun _ _ _=>none
theorem BN:ConOk Try.prog E5:=fun _ _ _ _ h=>nomatch h
theorem eOk{con:Con}(hc:ConOk Try.prog con){E:Senv}(h:E={ EC con E.n E.V E.cross E.ord with gh:=E.gh,gr:=E.gr,unr:=E.unr,cut:=E.cut,ann:=E.ann,cut2:=E.cut2,ann2:=E.ann2,own:=E.own,gz:=E.gz,mg:=E.mg,pvt:=E.pvt,bcut:=E.bcut,bd:=E.bd }):EnvOk E:=by
 rw[h]
 exact⟨Me,hc,mix,fun k ds S R h=>TZ (E:={ E0 con 0 0 [] (fun _=>([],[])) with auto:=true }) Me hc mix Tp Mi 9 k ds S R h,Mi⟩
theorem inlS{con:Con}(hc:ConOk Try.prog con)(k:Nat)(ds:List D)(S:St)(R:AEnd->St->Prop)(h:Us (E0 con 0 0 [] (fun _=>([],[]))) (GK W5) 50 k ds S R):ACalls Try.prog k ds S R :=
 TZ (E:=E0 con 0 0 [] (fun _=>([],[]))) Me hc mix Tp Mi 50 k ds S R h
def pC(ds:List D)(d:D)(p:Prop):FnSpec where
 β:=Unit
 α:=Unit
 args:=fun _=>ds
 st:=fun _=>⟨[],[]⟩
 pre:=fun _=>p
 post:=fun _ _=>True
 res:=fun _ _=>.ret d
 out:=fun _ _=>⟨[],[]⟩
 fit:=some ()
theorem Eh(S:St):leS ⟨[],[]⟩ S:=by simp[leS,Ba,Go.Ab.nodupB,leO,leT]
theorem EA{k : Nat}{ds : List D}{S : St}{us : List D}{d : D}{p : Prop}(h : p -> Br ds us /\ ACalls Try.prog k us ⟨[], []⟩ (SpecR (sC us d) ())) :
  (∀x,(pC us d p).pre x->ACalls Try.prog k ((pC us d p).args x) ((pC us d p).st x) (SpecR (pC us d p) x))/\(∀x,(pC us d p).fit=some x->(pC us d p).pre x->Br ds ((pC us d p).args x)/\leS ((pC us d p).st x) S)/\((pC us d p).all=true->∀x,(pC us d p).pre x->Br ds ((pC us d p).args x)/\(pC us d p).st x=S) :=
 ⟨fun _ hp=>(h hp).2.mono fun _ _ ⟨_,_h1,h2,h3⟩=>⟨(),trivial,h2,h3⟩,fun _ _ hp=>⟨(h hp).1,Eh S⟩,fun e=>nomatch e⟩
theorem Ck{α:Type}[Inhabited α]{l:List α}{i:Nat}(h:i<l.length):l.drop i=l.getD i default::l.drop (i+1):=by
 rw[List.drop_eq_getElem_cons h]
 simp[List.getD_eq_getElem?_getD,h]
theorem BaK{α:Type}[Inhabited α]{l:List α}{i:Nat}(h:i<l.length):l.take (i+1)=l.take i++[l.getD i default]:=by
 rw[List.take_add_one]
 simp[List.getD_eq_getElem?_getD,h]
def RT(p:Prop):Prop:=True/\∃(_y:Unit),True/\p/\True/\True
def isl(l:List Int)(m:Ab.Mode):D:=.sl 1 l.length (fun i=>[.int .i64 (l.getD i 0)]) m
inductive Arr where
 |mk (kind:Int) (shape nums:List Int) (items:List Arr)
def EV(z:Int):Prop:=-9223372036854775808<=z/\z<=9223372036854775807
mutual
def Arr.row:Arr->List D
 |.mk k s n is=>[.int .i64 k,isl s .any,isl n .any,.sl 4 (IR is).length (fun i=>(IR is).getD i []) .any]
def IR:List Arr->List (List D)
 | []=>[]
 |a::r=>a.row::IR r
end
mutual
def Arr.ok:Arr->Prop
 |.mk k s n is=>EV k/\(∀z∈s,EV z)/\(∀z∈n,EV z)/\s.length<=maxLen/\n.length<=maxLen/\is.length<=maxLen/\okL is
def okL:List Arr->Prop
 | []=>True
 |a::r=>a.ok/\okL r
end
mutual
/-- Nothing in it is longer than a machine's memory. -/
def Arr.sm:Arr->Prop
 |.mk _ s n is=>s.length<=Gc/\n.length<=Gc/\is.length<=Gc/\smL is
def smL:List Arr->Prop
 | []=>True
 |a::r=>a.sm/\smL r
end
theorem BaA:∀(l:List Arr),smL l↔∀a∈l,a.sm
 | []=>by simp[smL]
 |a::l=>by simp only[smL,List.forall_mem_cons,BaA l]
theorem UK{n:Nat}(h:n<=Gc):n<=maxLen:=Nat.le_trans h (by decide)
theorem Cq:∀(l:List Arr),IR l=l.map Arr.row
 | []=>rfl
 |a::l=>by simp only[IR,List.map_cons,Cq l]
theorem Cm:∀(l:List Arr),okL l↔∀a∈l,a.ok
 | []=>by simp[okL]
 |a::l=>by simp only[okL,List.forall_mem_cons,Cm l]
def RInts:List D->Prop:=fun ds=>∃l:List Int,(∀z∈l,EV z)/\l.length<=Gc/\ds=[isl l .any]
def RArr:List D->Prop:=fun ds=>∃a:Arr,(a.ok/\a.sm)/\ds=a.row
theorem Bai:∀x,RInt .i64 x->∃z,EV z/\x=[.int .i64 z]:=by
 rintro x ⟨n,rfl,h1,h2⟩
 simp only[IntKind.min,IntKind.max,IntKind.signed,IntKind.bits] at h1 h2
 exact⟨n,⟨by simpa using h1,by simp at h2;omega⟩,rfl⟩
theorem Ty(W:World)(n:Nat):ReadAt Try.prog W n 23 RInts:=by
 cases n with
 |zero=>exact .zero _ _
 |succ n =>
  refine (Mw (w:=1) Try.underlying23 (by kernel_rfl) (by decide) (by decide +kernel) (UZ Try.underlying3 W n)).weak ?_
  rintro _ ds vs ⟨l,h1,h2,rfl⟩ h
  obtain ⟨l',q,rfl⟩:=UM Bai l h1
  refine⟨_,⟨l',q,by simpa using h2,rfl⟩,BQ _ _ ?_ _ _ h⟩
  simp only[isl,Br,Bf,Ba]
  refine⟨⟨by simp,by simp,fun i hi=>?_,by simp[Bw]⟩,trivial⟩
  have hi:i<l'.length:=by simpa using hi
  simp[List.getD_eq_getElem?_getD,hi]
theorem Of(W:World):∀n,ReadAt Try.prog W n 26 RArr
 |0=>.zero _ _
 |n+1=>by
  have hi:ReadAt Try.prog W n 24 (RSliceA 4 RArr):=by
   cases n with
   |zero=>exact .zero _ _
   |succ m=>exact Mw (w:=4) Try.underlying24 (by kernel_rfl) (by decide) (by decide +kernel) (Of W m)
  refine (UY Try.underlying26 (by kernel_rfl) (Rs:=[RInt .i64,RInts,RInts,RSliceA 4 RArr]) ⟨UZ (by kernel_rfl) W n,Ty W n,Ty W n,hi,trivial⟩).mono ?_
  rintro ds ⟨_,_,h1,⟨_,_,h2,⟨_,_,h3,⟨_,_,h4,h5,rfl⟩,rfl⟩,rfl⟩,rfl⟩
  obtain rfl:_=[]:=h5
  obtain ⟨k,hk,rfl⟩:=Bai _ h1
  obtain ⟨s,s1,s2,rfl⟩:=h2
  obtain ⟨m,m1,m2,rfl⟩:=h3
  obtain ⟨l,l1,l2,rfl⟩:=h4
  obtain ⟨is,q,rfl⟩:=UM (g:=Arr.row) (Q:=fun a=>a.ok/\a.sm) (fun x hx=>hx) l l1
  have l2:is.length<=Gc:=by simpa using l2
  refine⟨.mk k s m is,⟨?_,?_⟩,?_⟩
  ·simp only[Arr.ok]
   exact⟨hk,s1,m1,UK s2,UK m2,UK l2,(Cm _).2 fun a ha=>(q a ha).1⟩
  ·simp only[Arr.sm]
   exact⟨s2,m2,l2,(BaA _).2 fun a ha=>(q a ha).2⟩
  ·simp only[Arr.row,Cq,List.cons_append,List.nil_append]
set_option maxRecDepth 100000
def OC(P:Program)(TS:List Nat)(t:Nat):Bool :=
 match P.underlying t with
 |some (.slice e)=>TS.contains e&&decide (P.bytesOf e<=4096)
 |some (.struct fs)=>fs.toList.all fun f=>TS.contains f.type
 |some (.pointer e)=>TS.contains e
 |some (.array _ e)=>TS.contains e
 |some (.map k e)=>TS.contains e&&decide (P.bytesOf k+P.bytesOf e<=4096)
 |_=>true
theorem WJ{H:Type}(d:DataW H):1<=Rows.uptoBulk d:=by
 cases d with
 |lit l=>cases l<;>simp[Rows.uptoBulk]
 |nil=>simp[Rows.uptoBulk]
 |ptr d=>simp[Rows.uptoBulk]
 |slice elems spare=>simp[Rows.uptoBulk]
 |agg parts=>simp[Rows.uptoBulk]
 |iface t d=>simp[Rows.uptoBulk]
 |map entries=>simp[Rows.uptoBulk]
 |held h=>simp[Rows.uptoBulk]
theorem MX{H:Type}:∀l:List (DataW H),l.length<=Rows.uptoBulkAll l
 | []=>by simp[Rows.uptoBulkAll]
 |x::r=>by
  have:=WJ x
  have:=MX r
  simp only[Rows.uptoBulkAll,List.length_cons]
  omega
theorem U6{H:Type}:∀l:List (Go.Lit×DataW H),l.length<=Rows.uptoBulkEntries l
 | []=>by simp[Rows.uptoBulkEntries]
 |(k,d)::r=>by
  have:=WJ d
  have:=U6 r
  have h:1<=Rows.uptoBulkEntry (k,d):=by cases k<;>simp[Rows.uptoBulkEntry]
  simp only[Rows.uptoBulkEntries,List.length_cons]
  omega
theorem Wm{a b c:Nat}(h1:a<=c)(h2:b<=4096):a*b<=8192*c:=by
 calc a*b<=c*4096:=Nat.mul_le_mul h1 h2
  _<=8192*c:=by omega
mutual
theorem Bbs{P:Program}{TS:List Nat}(hT:∀t∈TS,OC P TS t=true){H:Type}:∀(d:DataW H) (t:Nat),t∈TS->∀x∈d.weights P t,x<=8192*Rows.uptoBulk d
 |.lit l,t,_,x,hx=>by
  cases l with
  |string bytes =>
   simp only[DataW.weights,List.mem_singleton] at hx
   simp only[Rows.uptoBulk]
   omega
  |_=>simp[DataW.weights] at hx
 |.nil,t,_,x,hx=>by simp[DataW.weights] at hx
 |.ptr d,t,ht,x,hx=>by
  have ho:=hT t ht
  simp only[DataW.weights] at hx
  unfold OC at ho
  split at hx
  ·rename_i e hu
   rw[hu] at ho
   have:=Bbs hT d e (by simpa using ho) x hx
   simp only[Rows.uptoBulk]
   omega
  ·simp at hx
 |.slice elems spare,t,ht,x,hx=>by
  have ho:=hT t ht
  simp only[DataW.weights] at hx
  unfold OC at ho
  split at hx
  ·rename_i e hu
   rw[hu] at ho
   simp only[Bool.and_eq_true,decide_eq_true_eq] at ho
   have he:e∈TS:=by simpa using ho.1
   simp only[Rows.uptoBulk]
   rcases List.mem_cons.1 hx with rfl | hx
   ·exact Nat.le_trans (Wm (Nat.add_le_add (MX elems) (MX spare)) ho.2) (by omega)
   ·rcases List.mem_append.1 hx with hx | hx
    ·have:=MG hT elems e he x hx
     omega
    ·have:=MG hT spare e he x hx
     omega
  ·simp at hx
 |.agg parts,t,ht,x,hx=>by
  have ho:=hT t ht
  simp only[DataW.weights] at hx
  unfold OC at ho
  split at hx
  ·rename_i fs hu
   rw[hu] at ho
   have:=Oo hT (fs.toList.map (·.type)) parts (fun t h=>by
    obtain ⟨f,hf,rfl⟩:=List.mem_map.1 h
    simpa using List.all_eq_true.1 ho f hf) x hx
   simp only[Rows.uptoBulk]
   omega
  ·rename_i e hu
   rw[hu] at ho
   have:=MG hT parts e (by simpa using ho) x hx
   simp only[Rows.uptoBulk]
   omega
  ·simp at hx
 |.iface _ _,t,_,x,hx=>by simp[DataW.weights] at hx
 |.map entries,t,ht,x,hx=>by
  have ho:=hT t ht
  simp only[DataW.weights] at hx
  unfold OC at ho
  split at hx
  ·rename_i k e hu
   rw[hu] at ho
   simp only[Bool.and_eq_true,decide_eq_true_eq] at ho
   simp only[Rows.uptoBulk]
   rcases List.mem_cons.1 hx with rfl | hx
   ·exact Nat.le_trans (Wm (U6 entries) ho.2) (by omega)
   ·have:=Bao hT entries e (by simpa using ho.1) x hx
    omega
  ·simp at hx
 |.held _,t,_,x,hx=>by simp[DataW.weights] at hx
theorem MG{P:Program}{TS:List Nat}(hT:∀t∈TS,OC P TS t=true){H:Type}:∀(l:List (DataW H)) (e:Nat),e∈TS->∀x∈DataW.weightsAll P e l,x<=8192*Rows.uptoBulkAll l
 | [],e,_,x,hx=>by simp[DataW.weightsAll] at hx
 |d::r,e,he,x,hx=>by
  simp only[DataW.weightsAll] at hx
  simp only[Rows.uptoBulkAll]
  rcases List.mem_append.1 hx with hx | hx
  ·have:=Bbs hT d e he x hx;omega
  ·have:=MG hT r e he x hx;omega
theorem Oo{P:Program}{TS:List Nat}(hT:∀t∈TS,OC P TS t=true){H:Type}:∀(ts:List Nat) (l:List (DataW H)),(∀t∈ts,t∈TS)->∀x∈DataW.weightsEach P ts l,x<=8192*Rows.uptoBulkAll l
 | [],l,_,x,hx=>by simp[DataW.weightsEach] at hx
 |t::ts,[],_,x,hx=>by simp[DataW.weightsEach] at hx
 |t::ts,d::r,ht,x,hx=>by
  simp only[DataW.weightsEach] at hx
  simp only[Rows.uptoBulkAll]
  rcases List.mem_append.1 hx with hx | hx
  ·have:=Bbs hT d t (ht t (by simp)) x hx;omega
  ·have:=Oo hT ts r (fun u hu=>ht u (by simp[hu])) x hx;omega
theorem Bao{P:Program}{TS:List Nat}(hT:∀t∈TS,OC P TS t=true){H:Type}:∀(l:List (Go.Lit×DataW H)) (e:Nat),e∈TS->∀x∈DataW.weightsEntries P e l,x<=8192*Rows.uptoBulkEntries l
 | [],e,_,x,hx=>by simp[DataW.weightsEntries] at hx
 |(k,d)::r,e,he,x,hx=>by
  simp only[DataW.weightsEntries] at hx
  simp only[Rows.uptoBulkEntries]
  rcases List.mem_append.1 hx with hx | hx
  ·cases k with
   |string bytes =>
    simp only[DataW.weightsEntry] at hx
    simp only[Rows.uptoBulkEntry]
    rcases List.mem_cons.1 hx with rfl | hx
    ·omega
    ·have:=Bbs hT d e he x hx;omega
   |_ =>
    simp only[DataW.weightsEntry] at hx
    simp only[Rows.uptoBulkEntry]
    have:=Bbs hT d e he x hx;omega
  ·have:=Bao hT r e he x hx;omega
end
theorem Bd7{P:Program}{TS:List Nat}(hT:∀t∈TS,OC P TS t=true){H:Type}{ts:List Nat}(hts:∀t∈ts,t∈TS){ds:List (DataW H)}(hk:Rows.uptoSmall H ds=true):(DataW.weightsEach P ts ds).all (·<=Gc)=true:=by
 have hb:Rows.uptoBulkAll ds<=1048576:=of_decide_eq_true hk
 refine List.all_eq_true.2 fun x hx=>?_
 have:=Oo hT ts ds hts x hx
 unfold Gc
 simp only[decide_eq_true_eq]
 omega
open Go Go.Ab Go.RowKit
theorem own:ownKnob Try.prog.godebug=none:=by kernel_rfl
theorem laid:laidOutB Try.prog=true:=by kernel_rfl
def Bad:List (String×DataW Unit):=[]
theorem BdT{W:World}(_:laidMetH Try.prog Bad W):G0 W:=trivial
noncomputable def Mb(os:Os):World:=World.holding Try.prog os ⟨#[],#[],[]⟩
def TSl:List Nat:=List.range 105
theorem Bfw:∀t∈TSl,OC Try.prog TSl t=true:=List.all_eq_true.1 (show TSl.all (OC Try.prog TSl)=true by kernel_rfl)
theorem BaO{α:Type}{o:Option α}{p:α->Bool}(h:(match o with | some x=>p x | none=>false)=true):∃x,o=some x/\p x=true:=by
 cases o with
 |none=>cases h
 |some x=>exact⟨x,rfl,h⟩
def gsl{α:Type}[Inhabited α](w:Nat)(g:α->List D)(l:List α):D:=.sl w l.length (fun i=>g (l.getD i default)) .any
instance:Inhabited Arr:=⟨.mk 0 [] [] []⟩
def DA:Arr:=Arr.mk (0:Int) [] [] []
def GA(l:List Arr)(i:Nat):Arr:=List.getD l i (Arr.mk (0:Int) [] [] [])
def BdZ:List D->Int
 | [.int _ z]=>z
 |_=>0
def BL(n:Nat)(f:Nat->List D):List Int:=(List.range n).map fun i=>BdZ (f i)
theorem CE(l:List Int):BL l.length (fun i=>[D.int .i64 (l.getD i 0)])=l:=by
 apply List.ext_getElem
 ·simp[BL]
 ·intro i h1 h2
  simp[BL,BdZ,List.getD_eq_getElem?_getD,h2]
def IntsP(n:Nat)(f:Nat->List D):Prop:=∀i,i<n->f i=[.int .i64 (BdZ (f i))]
theorem Cu{n:Nat}{f:Nat->List D}{m:Ab.Mode}(h:IntsP n f):Br [.sl 1 n f m] [isl (BL n f) .any]:=by
 simp only[isl,Br,Bf,Ba]
 refine⟨⟨by simp,by simp[BL],fun i hi=>?_,by simp[Bw]⟩,trivial⟩
 have e:(BL n f).getD i 0=BdZ (f i):=by simp[BL,List.getD_eq_getElem?_getD,hi]
 rw[e]
 exact h i hi
def goO:List Int->Int->Option Int
 | [],p=>some p
 |d::r,p=>if d<0\/65536<d then none else if d=0 then goO r p else if 65536<p*d then none else goO r (p*d)
def Bi(s:List Int):Bool:=decide (s.length<=8)&&(goO s 1).isSome
def B5(s:List Int):Int:=if s.contains 0 then 0 else (goO s 1).getD 0
structure GoHead (l:List Int) (i:Nat) (p:Int):Prop where
 hi:i<=l.length
 h1:1<=p
 h2:p<=65536
 hg:goO (l.drop i) p=goO l 1
theorem GoHead.init(l:List Int):GoHead l 0 1:=⟨Nat.zero_le _,by omega,by omega,by simp⟩
theorem OR{l:List Int}{i:Nat}(h:i<l.length):l.drop i=l.getD i 0::l.drop (i+1):=Ck h
theorem GoHead.step{l : List Int}{i : Nat}{p : Int}(h : GoHead l i p)(hlt : i<l.length) :
  (l.getD i 0<0->goO l 1=none)/\(65536<l.getD i 0->goO l 1=none)/\(l.getD i 0=0->GoHead l (i+1) p) /\
  (¬l.getD i 0<0->¬65536<l.getD i 0->0<=p*l.getD i 0/\p*l.getD i 0<=4294967296/\(65536<p*l.getD i 0->l.getD i 0≠0->goO l 1=none)/\(¬65536<p*l.getD i 0->l.getD i 0≠0->GoHead l (i+1) (p*l.getD i 0))):=by
 have hg:=h.hg
 rw[OR hlt,goO] at hg
 generalize l.getD i 0=d at *
 refine⟨fun h0=>?_,fun h0=>?_,fun h0=>?_,fun h0 h3=>?_⟩
 ·rw[if_pos (.inl h0)] at hg;exact hg.symm
 ·rw[if_pos (.inr h0)] at hg;exact hg.symm
 ·subst h0
  simp at hg
  exact⟨by omega,h.h1,h.h2,hg⟩
 ·have b1:0<=p*d:=Int.mul_nonneg (by have:=h.h1;omega) (by omega)
  have b2:p*d<=65536*65536:=Int.mul_le_mul h.h2 (by omega) (by omega) (by omega)
  refine⟨b1,by omega,fun h4 h5=>?_,fun h4 h5=>?_⟩
  ·rw[if_neg (by omega),if_neg h5,if_pos h4] at hg;exact hg.symm
  ·rw[if_neg (by omega),if_neg h5,if_neg h4] at hg
   refine⟨by omega,?_,by omega,hg⟩
   have:0<p*d:=Int.mul_pos (by have:=h.h1;omega) (by omega)
   omega
theorem GoHead.done{l:List Int}{i:Nat}{p:Int}(h:GoHead l i p)(hge:¬(i:Int)<l.length):goO l 1=some p:=by
 have hg:=h.hg
 have:i=l.length:=by have:=h.hi;omega
 rw[this,List.drop_length,goO] at hg
 exact hg.symm
noncomputable def Eright(l:List Int):Senv:={ EC E5 31 1 [2,3,5,8,9,10,11,12,15,22,29] (fun _=>([],[])) with
 ann:=fun b _ _=>match b with
  |0=>some { slots:=[11,3],keep:=[9,10],α:=Nat×Int,st:=fun y=>([.int .i64 y.1,.int .i64 y.2],⟨[],[]⟩),inv:=fun y=>GoHead l y.1 y.2,mu:=fun y=>l.length-y.1 }
  |_=>none }
def Hb(a:List Int):Prop:=RT (false=Bi a)
def Jd(a:List Int)(b:Nat):Int:=GI a (Int.toNat (↑b:Int))
def Hc(a:List Int)(b:Nat):Bool:=bif decide (Jd a b<Z0) then true else decide ((65536:Int)<Jd a b)
def Qlg(a:List Int):D:=SI a
def QcY(a:List Int):Prop:=SM (Qlg a)/\SM (ZI (LI a))/\True
theorem Gb(l:List Int):ACalls Try.prog 38 [isl l .any] ⟨[],[]⟩ (SpecR (sC [isl l .any] (.bool (Bi l))) ()):=by
 refine Bo (A:=sC _ _) (x:=()) (E:=Eright l) (eOk BN rfl) Try.func38 rfl (by kernel_rfl) rfl (by simp[sC,Eright,EC,E0]) ?_
 refine Bu (T :=
  ifB (decide ((8:Int)<(LI l))) (Hb l) ((∃(x:Nat×Int),GoHead l x.1 x.2/\(Z0=(NI x.1)/\Z1=x.2/\True)/\True/\True)/\∀(x:Nat×Int),GoHead l x.1 x.2->ifB (decide ((NI x.1)<(LI l))) (Bc (Z0<=(NI x.1)/\(NI x.1)<(LI l)) (ifB (decide (Jd l x.1<Z0)) (true=Hc l x.1/\True) (decide ((65536:Int)<Jd l x.1)=Hc l x.1/\True)/\ifB (Hc l x.1) (Hb l) (ifB (Jd l x.1==Z0) (QcY l/\∃(y:Nat×Int),GoHead l y.1 y.2/\LN l-y.1<LN l-x.1/\(IntKind.wrap IntKind.i64 ((NI x.1)+Z1)=(NI y.1)/\x.2=y.2/\True)/\True/\True) (ifB (decide ((65536:Int)<IntKind.wrap IntKind.i64 (x.2*Jd l x.1))) (Hb l) (QcY l/\∃(y:Nat×Int),GoHead l y.1 y.2/\LN l-y.1<LN l-x.1/\(IntKind.wrap IntKind.i64 ((NI x.1)+Z1)=(NI y.1)/\IntKind.wrap IntKind.i64 (x.2*Jd l x.1)=y.2/\True)/\True/\True))))) (RT (true=Bi l)))) (by kernel_rfl) ?_
 delta GI LI LN N1 NI SI SM Z0 Z1 ZI Hb Jd Hc Qlg QcY RT
 simp only[Int.toNat_natCast,Bl,Be,decide_eq_true_eq,decide_eq_false_iff_not,true_and,and_true,beq_iff_eq,Bool.cond_true_left,beq_eq_false_iff_ne,ne_eq,exists_const]
 have no:goO l 1=none->false=Bi l:=fun h=>by simp[Bi,h]
 refine⟨fun h=>?_,fun h8=>⟨⟨(0,1),GoHead.init l,rfl,rfl⟩,?_⟩⟩
 ·have:¬l.length<=8:=by omega
  simp[Bi,this]
 rintro ⟨i,p⟩ hh
 simp only at hh ⊢
 refine⟨fun hlt=>?_,fun hge=>?_⟩
 rotate_left
 ·have:l.length<=8:=by omega
  simp[Bi,hh.done hge,this]
 have hlt':i<l.length:=by omega
 obtain ⟨s1,s2,s3,s4⟩:=hh.step hlt'
 refine⟨by omega,⟨fun h=>by rw[decide_eq_true h];rfl,fun h=>by rw[decide_eq_false h];rfl⟩,fun h=>no ?_,fun h=>?_⟩
 ·rw[Bool.or_eq_true,decide_eq_true_eq,decide_eq_true_eq] at h
  exact h.elim s1 s2
 ·rw[Bool.or_eq_false_iff,decide_eq_false_iff_not,decide_eq_false_iff_not] at h
  obtain ⟨b1,b2,s5,s6⟩:=s4 h.1 h.2
  have hw:IntKind.i64.wrap (p*l.getD i 0)=p*l.getD i 0:=Bb (by omega) (by omega)
  rw[hw]
  exact⟨fun hd=>⟨(i+1,p),s3 hd,by simp only;omega,Bb (by omega) (by omega),rfl⟩,fun hd=>⟨fun h4=>no (s5 h4 hd),fun h4=>⟨(i+1,p*l.getD i 0),s6 h4 hd,by simp only;omega,Bb (by omega) (by omega),rfl⟩⟩⟩
noncomputable def Erprod(l:List Int):Senv:={ EC E5 30 1 [2,3,4,8,15,20,28] (fun _=>([],[])) with
 ann:=fun b _ _=>match b with
  |0=>some { slots:=[4,3],keep:=[0],α:=Nat×Int,st:=fun y=>([.int .i64 y.1,.int .i64 y.2],⟨[],[]⟩),inv:=fun y=>GoHead l y.1 y.2,mu:=fun y=>l.length-y.1 }
  |_=>none }
def Hd(a:List Int):Prop:=RT ((65537:Int)=Option.getD (goO a Z1) (65537:Int))
def Qlh(a:List Int):D:=SI a
def QcZ(a:List Int):Prop:=SM (Qlh a)/\True
theorem BcD(l:List Int)(h0:∀z∈l,0<=z)(hl:l.length<=maxLen):ACalls Try.prog 62 [isl l .any] ⟨[],[]⟩ (SpecR (sC [isl l .any] (.int .i64 ((goO l 1).getD 65537))) ()):=by
 refine Bo (A:=sC _ _) (x:=()) (E:=Erprod l) (eOk BN rfl) Try.func62 rfl (by kernel_rfl) rfl (by simp[sC,Erprod,EC,E0]) ?_
 refine Bu (T :=
  (∃(x:Nat×Int),GoHead l x.1 x.2/\(Z0=(NI x.1)/\Z1=x.2/\True)/\True/\True)/\∀(x:Nat×Int),GoHead l x.1 x.2->ifB (decide ((NI x.1)<(LI l))) (Bc (Z0<=(NI x.1)/\(NI x.1)<(LI l)) (ifB (decide ((65536:Int)<GI l (TN x.1))) (Hd l) (Bc (Z0<=(NI x.1)/\(NI x.1)<(LI l)) (ifB (decide (Z0<GI l (TN x.1))) (Bc (Z0<=(NI x.1)/\(NI x.1)<(LI l)) (ifB (decide ((65536:Int)<IntKind.wrap IntKind.i64 (x.2*GI l (TN x.1)))) (Hd l) (QcZ l/\∃(y:Nat×Int),GoHead l y.1 y.2/\LN l-y.1<LN l-x.1/\(IntKind.wrap IntKind.i64 ((NI x.1)+Z1)=(NI y.1)/\IntKind.wrap IntKind.i64 (x.2*GI l (TN x.1))=y.2/\True)/\True/\True))) (ifB (decide ((65536:Int)<x.2)) (Hd l) (QcZ l/\∃(y:Nat×Int),GoHead l y.1 y.2/\LN l-y.1<LN l-x.1/\(IntKind.wrap IntKind.i64 ((NI x.1)+Z1)=(NI y.1)/\x.2=y.2/\True)/\True/\True)))))) (RT (x.2=Option.getD (goO l Z1) (65537:Int)))) (by kernel_rfl) ?_
 delta GI LI LN N1 NI SI SM TN Z0 Z1 ZI Hd Qlh QcZ RT
 simp only[Int.toNat_natCast,Bl,Be,decide_eq_true_eq,decide_eq_false_iff_not,true_and,and_true,exists_const]
 have no:goO l 1=none->(65537:Int)=(goO l 1).getD 65537:=fun h=>by simp[h]
 refine⟨⟨(0,1),GoHead.init l,rfl,rfl⟩,?_⟩
 rintro ⟨i,p⟩ hh
 simp only at hh ⊢
 refine⟨fun hlt=>?_,fun hge=>by simp[hh.done hge]⟩
 have hlt':i<l.length:=by omega
 obtain ⟨s1,s2,s3,s4⟩:=hh.step hlt'
 have hd0:0<=l.getD i 0:=h0 _ (by rw[List.getD_eq_getElem?_getD,List.getElem?_eq_getElem hlt'];exact List.getElem_mem hlt')
 simp only[maxLen] at hl
 refine⟨by omega,fun h=>no (s2 h),fun h=>⟨by omega,?_⟩⟩
 obtain ⟨b1,b2,s5,s6⟩:=s4 (by omega) h
 have hw:IntKind.i64.wrap (p*l.getD i 0)=p*l.getD i 0:=Bb (by omega) (by omega)
 rw[hw]
 refine⟨fun hd=>⟨by omega,fun h4=>no (s5 h4 (by omega)),fun h4=>⟨(i+1,p*l.getD i 0),s6 h4 (by omega),by simp only;omega,Bb (by omega) (by omega),rfl⟩⟩,fun hd=>⟨fun h4=>absurd h4 (by have:=hh.h2;omega),fun _=>⟨(i+1,p),s3 (by omega),by simp only;omega,Bb (by omega) (by omega),rfl⟩⟩⟩
def conR:Con:=E5
theorem BdD:ConOk Try.prog conR:=BN
def Gy(p:Int->Bool):List Int->Nat->Int
 | [],_=>-1
 |d::r,i=>if p d then (i:Int) else Gy p r (i+1)
theorem ED(p:Int->Bool):∀(l:List Int) (i:Nat),decide (0<=Gy p l i)=l.any p
 | [],i=>rfl
 |d::r,i=>by
  rw[Gy,List.any_cons]
  split
  ·rename_i h;rw[h];simp
  ·rename_i h
   rw[ED p r (i+1)]
   simp[h]
structure IdxHead (p:Int->Bool) (l:List Int) (i:Nat):Prop where
 hi:i<=l.length
 hg:Gy p (l.drop i) i=Gy p l 0
theorem IdxHead.step{p:Int->Bool}{l:List Int}{i:Nat}(h:IdxHead p l i)(hlt:i<l.length):(p (l.getD i 0)=true->Gy p l 0=i)/\(p (l.getD i 0)=false->IdxHead p l (i+1)):=by
 have hg:=h.hg
 rw[OR hlt,Gy] at hg
 refine⟨fun e=>?_,fun e=>?_⟩
 ·rw[if_pos e] at hg;exact hg.symm
 ·rw[if_neg (by rw[e];exact Bool.false_ne_true)] at hg;exact⟨by omega,hg⟩
theorem IdxHead.done{p:Int->Bool}{l:List Int}{i:Nat}(h:IdxHead p l i)(hge:¬(i:Int)<l.length):Gy p l 0 = -1:=by
 have hg:=h.hg
 have:i=l.length:=by have:=h.hi;omega
 rw[this,List.drop_length,Gy] at hg
 exact hg.symm
def annI(p:Int->Bool)(l:List Int)(keep:List Nat):LoopAnn:={ slots:=[8],keep:=keep,α:=Nat,st:=fun i=>([.int .i64 i],⟨[],[]⟩),inv:=fun i=>IdxHead p l i,mu:=fun i=>l.length-i }
noncomputable def Eidx(l:List Int)(v:Int):Senv:={ EC E5 19 2 [4,5,7,8,9,16] (fun _=>([],[])) with
 ann:=fun b _ _=>match b with
  |0=>some (annI (fun d=>v==d) l [0,1,6,7])
  |_=>none }
def He(a:Int)(b:List Int)(c:Nat):Prop:=IdxHead (fun (d:Int)=>a==d) b c
def Qli(a:List Int):D:=SI a
theorem BeP(l:List Int)(v:Int)(hl:l.length<=maxLen):ACalls Try.prog 71 [isl l .any,.int .i64 v] ⟨[],[]⟩ (SpecR (sC [isl l .any,.int .i64 v] (.int .i64 (Gy (fun d=>v==d) l 0))) ()):=by
 refine Bo (A:=sC _ _) (x:=()) (E:=Eidx l v) (eOk BN rfl) Try.func71 rfl (by kernel_rfl) rfl (by simp[sC,Eidx,EC,E0]) ?_
 refine Bu (T :=
  (∃(x:Nat),He v l x/\(Z0=(↑x:Int)/\True)/\True/\True)/\∀(x:Nat),He v l x->ifB (decide ((↑x:Int)<(LI l))) (Bc (Z0<=(↑x:Int)/\(↑x:Int)<(LI l)) (ifB (v==GI l (Int.toNat (↑x:Int))) (RT ((↑x:Int)=Gy (fun (d:Int)=>v==d) l N0)) ((SM (Qli l)/\SM (ZI v)/\SM D.unk/\SM (ZI (LI l))/\True)/\∃(y:Nat),He v l y/\LN l-y<LN l-x/\(IntKind.wrap IntKind.i64 ((↑x:Int)+Z1)=(↑y:Int)/\True)/\True/\True))) (RT ((-1:Int)=Gy (fun (d:Int)=>v==d) l N0))) (by kernel_rfl) ?_
 delta GI LI LN N0 N1 SI SM Z0 Z1 ZI He Qli RT
 simp only[Int.toNat_natCast,Bl,Be,decide_eq_true_eq,decide_eq_false_iff_not,true_and,and_true,exists_const]
 simp only[maxLen] at hl
 refine⟨⟨0,⟨Nat.zero_le _,by simp⟩,rfl⟩,fun i hh=>⟨fun hlt=>?_,fun hge=>(hh.done hge).symm⟩⟩
 have hlt':i<l.length:=by omega
 obtain ⟨s1,s2⟩:=hh.step hlt'
 exact⟨by omega,fun h=>(s1 h).symm,fun h=>⟨i+1,s2 h,by omega,Bb (by omega) (by omega)⟩⟩
noncomputable def Eneg(l:List Int):Senv:={ EC E5 19 2 [4,5,7,8,9,16] (fun _=>([],[])) with
 ann:=fun b _ _=>match b with
  |0=>some (annI (fun d=>decide (d<0)) l [0,1,6,7])
  |_=>none }
def Hf(a:List Int)(b:Nat):Prop:=IdxHead (fun (d:Int)=>decide (d<Z0)) a b
def Qc0(a:List Int):Int:=Gy (fun (d:Int)=>decide (d<Z0)) a N0
def Qlj(a:List Int):D:=SI a
theorem BeT(l:List Int)(hl:l.length<=maxLen):ACalls Try.prog 67 [isl l .any,.fn (.func 60) [] []] ⟨[],[]⟩ (SpecR (sC [isl l .any,.fn (.func 60) [] []] (.int .i64 (Gy (fun d=>decide (d<0)) l 0))) ()):=by
 refine Bo (A:=sC _ _) (x:=()) (E:=Eneg l) (eOk BN rfl) Try.func67 rfl (by kernel_rfl) rfl (by simp[sC,Eneg,EC,E0]) ?_
 refine Bu (T :=
  (∃(x:Nat),Hf l x/\(Z0=(↑x:Int)/\True)/\True/\True)/\∀(x:Nat),Hf l x->ifB (decide ((↑x:Int)<(LI l))) (Bc (Z0<=(↑x:Int)/\(↑x:Int)<(LI l)) (True/\ifB (decide (GI l (Int.toNat (↑x:Int))<Z0)) (RT ((↑x:Int)=Qc0 l)) ((SM (Qlj l)/\SM (D.fn (Fn.func (60:Nat)) [] [])/\SM D.unk/\SM (ZI (LI l))/\True)/\∃(y:Nat),Hf l y/\LN l-y<LN l-x/\(IntKind.wrap IntKind.i64 ((↑x:Int)+Z1)=(↑y:Int)/\True)/\True/\True))) (RT ((-1:Int)=Qc0 l))) (by kernel_rfl) ?_
 delta GI LI LN N0 N1 SI SM Z0 Z1 ZI Hf Qc0 Qlj RT
 simp only[Int.toNat_natCast,Bl,Be,decide_eq_true_eq,decide_eq_false_iff_not,true_and,and_true,exists_const]
 simp only[maxLen] at hl
 refine⟨⟨0,⟨Nat.zero_le _,by simp⟩,rfl⟩,fun i hh=>⟨fun hlt=>?_,fun hge=>(hh.done hge).symm⟩⟩
 have hlt':i<l.length:=by omega
 obtain ⟨s1,s2⟩:=hh.step hlt'
 exact⟨by omega,fun h=>(s1 (decide_eq_true h)).symm,fun h=>⟨i+1,s2 (decide_eq_false h),by omega,Bb (by omega) (by omega)⟩⟩
theorem BP(l:List Int):IntsP l.length (fun i=>[D.int .i64 (l.getD i 0)]):=fun _ _=>rfl
def Tf:Con:=fun k ds S=>match k with
 |71=>match ds with
  | [.sl 1 n f _,.int .i64 v]=>some (pC ds (.int .i64 (Gy (fun d=>v==d) (BL n f) 0)) (IntsP n f/\n<=maxLen))
  |_=>none
 |67=>match ds with
  | [.sl 1 n f _,.fn (.func 60) [] []]=>some (pC ds (.int .i64 (Gy (fun d=>decide (d<0)) (BL n f) 0)) (IntsP n f/\n<=maxLen))
  |_=>none
 |38=>match ds with
  | [.sl 1 n f _]=>some (pC ds (.bool (Bi (BL n f))) (IntsP n f))
  |_=>none
 |62=>match ds with
  | [.sl 1 n f _]=>some (pC ds (.int .i64 ((goO (BL n f) 1).getD 65537)) (IntsP n f/\(∀z∈BL n f,0<=z)/\n<=maxLen))
  |_=>none
 |k=>conR k ds S
theorem Er(n:Nat)(f:Nat->List D):(BL n f).length=n:=by simp[BL]
theorem CT{k:Nat}{ds us:List D}{d:D}(hw:Br ds us)(h:ACalls Try.prog k us ⟨[],[]⟩ (SpecR (sC us d) ())):ACalls Try.prog k ds ⟨[],[]⟩ (SpecR (sC ds d) ()) :=
 (ACalls.weakArgs h hw).mono fun _ _ ⟨_,_h1,h2,h3⟩=>⟨(),trivial,h2,h3⟩
theorem IX:ConOk Try.prog Tf:=by
 intro k ds S A h
 unfold Tf at h
 split at h
 ·split at h
  ·injection h with h;subst h
   exact EA fun ⟨h1,h2⟩=>⟨Bh _,CT (us:=[isl (BL _ _) .any,_]) ⟨(Cu h1).1,Bd _,trivial⟩ (BeP _ _ (by rw[Er];exact h2))⟩
  ·cases h
 ·split at h
  ·injection h with h;subst h
   exact EA fun ⟨h1,h2⟩=>⟨Bh _,CT (us:=[isl (BL _ _) .any,_]) ⟨(Cu h1).1,Bd _,trivial⟩ (BeT _ (by rw[Er];exact h2))⟩
  ·cases h
 ·split at h
  ·injection h with h;subst h
   exact EA fun h1=>⟨Bh _,CT (Cu h1) (Gb _)⟩
  ·cases h
 ·split at h
  ·injection h with h;subst h
   exact EA fun ⟨h1,h2,h3⟩=>⟨Bh _,CT (Cu h1) (BcD _ h2 (by rw[Er];exact h3))⟩
  ·cases h
 ·exact BdD _ _ _ _ h
noncomputable def Eprod(l:List Int):Senv:={ EC Tf 19 1 [2,3,5,7,8,9,10,11] (fun _=>([],[])) with
 ann:=fun b _ _=>match b with
  |0=>some { slots:=[10,3],keep:=[8,9],α:=Nat×Int,st:=fun y=>([.int .i64 y.1,.int .i64 y.2],⟨[],[]⟩),inv:=fun y=>GoHead l y.1 y.2,mu:=fun y=>l.length-y.1 }
  |_=>none }
def Qlk(a:List Int):D:=SI a
theorem BaF(l:List Int)(h:Bi l=true):ACalls Try.prog 58 [isl l .any] ⟨[],[]⟩ (SpecR (sC [isl l .any] (.int .i64 (B5 l))) ()):=by
 refine Bo (A:=sC _ _) (x:=()) (E:=Eprod l) (eOk IX rfl) Try.func58 rfl (by kernel_rfl) rfl (by simp[sC,Eprod,EC,E0]) ?_
 refine Bu (T :=
  ((IntsP (LN l) fun i=>[ZI (GI l i)])/\LN l<=9223372036854775807)/\∀(y:Unit),True->True/\ifB (decide (Z0<=Gy (fun (d:Int)=>Z0==d) (BL (LN l) fun i=>[ZI (GI l i)]) N0)) (RT (Z0=B5 l)) ((∃(x:Nat×Int),GoHead l x.1 x.2/\(Z0=(NI x.1)/\Z1=x.2/\True)/\True/\True)/\∀(x:Nat×Int),GoHead l x.1 x.2->ifB (decide ((NI x.1)<(LI l))) (Bc (Z0<=(NI x.1)/\(NI x.1)<(LI l)) ((SM (Qlk l)/\SM (ZI (LI l))/\True)/\∃(y:Nat×Int),GoHead l y.1 y.2/\LN l-y.1<LN l-x.1/\(IntKind.wrap IntKind.i64 ((NI x.1)+Z1)=(NI y.1)/\IntKind.wrap IntKind.i64 (x.2*GI l (TN x.1))=y.2/\True)/\True/\True)) (RT (x.2=B5 l)))) (by kernel_rfl) ?_
 delta GI LI LN N0 N1 NI SI SM TN Z0 Z1 ZI Qlk RT
 simp only[CE,ED,Int.toNat_natCast,Bl,Be,decide_eq_true_eq,decide_eq_false_iff_not,true_and,and_true,exists_const]
 simp only[Bi,Bool.and_eq_true,decide_eq_true_eq] at h
 have hcon:(l.any fun d=>0==d)=l.contains 0:=by
  rw[Bool.eq_iff_iff,List.contains_iff_mem,List.any_eq_true]
  constructor
  ·rintro ⟨z,hz,e⟩
   have e:0=z:=by simpa using e
   rw[e];exact hz
  ·exact fun hm=>⟨0,hm,rfl⟩
 rw[hcon]
 refine⟨⟨BP l,by omega⟩,fun _ _=>⟨fun hz=>by rw[B5,if_pos hz],fun hz=>⟨⟨(0,1),GoHead.init l,rfl,rfl⟩,?_⟩⟩⟩
 rintro ⟨i,p⟩ hh
 simp only at hh ⊢
 refine⟨fun hlt=>?_,fun hge=>by rw[B5,if_neg (by rw[hz];exact Bool.false_ne_true),hh.done hge];rfl⟩
 have hlt':i<l.length:=by omega
 obtain ⟨s1,s2,s3,s4⟩:=hh.step hlt'
 have hne:l.getD i 0≠0:=by
  intro e
  have:l.contains 0=true:=by
   rw[List.contains_iff_mem,<- e,List.getD_eq_getElem?_getD,List.getElem?_eq_getElem hlt'];exact List.getElem_mem hlt'
  rw[this] at hz;cases hz
 have n1:¬l.getD i 0<0:=fun e=>by rw[s1 e] at h;exact absurd h.2 (by simp)
 have n2:¬65536<l.getD i 0:=fun e=>by rw[s2 e] at h;exact absurd h.2 (by simp)
 obtain ⟨b1,b2,s5,s6⟩:=s4 n1 n2
 have n3:¬65536<p*l.getD i 0:=fun e=>by rw[s5 e hne] at h;exact absurd h.2 (by simp)
 exact⟨by omega,(i+1,p*l.getD i 0),s6 n3 hne,by simp only;omega,Bb (by omega) (by omega),Bb (by omega) (by omega)⟩
noncomputable def Edims(l:List Int):Senv:={ EC Tf 21 1 [2,3,6,10,17,20] (fun _=>([],[])) with
 ann:=fun b _ _=>match b with
  |0=>some { slots:=[3],keep:=[0],α:=Nat,st:=fun i=>([.int .i64 i],⟨[],[]⟩),inv:=fun i=>i<=l.length/\∀z∈l.take i,0<=z,mu:=fun i=>l.length-i }
  |_=>none }
theorem T8:∀(l:List Int) (p:Int),p<=65536->∀q,goO l p=some q->q<=65536
 | [],p,hp,q,h=>by rw[goO] at h;injection h with h;omega
 |d::r,p,hp,q,h=>by
  rw[goO] at h
  split at h
  ·cases h
  ·split at h
   ·exact T8 r p hp q h
   ·split at h
    ·cases h
    ·exact T8 r _ (by omega) q h
def B8(s:List Int):Int:=if 8<s.length then 15 else if s.any (fun d=>decide (d<0)) then 16 else if (goO s 1).isSome then 0 else 21
def Xx(a:List Int):Int:=B8 a
def Hg(a:Nat)(b:List Int):Prop:=a<=LN b/\∀(z:Int),z∈List.take a b->Z0<=z
def Qll(a:List Int):D:=SI a
def Qc1(a:List Int):List Int:=BL (LN a) fun i=>[ZI (GI a i)]
theorem Bd0(l:List Int):ACalls Try.prog 52 [isl l .any] ⟨[],[]⟩ (SpecR (sC [isl l .any] (.int .i64 (B8 l))) ()):=by
 refine Bo (A:=sC _ _) (x:=()) (E:=Edims l) (eOk IX rfl) Try.func52 rfl (by kernel_rfl) rfl (by simp[sC,Edims,EC,E0]) ?_
 refine Bu (T :=
  ifB (decide ((8:Int)<(LI l))) (RT ((15:Int)=Xx l)) ((∃(x:Nat),Hg x l/\(Z0=(↑x:Int)/\True)/\True/\True)/\∀(x:Nat),Hg x l->ifB (decide ((↑x:Int)<(LI l))) (Bc (Z0<=(↑x:Int)/\(↑x:Int)<(LI l)) (ifB (decide (GI l (Int.toNat (↑x:Int))<Z0)) (RT ((16:Int)=Xx l)) ((SM (Qll l)/\True)/\∃(y:Nat),Hg y l/\LN l-y<LN l-x/\(IntKind.wrap IntKind.i64 ((↑x:Int)+Z1)=(↑y:Int)/\True)/\True/\True))) (((IntsP (LN l) fun i=>[ZI (GI l i)])/\(∀(z:Int),z∈Qc1 l->Z0<=z)/\LN l<=9223372036854775807)/\∀(y:Unit),True->ifB (decide ((65536:Int)<Option.getD (goO (Qc1 l) Z1) (65537:Int))) (RT ((21:Int)=Xx l)) (RT (Z0=Xx l))))) (by kernel_rfl) ?_
 delta GI LI LN N1 SI SM Z0 Z1 ZI Xx Hg Qll Qc1 RT
 simp only[CE,Int.toNat_natCast,Bl,Be,decide_eq_true_eq,decide_eq_false_iff_not,true_and,and_true,exists_const]
 have tk:∀i,i<l.length->∀P:Int->Prop,(∀z∈l.take i,P z)->P (l.getD i 0)->∀z∈l.take (i+1),P z:=fun i hi P h1 h2 z hz=>by
  rw[List.take_add_one,List.mem_append] at hz
  rcases hz with hz | hz
  ·exact h1 z hz
  ·rw[List.getElem?_eq_getElem hi] at hz
   simp at hz
   rw[hz]
   simpa[List.getD_eq_getElem?_getD,hi] using h2
 refine⟨fun h=>?_,fun h8=>⟨⟨0,⟨Nat.zero_le _,by simp⟩,rfl⟩,fun i hh=>⟨fun hlt=>?_,fun hge=>?_⟩⟩⟩
 ·have:8<l.length:=by omega
  simp[B8,this]
 ·have hlt':i<l.length:=by omega
  have h8':¬8<l.length:=by omega
  refine⟨by omega,fun h=>?_,fun h=>⟨i+1,⟨by omega,tk i hlt' _ hh.2 (by omega)⟩,by omega,Bb (by omega) (by omega)⟩⟩
  have:l.any (fun d=>decide (d<0))=true:=by
   rw[List.any_eq_true]
   refine⟨l.getD i 0,?_,decide_eq_true h⟩
   rw[List.getD_eq_getElem?_getD,List.getElem?_eq_getElem hlt'];exact List.getElem_mem hlt'
  rw[B8,if_neg h8',if_pos this]
 ·have hi:i=l.length:=by omega
  rw[hi,List.take_length] at hh
  have h8':¬8<l.length:=by omega
  have hnn:¬l.any (fun d=>decide (d<0))=true:=by
   rw[List.any_eq_true]
   rintro ⟨z,hz,h⟩
   have:=hh.2 z hz
   simp at h
   omega
  refine⟨⟨BP l,hh.2,by omega⟩,fun _ _=>?_⟩
  rw[B8,if_neg h8',if_neg hnn]
  have hb:=T8 l 1 (by omega)
  cases hg:goO l 1 with
  |none=>simp
  |some p=>have:=hb p hg;simp;omega
noncomputable def Ecount(l:List Int):Senv:={ EC Tf 17 1 [2,3,7,14] (fun _=>([],[])) with
 ann:=fun b _ _=>match b with
  |0=>some { slots:=[3],keep:=[0],α:=Nat,st:=fun i=>([.int .i64 i],⟨[],[]⟩),inv:=fun i=>i<=l.length/\∀z∈l.take i,z≠0,mu:=fun i=>l.length-i }
  |_=>none }
def Hh(a:Nat)(b:List Int):Prop:=a<=LN b/\∀(z:Int),z∈List.take a b->z≠Z0
def Qlm(a:List Int):D:=SI a
def Qc2(a:List Int):List Int:=BL (LN a) fun i=>[ZI (GI a i)]
theorem BcW(l:List Int)(h:B8 l=0):ACalls Try.prog 53 [isl l .any] ⟨[],[]⟩ (SpecR (sC [isl l .any] (.int .i64 (B5 l))) ()):=by
 refine Bo (A:=sC _ _) (x:=()) (E:=Ecount l) (eOk IX rfl) Try.func53 rfl (by kernel_rfl) rfl (by simp[sC,Ecount,EC,E0]) ?_
 refine Bu (T :=
  (∃(x:Nat),Hh x l/\(Z0=(↑x:Int)/\True)/\True/\True)/\∀(x:Nat),Hh x l->ifB (decide ((↑x:Int)<(LI l))) (Bc (Z0<=(↑x:Int)/\(↑x:Int)<(LI l)) (ifB (GI l (Int.toNat (↑x:Int))==Z0) (RT (Z0=B5 l)) ((SM (Qlm l)/\True)/\∃(y:Nat),Hh y l/\LN l-y<LN l-x/\(IntKind.wrap IntKind.i64 ((↑x:Int)+Z1)=(↑y:Int)/\True)/\True/\True))) (((IntsP (LN l) fun i=>[ZI (GI l i)])/\(∀(z:Int),z∈Qc2 l->Z0<=z)/\LN l<=9223372036854775807)/\∀(y:Unit),True->RT (Option.getD (goO (Qc2 l) Z1) (65537:Int)=B5 l))) (by kernel_rfl) ?_
 delta GI LI LN N1 SI SM Z0 Z1 ZI Hh Qlm Qc2 RT
 simp only[CE,Int.toNat_natCast,Bl,Be,decide_eq_true_eq,decide_eq_false_iff_not,true_and,and_true,exists_const]
 have tk:∀i,i<l.length->∀P:Int->Prop,(∀z∈l.take i,P z)->P (l.getD i 0)->∀z∈l.take (i+1),P z:=fun i hi P h1 h2 z hz=>by
  rw[List.take_add_one,List.mem_append] at hz
  rcases hz with hz | hz
  ·exact h1 z hz
  ·rw[List.getElem?_eq_getElem hi] at hz
   simp at hz
   rw[hz]
   simpa[List.getD_eq_getElem?_getD,hi] using h2
 have hl8:l.length<=8:=by
  unfold B8 at h
  split at h
  ·cases h
  ·omega
 have hnn:∀z∈l,0<=z:=by
  intro z hz
  unfold B8 at h
  split at h
  ·cases h
  ·split at h
   ·cases h
   ·rename_i hn
    rw[List.any_eq_true] at hn
    by_cases h0:z<0
    ·exact (hn ⟨z,hz,decide_eq_true h0⟩).elim
    ·omega
 have hg:(goO l 1).isSome=true:=by
  unfold B8 at h
  (repeat' split at h)<;>first | assumption | (cases h;done)
 refine⟨⟨0,⟨Nat.zero_le _,by simp⟩,rfl⟩,fun i hh=>⟨fun hlt=>?_,fun hge=>?_⟩⟩
 ·have hlt':i<l.length:=by omega
  refine⟨by omega,fun h=>?_,fun h=>⟨i+1,⟨by omega,tk i hlt' _ hh.2 (by simpa using h)⟩,by omega,Bb (by omega) (by omega)⟩⟩
  have h0:l.getD i 0=0:=by simpa using h
  have:l.contains 0=true:=by
   rw[List.contains_iff_mem,<- h0,List.getD_eq_getElem?_getD,List.getElem?_eq_getElem hlt'];exact List.getElem_mem hlt'
  rw[B5,if_pos this]
 ·have hi:i=l.length:=by omega
  rw[hi,List.take_length] at hh
  refine⟨⟨BP l,hnn,by omega⟩,fun _ _=>?_⟩
  have:¬l.contains 0=true:=by
   rw[List.contains_iff_mem]
   exact fun hm=>hh.2 0 hm rfl
  rw[B5,if_neg this]
  cases hgo:goO l 1 with
  |none=>rw[hgo] at hg;cases hg
  |some p=>rfl
def BC(k:Int)(s:List Int)(nn ni:Nat):Int :=
 if k=1\/k=2\/k=3 then
  if B8 s≠0 then B8 s
  else if ((if k=3 then (ni:Int) else nn)≠B5 s)\/((if k=3 then (nn:Int) else ni)≠0) then 16 else 0
 else 14
def Tx:Con:=fun k ds S=>match k with
 |58=>match ds with
  | [.sl 1 n f _]=>some (pC ds (.int .i64 (B5 (BL n f))) (IntsP n f/\Bi (BL n f)=true))
  |_=>none
 |52=>match ds with
  | [.sl 1 n f _]=>some (pC ds (.int .i64 (B8 (BL n f))) (IntsP n f))
  |_=>none
 |53=>match ds with
  | [.sl 1 n f _]=>some (pC ds (.int .i64 (B5 (BL n f))) (IntsP n f/\B8 (BL n f)=0))
  |_=>none
 |k=>Tf k ds S
theorem IM:ConOk Try.prog Tx:=by
 intro k ds S A h
 unfold Tx at h
 split at h
 ·split at h
  ·injection h with h;subst h
   exact EA fun ⟨h1,h2⟩=>⟨Bh _,CT (Cu h1) (BaF _ h2)⟩
  ·cases h
 ·split at h
  ·injection h with h;subst h
   exact EA fun h1=>⟨Bh _,CT (Cu h1) (Bd0 _)⟩
  ·cases h
 ·split at h
  ·injection h with h;subst h
   exact EA fun ⟨h1,h2⟩=>⟨Bh _,CT (Cu h1) (BcW _ h2)⟩
  ·cases h
 ·exact IX _ _ _ _ h
noncomputable def Eform:Senv:=EC Tx 44 5 [12,13,16,20,25,29,34] (fun id=>match id with | 1=>([0,1,2,3,4,5,6,7],[]) | _=>([],[]))
def JH(a:List Int):Prop:=IntsP (LN a) fun i=>[ZI (GI a i)]
def Qc3(a:List Int):Prop:=JH a/\LN a<=9223372036854775807
def Hi(a:List Int):List Int:=BL (LN a) fun i=>[ZI (GI a i)]
def Qc4(a:List Int):Bool:=decide (Z0<=Gy (fun (d:Int)=>decide (d<Z0)) (Hi a) N0)
def Je(a:Int)(b:List Int)(c d:Nat):Prop:=RT ((16:Int)=BC a b c d)
def Qc5(a:List Int):Bool:=Bi (Hi a)
def Xy(a:List Int):Bool:=!Qc5 a
def Qc6(a:Int)(b:List Int)(c d:Nat):Prop:=True/\Je a b c d
def Qc7(a:List Int):Prop:=JH a/\Qc5 a=true
def Qc8(a:Nat)(b:List Int):Bool:=(↑a:Int) != B5 (Hi b)
def Qc9(a:Nat)(b:List Int)(c:Int)(d e:Nat):Prop:=SM a/\ifB (decide ((8:Int)<(LI b))) (RT ((15:Int)=BC c b d e)) (SM a/\Qc3 b/\∀(_y:Unit),True->True/\ifB (Qc4 b) (Je c b d e) (SM a/\JH b/\∀(_y:Unit),True->ifB (Xy b) (RT ((21:Int)=BC c b d e)) (SM a/\JH b/\∀(_y:Unit),True->ifB (Xy b) (Qc6 c b d e) (Qc7 b/\∀(_y:Unit),True->True/\ifB (Qc8 d b) (Je c b d e) (ifB ((↑e:Int) != Z0) (Je c b d e) (RT (Z0=BC c b d e)))))))
def Qda(a:Int)(b:Nat)(c:List Int)(d e:Nat):Prop:=ifB (a==3) (SM b/\ifB (decide ((8:Int)<(LI c))) (RT ((15:Int)=BC a c d e)) (SM b/\Qc3 c/\∀(_y:Unit),True->True/\ifB (Qc4 c) (Je a c d e) (SM b/\JH c/\∀(_y:Unit),True->ifB (Xy c) (RT ((21:Int)=BC a c d e)) (SM b/\JH c/\∀(_y:Unit),True->ifB (Xy c) (Qc6 a c d e) (Qc7 c/\∀(_y:Unit),True->True/\ifB (Qc8 e c) (Je a c d e) (ifB ((↑d:Int) != Z0) (Je a c d e) (RT (Z0=BC a c d e)))))))) (RT ((14:Int)=BC a c d e))
theorem BdB(k : Int)(s : List Int)(nn ni : Nat)(g h : Nat -> List D)(hs : s.length<=maxLen)(hn : nn<=maxLen)(hi : ni<=maxLen) :
  ACalls Try.prog 43 [.agg [.int .i64 k,isl s .any,.sl 1 nn g .any,.sl 4 ni h .any]] ⟨[],[]⟩ (SpecR (sC [.agg [.int .i64 k,isl s .any,.sl 1 nn g .any,.sl 4 ni h .any]] (.int .i64 (BC k s nn ni))) ()):=by
 refine Bo (A:=sC _ _) (x:=()) (E:=Eform) (eOk IM rfl) Try.func43 rfl (by kernel_rfl) rfl (by simp[sC,Eform,EC,E0]) ?_
 refine Bu (T :=
  ∀(x:Nat),True->SM x/\SM x/\SM x/\ifB (k==Z1) (ifB (k==Z1) (Qc9 x s k nn ni) (Qda k x s nn ni)) (ifB (k==2) (Qc9 x s k nn ni) (Qda k x s nn ni))) (by kernel_rfl) ?_
 delta GI LI LN N0 SM Z0 Z1 ZI JH Qc3 Qc9 Qda Hi Qc4 Je Qc5 Xy Qc6 Qc7 Qc8 RT
 simp only[CE,ED,Bl,decide_eq_true_eq,decide_eq_false_iff_not,true_and,and_true,beq_iff_eq,bne_iff_ne,beq_eq_false_iff_ne,ne_eq,exists_const,forall_const]
 simp only[maxLen] at hs hn hi
 have n8:(8<(s.length:Int))↔8<s.length:=by omega
 simp only[n8]
 repeat' (first
  |exact BP s
  |refine And.intro ?_ ?_
  |intro _)
 all_goals first
  |omega
  |(simp_all[BC,B8,Bi];done)
  |grind [BC,B8,Bi]
  |skip
 all_goals trace_state
def Arr.k:Arr->Int | .mk k _ _ _=>k
def Arr.sh:Arr->List Int | .mk _ s _ _=>s
def Arr.nu:Arr->List Int | .mk _ _ n _=>n
def Arr.it:Arr->List Arr | .mk _ _ _ i=>i
def Arr.row1(a:Arr):List D:=[.int .i64 a.k,isl a.sh .any,isl a.nu .any,gsl 4 Arr.row a.it]
def Arr.row2(a:Arr):List D:=[.int .i64 a.k,isl a.sh .any,isl a.nu .any,gsl 4 Arr.row1 a.it]
theorem Bay(l:List Arr):(IR l).length=l.length:=by rw[Cq];simp
theorem BeE(a:Arr):wkL a.row a.row1:=by
 cases a with
 |mk k s n is =>
  simp only[Arr.row,Arr.row1,Arr.k,Arr.sh,Arr.nu,Arr.it,gsl,isl,wkL,wkD,Bf,Ba]
  refine⟨⟨by simp[kEq],trivial⟩,⟨by simp,trivial,fun i _=>by simp[kEq],by simp[Bw]⟩,⟨by simp,trivial,fun i _=>by simp[kEq],by simp[Bw]⟩,⟨by simp,Bay is,fun i hi=>?_,by simp[Bw]⟩,trivial⟩
  rw[Bay] at hi
  have:(IR is).getD i []=(is.getD i default).row:=by
   rw[Cq];simp[List.getD_eq_getElem?_getD,hi]
  rw[this]
  exact Bg _
theorem Cy(a:Arr):wkL a.row1 a.row2:=by
 simp only[Arr.row1,Arr.row2,gsl,isl,wkL,wkD,Bf,Ba]
 exact⟨⟨by simp[kEq],trivial⟩,⟨by simp,trivial,fun i _=>by simp[kEq],by simp[Bw]⟩,⟨by simp,trivial,fun i _=>by simp[kEq],by simp[Bw]⟩,⟨by simp,trivial,fun i _=>BeE _,by simp[Bw]⟩,trivial⟩
def O1(z:Int):Bool:=decide (-4611686018427387903<=z)&&decide (z<=4611686018427387903)
def Ui(z:Int):Bool:=decide (0<=z)&&decide (z<=1114111)&&(decide (z<55296)||decide (57343<z))
def CY(k z:Int):Bool:=(k==1&&!O1 z)||(k==2&&!Ui z)
mutual
def Bj:Arr->Int×Int×Int
 |.mk k s n is =>
  if BC k s n.length is.length≠0 then (BC k s n.length is.length,0,0)
  else if n.any (CY k) then (17,0,0)
  else match Cd is 0 ((n.length:Int)+is.length) with
   |none=>(17,0,0)
   |some r=>if 16<r.1\/262144<r.2 then (21,0,0) else (0,r.1,r.2)
def Cd:List Arr->Int->Int->Option (Int×Int)
 | [],d,w=>some (d,w)
 |x::r,d,w=>if (Bj x).1≠0 then none else Cd r (if d<(Bj x).2.1+1 then (Bj x).2.1+1 else d) (if 262145<w+(Bj x).2.2 then 262145 else w+(Bj x).2.2)
end
theorem Wb:∀(l:List Arr) (d w d' w':Int),Cd l d w=some (d',w')->0<=d->0<=w->(∀x∈l,(Bj x).1=0->0<=(Bj x).2.1/\0<=(Bj x).2.2)->0<=d'/\0<=w'
 | [],d,w,d',w',h,h1,h2,_=>by
  rw[Cd] at h;injection h with h;injection h with e1 e2;omega
 |x::r,d,w,d',w',h,h1,h2,h3=>by
  rw[Cd] at h
  split at h
  ·cases h
  ·rename_i hx
   have hx:(Bj x).1=0:=by simpa using hx
   have:=h3 x (by simp) hx
   refine Wb r _ _ d' w' h ?_ ?_ fun y hy=>h3 y (by simp[hy])
   ·split<;>omega
   ·split<;>omega
theorem Eb:∀(a:Arr),(0<=(Bj a).2.1/\(Bj a).2.1<=16)/\0<=(Bj a).2.2/\(Bj a).2.2<=262144
 |.mk k s n is=>by
  rw[Bj]
  split
  ·simp
  ·split
   ·simp
   ·split
    ·simp
    ·rename_i r hr
     split
     ·simp
     ·rename_i hb
      have:=Wb is 0 _ r.1 r.2 hr (by omega) (by omega) fun x hx _=>by
       have:=Eb x
       omega
      simp only
      omega
termination_by a=>SizeOf.sizeOf a
decreasing_by
 have:=List.sizeOf_lt_of_mem hx
 simp;omega
noncomputable def Enum:Senv:=EC E5 9 1 [2] (fun _=>([],[]))
def Hj(a:Int):Bool:=bif decide ((-4611686018427387903:Int)<=a) then decide (a<=4611686018427387903) else false
theorem Be7(z:Int):ACalls Try.prog 44 [.int .i64 z] ⟨[],[]⟩ (SpecR (sC [.int .i64 z] (.bool (O1 z))) ()):=by
 refine Bo (A:=sC _ _) (x:=()) (E:=Enum) (eOk BN rfl) Try.func44 rfl (by kernel_rfl) rfl (by simp[sC,Enum,EC,E0]) ?_
 refine Bu (T :=
  ifB (decide ((-4611686018427387903:Int)<=z)) (decide (z<=4611686018427387903)=Hj z/\True) (false=Hj z/\True)/\RT (Hj z=O1 z)) (by kernel_rfl) ?_
 delta Hj RT
 simp only[Bl,decide_eq_true_eq,decide_eq_false_iff_not,true_and,and_true,Bool.cond_false_right,exists_const]
 refine⟨⟨fun h=>by rw[decide_eq_true h];rfl,fun h=>by rw[decide_eq_false h];rfl⟩,rfl⟩
noncomputable def Echr:Senv:=EC E5 17 1 [2] (fun _=>([],[]))
def Xz(a:Int):Bool:=bif bif decide (Z0<=a) then decide (a<=1114111) else false then bif decide (a<55296) then true else decide ((57343:Int)<a) else false
def Qdb(a:Int):Prop:=false=Xz a/\True
theorem Bew(z:Int):ACalls Try.prog 45 [.int .i64 z] ⟨[],[]⟩ (SpecR (sC [.int .i64 z] (.bool (Ui z))) ()):=by
 refine Bo (A:=sC _ _) (x:=()) (E:=Echr) (eOk BN rfl) Try.func45 rfl (by kernel_rfl) rfl (by simp[sC,Echr,EC,E0]) ?_
 refine Bu (T :=
  ifB (decide (Z0<=z)) (ifB (decide (z<=1114111)) (ifB (decide (z<55296)) (true=Xz z/\True) (decide ((57343:Int)<z)=Xz z/\True)) (Qdb z)) (Qdb z)/\RT (Xz z=Ui z)) (by kernel_rfl) ?_
 delta Z0 Xz Qdb RT
 simp only[Bl,decide_eq_true_eq,decide_eq_false_iff_not,true_and,and_true,Bool.cond_false_right,Bool.cond_true_left,exists_const]
 refine⟨⟨fun h1=>⟨fun h2=>⟨fun h3=>by simp[h1,h2,h3],fun h3=>by simp[h1,h2,h3]⟩,fun h2=>by simp[h1,h2]⟩,fun h1=>by simp[h1]⟩,rfl⟩
def E4(row:Arr->List D)(xb:Nat)(q:Arr->Prop):FnSpec where
 β:=Arr
 α:=Unit
 args:=fun a=>[.agg (row a),.ref 1 xb 0]
 st:=fun _=>⟨[(1,xb,.cells [.fn (.func 42) [] [.ref 1 xb 0]])],[]⟩
 pre:=q
 post:=fun _ _=>True
 res:=fun a _=>.ret (.tup [.int .i64 (Bj a).1,.int .i64 (Bj a).2.1,.int .i64 (Bj a).2.2])
 out:=fun _ _=>⟨[(1,xb,.cells [.fn (.func 42) [] [.ref 1 xb 0]])],[]⟩
def RD(xb:Nat)(its:List Arr):Con:=fun k ds S=>match k with
 |42=>some (E4 Arr.row1 xb (fun b=>b∈its))
 |43=>match ds with
  | [.agg [.int .i64 k,.sl 1 n f _,.sl 1 nn _g _,.sl 4 ni _h _]]=>some (pC ds (.int .i64 (BC k (BL n f) nn ni)) (IntsP n f/\n<=maxLen/\nn<=maxLen/\ni<=maxLen))
  |_=>none
 |44=>match ds with
  | [.int .i64 z]=>some (pC [.int .i64 z] (.bool (O1 z)) True)
  |_=>none
 |45=>match ds with
  | [.int .i64 z]=>some (pC [.int .i64 z] (.bool (Ui z)) True)
  |_=>none
 |k=>Tx k ds S
theorem Bbc{xb:Nat}{its:List Arr}(ih:∀b∈its,ACalls Try.prog 42 ((E4 Arr.row2 xb (fun _=>True)).args b) ((E4 Arr.row2 xb (fun _=>True)).st b) (SpecR (E4 Arr.row2 xb (fun _=>True)) b)):ConOk Try.prog (RD xb its):=by
 intro k ds S A h
 unfold RD at h
 split at h
 ·injection h with h;subst h
  refine ConOk.plain (fun b hb=>?_) rfl rfl
  refine ((ih b hb).wkArgs ?_).mono fun _ _ ⟨y,h1,h2,h3⟩=>⟨y,h1,h2,h3⟩
  simp only[E4,wkL,wkD]
  exact⟨Cy b,by simp[Bf,Ba]⟩
 ·split at h
  ·rename_i k n f _ nn g _ ni g' _
   injection h with h;subst h
   refine EA fun ⟨h1,h2,h3,h4⟩=>⟨Bh _,CT (us:=[.agg [.int .i64 k,isl (BL n f) .any,.sl 1 nn g .any,.sl 4 ni g' .any]]) ?_ (BdB _ _ _ _ _ _ (by rw[Er];exact h2) h3 h4)⟩
   refine⟨?_,trivial⟩
   simp only[Bf,Br]
   refine⟨by simp[Ba,kEq],(Cu h1).1,?_,?_,trivial⟩
   ·simp[Ba,Bw]
   ·simp[Ba,Bw]
  ·cases h
 ·split at h
  ·injection h with h;subst h
   exact EA fun _=>⟨Bh _,Be7 _⟩
  ·cases h
 ·split at h
  ·injection h with h;subst h
   exact EA fun _=>⟨Bh _,Bew _⟩
  ·cases h
 ·exact IM _ _ _ _ h
theorem Ur(a : Arr) : Bj a=if BC a.k a.sh a.nu.length a.it.length≠0 then (BC a.k a.sh a.nu.length a.it.length, 0, 0)
  else if a.nu.any (CY a.k) then (17,0,0)
  else match Cd a.it 0 ((a.nu.length:Int)+a.it.length) with
   |none=>(17,0,0)
   |some r=>if 16<r.1\/262144<r.2 then (21,0,0) else (0,r.1,r.2):=by
 cases a with
 |mk k s n is=>rw[Bj];rfl
theorem Bcu{s:List Int}:B5 s<=65536:=by
 unfold B5
 split
 ·omega
 ·cases hg:goO s 1 with
  |none=>simp
  |some p=>have:=T8 s 1 (by omega) p hg;simpa using this
theorem Ez{k:Int}{s:List Int}{nn ni:Nat}(h:BC k s nn ni=0):nn<=65536/\ni<=65536:=by
 have hs:=Bcu (s:=s)
 unfold BC at h
 by_cases hk:k=1\/k=2\/k=3
 ·rw[if_pos hk] at h
  by_cases hd:B8 s≠0
  ·rw[if_pos hd] at h;exact (hd h).elim
  ·rw[if_neg hd] at h
   by_cases hc:((if k=3 then (ni:Int) else nn)≠B5 s)\/((if k=3 then (nn:Int) else ni)≠0)
   ·rw[if_pos hc] at h;omega
   ·simp only[not_or,ne_eq,Decidable.not_not] at hc
    obtain ⟨c1,c2⟩:=hc
    by_cases k3:k=3<;>simp only[k3,if_true,if_false] at c1 c2<;>omega
 ·rw[if_neg hk] at h;omega
theorem Ch{α:Type}[Inhabited α]{l:List α}{i:Nat}(h:i<l.length):l.getD i default∈l:=by
 rw[List.getD_eq_getElem?_getD,List.getElem?_eq_getElem h];exact List.getElem_mem h
def cutV(k:Int)(d8:D)(S:St):Option LoopAnn :=
 match d8 with
 |.int _ z=>some { slots:=[45],keep:=[],α:=Unit,st:=fun _=>([.bool (CY k z)],S),inv:=fun _=>True,mu:=fun _=>0 }
 |_=>none
noncomputable def Evis(xb:Nat)(a:Arr):Senv:={ EC (RD xb a.it) 87 7 [8,9,10,12,13,14,15,19,22,23,24,25,45,55,56,57,58,69,84] (fun id=>match id with | 10=>([0,1,2,3,4,5,6,7,8],[]) | _=>([],[])) with
 cut:=fun id env S=>match id with
  |7=>cutV a.k (Ab.look env 8) S
  |_=>none
 ann:=fun b _ S=>match b with
  |0=>some { slots:=[24],keep:=[0,1,2,22,23],α:=Nat,st:=fun i=>([.int .i64 i],S),inv:=fun i=>i<=a.nu.length/\∀z∈a.nu.take i,CY a.k z=false,mu:=fun i=>a.nu.length-i }
  |2=>some { slots:=[57,9,10],keep:=[0,1,2,55,56],α:=Nat×Int×Int,st:=fun y=>([.int .i64 y.1,.int .i64 y.2.1,.int .i64 y.2.2],S),inv:=fun y=>y.1<=a.it.length/\0<=y.2.1/\y.2.1<=17/\0<=y.2.2/\y.2.2<=262145/\Cd (a.it.drop y.1) y.2.1 y.2.2=Cd a.it 0 ((a.nu.length:Int)+a.it.length),mu:=fun y=>a.it.length-y.1 }
  |_=>none }
def Jf(a:Arr):Nat:=LN (Arr.sh a)
def Vq(a:Arr)(b:Nat):List D:=[ZI (GI (Arr.sh a) b)]
def XA(a:Arr):List Int:=Arr.nu a
def Kc(a:Arr):Nat:=LN (XA a)
def JI(a:Arr):List Arr:=Arr.it a
def Kd(a:Arr):Nat:=LN (JI a)
def KK(a:Arr):Int:=Arr.k a
def Qdc(a:Arr):Int:=BC (KK a) (BL (Jf a) fun i=>Vq a i) (Kc a) (Kd a)
def Vr(a:Arr):Int:=Prod.fst (Bj a)
def Hk(a:Arr):Prop:=Z0=Prod.fst (Prod.snd (Bj a))/\Z0=Prod.snd (Prod.snd (Bj a))/\True
def Qdd(a:Nat):Prop:=SM a/\(SM (D.fn (Fn.func (42:Nat)) [] [D.ref N1 a N0])/\True)/\True
def Vs(a:Nat):Prop:=Qdd a/\True
def Hl(a:Nat)(b:Arr):Prop:=a<=Kc b/\∀(z:Int),z∈List.take a (XA b)->CY (KK b) z=false
def Hm(a:Arr)(b:Nat):List D:=[ZI (GI (XA a) b)]
def XB:Arr:=DA
def Vt(a:Arr)(b:Nat):Arr:=List.getD (JI a) b XB
def Qln(a:Arr)(b:Nat):List Int:=Arr.sh (Vt a b)
def Qlo(a:Arr)(b:Nat):List Int:=Arr.nu (Vt a b)
def Qde(a:Arr)(b:Nat):List Arr:=Arr.it (Vt a b)
def Qdf(a:Arr)(b:Nat):List D:=[ZI (Arr.k (Vt a b)),SI (Qln a b),SI (Qlo a b),D.sl N4 (LN (Qde a b)) (fun i=>Arr.row (List.getD (Qde a b) i XB)) Mode.any]
def Jg(a:Nat)(b:Arr)(c:Nat):Prop:=(SM a/\(SM (KK b)/\(SM (Jf b)/\(∀(i:Nat),i<Jf b->SM (Vq b i))/\True)/\(SM (Kc b)/\(∀(i:Nat),i<Kc b->SM (Hm b i))/\True)/\(SM (Kd b)/\(∀(i:Nat),i<Kd b->SM (Qdf b i))/\True)/\True)/\Qdd c)/\True
def XC(a:Arr):Int:=(NI (Kc a))
def Hn(a:Arr)(b:Nat):Int:=GI (XA a) (Int.toNat (↑b:Int))
def XD(a:Arr)(b:Nat):Bool:=CY (KK a) (Hn a b)
def Qdg(a:Nat)(b:Arr)(c d:Nat):Prop:=SM a/\ifB (KK b==2) (True/\∀(_y:Unit),True->∃(_x:Unit),True/\((!Ui (Hn b c))=XD b c/\True)/\Jg a b d) (∃(_x:Unit),True/\(false=XD b c/\True)/\Jg a b d)
def Qdh(a:Arr)(b:Nat):Prop:=True/\∃(_y:Unit),True/\((17:Int)=Vr a/\Hk a)/\Vs b
def Qdi(a:Arr):D:=D.sl N1 (Kc a) (fun i=>Hm a i) Mode.any
def Qdj(a:Arr):D:=D.sl N4 (Kd a) (fun i=>Qdf a i) Mode.any
def Qlp(a:Arr):D:=D.agg [ZI (KK a),D.sl N1 (Jf a) (fun i=>Vq a i) Mode.any,Qdi a,Qdj a]
def Qdk(a:Arr):Prop:=SM (Qlp a)
def XE(a:Arr):Int:=(NI (Kd a))
def Qdl(a:Arr):Int:=XC a+XE a
def Ho(a:Nat)(b:Arr)(c d:Int):Prop:=a<=Kd b/\Z0<=c/\c<=17/\Z0<=d/\d<=262145/\Cd (List.drop a (JI b)) c d=Cd (JI b) Z0 (Qdl b)
def XF(a:Arr)(b:Nat):Arr:=List.getD (JI a) (Int.toNat (↑b:Int)) XB
def Qdm(a:Arr)(b:Nat):List Int:=Arr.sh (XF a b)
def Qdn(a:Arr)(b:Nat):Nat:=LN (Qdm a b)
def Qdo(a:Arr)(b:Nat):List Int:=Arr.nu (XF a b)
def Qdp(a:Arr)(b:Nat):Nat:=LN (Qdo a b)
def Qdq(a:Arr)(b:Nat):List Arr:=Arr.it (XF a b)
def Qdr(a:Arr)(b:Nat):Nat:=LN (Qdq a b)
def Hp(a b:Int):Bool:=bif decide ((16:Int)<a) then true else decide ((262144:Int)<b)
theorem BcT(xb : Nat)(a : Arr)(ha : a.nu.length<=maxLen /\ a.it.length<=maxLen /\ a.sh.length<=maxLen)(ih : ∀b∈a.it, ACalls Try.prog 42 ((E4 Arr.row2 xb (fun _=>True)).args b) ((E4 Arr.row2 xb (fun _=>True)).st b) (SpecR (E4 Arr.row2 xb (fun _=>True)) b)) :
  ACalls Try.prog 42 ((E4 Arr.row2 xb (fun _=>True)).args a) ((E4 Arr.row2 xb (fun _=>True)).st a) (SpecR (E4 Arr.row2 xb (fun _=>True)) a):=by
 refine Bo (A:=E4 Arr.row2 xb (fun _=>True)) (x:=a) (E:=Evis xb a) (eOk (Bbc ih) rfl) Try.func42 rfl (by kernel_rfl) rfl (by simp[E4,Evis,EC,E0]) ?_
 refine Bu (T :=
  ∀(x:Nat),xb≠x/\True->SM x/\((IntsP (Jf a) fun i=>Vq a i)/\Jf a<=9223372036854775807/\Kc a<=9223372036854775807/\Kd a<=9223372036854775807)/\∀(y:Unit),True->ifB (Qdc a != Z0) (True/\∃(y:Unit),True/\(Qdc a=Vr a/\Hk a)/\Vs xb) (SM x/\(∃(x_1:Nat),Hl x_1 a/\(Z0=(↑x_1:Int)/\True)/\Jg x a xb)/\∀(x_1:Nat),Hl x_1 a->ifB (decide ((↑x_1:Int)<XC a)) (Bc (Z0<=(↑x_1:Int)/\(↑x_1:Int)<XC a) ((SM x/\ifB (KK a==Z1) (True/\∀(y:Unit),True->ifB (!O1 (Hn a x_1)) (∃(x_2:Unit),True/\(true=XD a x_1/\True)/\Jg x a xb) (Qdg x a x_1 xb)) (Qdg x a x_1 xb))/\∀(x_2:Unit),True->ifB (XD a x_1) (Qdh a xb) ((Qdk a/\SM (D.ref N1 xb N0)/\SM (D.ref N2 x N0)/\SM (Qdi a)/\SM (ZI (XC a))/\True)/\∃(y:Nat),Hl y a/\Kc a-y<Kc a-x_1/\(IntKind.wrap IntKind.i64 ((↑x_1:Int)+Z1)=(↑y:Int)/\True)/\Jg x a xb))) (SM x/\SM x/\SM x/\(∃(x_2:Nat×Int×Int),Ho x_2.1 a x_2.2.1 x_2.2.2/\(Z0=(NI x_2.1)/\Z0=x_2.2.1/\IntKind.wrap IntKind.i64 (Qdl a)=x_2.2.2/\True)/\Jg x a xb)/\∀(x_2:Nat×Int×Int),Ho x_2.1 a x_2.2.1 x_2.2.2->ifB (decide ((NI x_2.1)<XE a)) (Bc (Z0<=(NI x_2.1)/\(NI x_2.1)<XE a) (∀(x_3:Nat),x≠x_3/\xb≠x_3/\True->SM x_3/\SM xb/\SM x_3/\∃(x_4:Arr),((Arr.k (XF a x_2.1)=KK x_4/\(Qdn a x_2.1=Jf x_4/\(∀(i:Nat),i<Qdn a x_2.1->[ZI (GI (Qdm a x_2.1) i)]=Vq x_4 i)/\True)/\(Qdp a x_2.1=Kc x_4/\(∀(i:Nat),i<Qdp a x_2.1->[ZI (GI (Qdo a x_2.1) i)]=Hm x_4 i)/\True)/\(Qdr a x_2.1=Kd x_4/\(∀(i:Nat),i<Qdr a x_2.1->Arr.row (List.getD (Qdq a x_2.1) i XB)=Arr.row (Vt x_4 i))/\True)/\True)/\SM xb/\True)/\Vs xb/\x_4∈JI a/\∀(y:Unit),True->ifB (Vr x_4 != Z0) (Qdh a xb) ((Qdk a/\SM (D.ref N1 xb N0)/\SM (D.ref N2 x N0)/\SM (Qdj a)/\SM (ZI (XE a))/\True)/\∃(y:Nat×Int×Int),Ho y.1 a y.2.1 y.2.2/\Kd a-y.1<Kd a-x_2.1/\(IntKind.wrap IntKind.i64 ((NI x_2.1)+Z1)=(NI y.1)/\(if x_2.2.1<IntKind.wrap IntKind.i64 (Prod.fst (Prod.snd (Bj x_4))+Z1) then IntKind.wrap IntKind.i64 (Prod.fst (Prod.snd (Bj x_4))+Z1) else x_2.2.1)=y.2.1/\(if (262145:Int)<IntKind.wrap IntKind.i64 (x_2.2.2+Prod.snd (Prod.snd (Bj x_4))) then (262145:Int) else IntKind.wrap IntKind.i64 (x_2.2.2+Prod.snd (Prod.snd (Bj x_4))))=y.2.2/\True)/\Jg x a xb))) (ifB (decide ((16:Int)<x_2.2.1)) (true=Hp x_2.2.1 x_2.2.2/\True) (decide ((262144:Int)<x_2.2.2)=Hp x_2.2.1 x_2.2.2/\True)/\ifB (Hp x_2.2.1 x_2.2.2) (True/\∃(y:Unit),True/\((21:Int)=Vr a/\Hk a)/\Vs xb) (True/\∃(y:Unit),True/\(Z0=Vr a/\x_2.2.1=Prod.fst (Prod.snd (Bj a))/\x_2.2.2=Prod.snd (Prod.snd (Bj a))/\True)/\Vs xb))))) (by kernel_rfl) ?_
 delta DA GI LN N0 N1 N2 N4 NI SI SM Z0 Z1 ZI Qdc Vr Hk Qdd Vs Hl Hm XB Vt Qln Qlo Qde Qdf Jg XC Hn XD Qdg Qdh Qdi Jf Qdj Qlp Qdk XE Qdl Ho XF Qdm Qdn Qdo Vq Qdp Qdq Qdr Hp XA Kc JI Kd KK
 have da:(default:Arr)=Arr.mk 0 [] [] []:=rfl
 simp only[<- da,CE,Int.toNat_natCast,Bl,Be,decide_eq_true_eq,decide_eq_false_iff_not,true_and,and_true,beq_iff_eq,bne_iff_ne,Bool.cond_true_left,beq_eq_false_iff_ne,ne_eq,exists_const,forall_const]
 intro x _
 have hA:=Ur a
 obtain ⟨l1,l2,l3⟩:=ha
 have tt:(∀i:Nat,i<a.sh.length->True)/\(∀i:Nat,i<a.nu.length->True)/\∀i:Nat,i<a.it.length->True:=⟨fun _ _=>trivial,fun _ _=>trivial,fun _ _=>trivial⟩
 refine⟨⟨BP _,l3,l1,l2⟩,fun h=>?_,fun h=>⟨⟨0,⟨Nat.zero_le _,by simp⟩,rfl,tt⟩,fun i hi=>⟨fun hlt=>?_,fun hge=>?_⟩⟩⟩
 ·rw[hA,if_pos h];exact⟨rfl,rfl,rfl⟩
 ·have h0:BC a.k a.sh a.nu.length a.it.length=0:=by simpa using h
  have hsm:=Ez h0
  have hlt':i<a.nu.length:=by omega
  have hmem:a.nu.getD i 0∈a.nu:=by rw[List.getD_eq_getElem?_getD,List.getElem?_eq_getElem hlt'];exact List.getElem_mem hlt'
  have htk:a.nu.take (i+1)=a.nu.take i++[a.nu.getD i 0]:=by
   rw[List.take_add_one];simp[List.getD_eq_getElem?_getD,hlt']
  generalize a.nu.getD i 0=z at *
  refine⟨by omega,?_,fun hb=>?_,fun hb=>⟨i+1,⟨by omega,fun y hy=>?_⟩,by omega,Bb (by omega) (by omega),tt⟩⟩
  ·refine⟨fun k1=>⟨fun hn=>⟨by simp at hn;simp[CY,k1,hn],tt⟩,fun hn=>⟨fun k2=>by omega,fun k2=>⟨by simp at hn;simp[CY,k1,hn],tt⟩⟩⟩,fun k1=>⟨fun k2=>⟨by simp[CY,k2],tt⟩,fun k2=>⟨by simp[CY,k1,k2],tt⟩⟩⟩
  ·have:a.nu.any (CY a.k)=true:=List.any_eq_true.2 ⟨z,hmem,hb⟩
   rw[hA,if_neg (by simp[h0]),if_pos this]
   exact⟨rfl,rfl,rfl⟩
  ·rw[htk,List.mem_append] at hy
   rcases hy with hy | hy
   ·exact hi.2 y hy
   ·simp at hy;rw[hy];exact hb
 ·have h0:BC a.k a.sh a.nu.length a.it.length=0:=by simpa using h
  have hsm:=Ez h0
  have hii:i=a.nu.length:=by omega
  rw[hii,List.take_length] at hi
  have hany:¬a.nu.any (CY a.k)=true:=by
   rw[List.any_eq_true]
   rintro ⟨z,hz,hb⟩
   rw[hi.2 z hz] at hb
   cases hb
  rw[if_neg (by simp[h0]),if_neg hany] at hA
  refine⟨⟨(0,0,(a.nu.length:Int)+a.it.length),⟨Nat.zero_le _,Int.le_refl _,by simp,by simp only;omega,by simp only;omega,by simp⟩,⟨rfl,rfl,Bb (by omega) (by omega)⟩,tt⟩,?_⟩
  rintro ⟨j,d,w⟩ ⟨b1,b2,b3,b4,b5,hch⟩
  simp only at b1 b2 b3 b4 b5 hch ⊢
  refine⟨fun hlt=>⟨by omega,fun x3 _=>?_⟩,fun hge=>?_⟩
  ·have hlt':j<a.it.length:=by omega
   have hbd:=Eb (a.it.getD j default)
   rw[Ck hlt',Cd] at hch
   refine⟨a.it.getD j default,⟨rfl,⟨rfl,fun _ _=>rfl⟩,⟨rfl,fun _ _=>rfl⟩,rfl,fun _ _=>rfl⟩,Ch hlt',fun herr=>?_,fun hok=>?_⟩
   ·rw[if_pos herr] at hch
    rw[<- hch] at hA
    rw[hA]
    exact⟨rfl,rfl,rfl⟩
   ·have hok:(Bj (a.it.getD j default)).1=0:=by simpa using hok
    rw[if_neg (fun hne=>hne hok)] at hch
    have w1:IntKind.i64.wrap ((Bj (a.it.getD j default)).2.1+1)=(Bj (a.it.getD j default)).2.1+1:=Bb (by omega) (by omega)
    have w2:IntKind.i64.wrap (w+(Bj (a.it.getD j default)).2.2)=w+(Bj (a.it.getD j default)).2.2:=Bb (by omega) (by omega)
    rw[w1,w2]
    refine⟨(j+1,(if d<(Bj (a.it.getD j default)).2.1+1 then (Bj (a.it.getD j default)).2.1+1 else d),(if 262145<w+(Bj (a.it.getD j default)).2.2 then 262145 else w+(Bj (a.it.getD j default)).2.2)),⟨by simp only;omega,?_,?_,?_,?_,hch⟩,by simp only;omega,⟨Bb (by omega) (by omega),rfl,rfl⟩,tt⟩
    ·simp only;split<;>omega
    ·simp only;split<;>omega
    ·simp only;split<;>omega
    ·simp only;split<;>omega
  ·have hj:j=a.it.length:=by omega
   rw[hj,List.drop_length,Cd] at hch
   rw[<- hch] at hA
   simp only at hA
   refine⟨⟨fun h1=>by rw[decide_eq_true h1];rfl,fun h1=>by rw[decide_eq_false h1];rfl⟩,fun hc=>?_,fun hc=>?_⟩
   ·rw[Bool.or_eq_true,decide_eq_true_eq,decide_eq_true_eq] at hc
    rw[if_pos hc] at hA
    rw[hA];exact⟨rfl,rfl,rfl⟩
   ·rw[Bool.or_eq_false_iff,decide_eq_false_iff_not,decide_eq_false_iff_not] at hc
    rw[if_neg (by omega)] at hA
    rw[hA];exact⟨rfl,rfl,rfl⟩
theorem R8:∀(a:Arr),a.ok->∀xb,ACalls Try.prog 42 ((E4 Arr.row2 xb (fun _=>True)).args a) ((E4 Arr.row2 xb (fun _=>True)).st a) (SpecR (E4 Arr.row2 xb (fun _=>True)) a)
 |.mk k s n is,h,xb=>by
  have h':=h
  simp only[Arr.ok] at h'
  obtain ⟨_,_,_,h1,h2,h3,h4⟩:=h'
  refine BcT xb (.mk k s n is) ⟨h2,h3,h1⟩ fun b hb=>?_
  have hb':b∈is:=hb
  exact R8 b ((Cm _).1 h4 b hb') xb
termination_by a=>SizeOf.sizeOf a
decreasing_by
 have:=List.sizeOf_lt_of_mem hb'
 simp;omega
theorem Bdc(a:Arr)(ha:a.ok)(xb:Nat)(q:Arr->Prop):ACalls Try.prog 42 ((E4 Arr.row1 xb q).args a) ((E4 Arr.row1 xb q).st a) (SpecR (E4 Arr.row1 xb q) a):=by
 refine ((R8 a ha xb).wkArgs ?_).mono fun _ _ ⟨y,h1,h2,h3⟩=>⟨y,h1,h2,h3⟩
 simp only[E4,wkL,wkD]
 exact⟨Cy a,by simp[Bf,Ba]⟩
def Bcl(a:Arr):Con:=fun k ds _=>match k with
 |42=>match ds with
  | [_,.ref _ xb _]=>some (E4 Arr.row1 xb (fun b=>b=a))
  |_=>none
 |_=>none
theorem BcP{a:Arr}(ha:a.ok):ConOk Try.prog (Bcl a):=by
 intro k ds S A h
 unfold Bcl at h
 split at h
 ·split at h
  ·injection h with h;subst h
   refine ConOk.plain (fun b hb=>?_) rfl rfl
   have hb:b=a:=hb
   rw[hb]
   exact Bdc a ha _ _
  ·cases h
 ·cases h
noncomputable def Eri(a:Arr):Senv:=EC (Bcl a) 16 7 [] (fun _=>([],[]))
def Qds(a:Arr)(b:Nat):List D:=Arr.row (GA (Arr.it a) b)
theorem GD(a:Arr)(ha:a.ok):ACalls Try.prog 21 [.agg a.row1] ⟨[],[]⟩ (SpecR (sC [.agg a.row1] (.int .i64 (Bj a).1)) ()):=by
 refine Bo (A:=sC _ _) (x:=()) (E:=Eri a) (eOk (BcP ha) rfl) Try.func21 rfl (by kernel_rfl) rfl (by simp[sC,Eri,EC,E0]) ?_
 refine Bu (T :=
  ∀(x:Nat),True->∀(x_1:Nat),x≠x_1/\True->SM x_1/\SM x_1/\SM x/\∃(x:Arr),((Arr.k a=Arr.k x/\(LN (Arr.sh a)=LN (Arr.sh x)/\(∀(i:Nat),i<LN (Arr.sh a)->[ZI (GI (Arr.sh a) i)]=[ZI (GI (Arr.sh x) i)])/\True)/\(LN (Arr.nu a)=LN (Arr.nu x)/\(∀(i:Nat),i<LN (Arr.nu a)->[ZI (GI (Arr.nu a) i)]=[ZI (GI (Arr.nu x) i)])/\True)/\(LN (Arr.it a)=LN (Arr.it x)/\(∀(i:Nat),i<LN (Arr.it a)->Qds a i=Qds x i)/\True)/\True)/\SM x_1/\True)/\((SM x_1/\(D.fn (Fn.func (42:Nat)) [] [D.ref (max (N0+N1) N0) x_1 N0]=D.fn (Fn.func (42:Nat)) [] [D.ref N1 x_1 N0]/\True)/\True)/\True)/\x=a/\∀(y:Unit),True->RT (Prod.fst (Bj x)=Prod.fst (Bj a))) (by kernel_rfl) ?_
 delta DA GA GI LN N0 N1 SM Z0 ZI Qds RT
 intro x _ x1 hx
 exact⟨rfl,rfl,rfl,a,⟨⟨rfl,⟨rfl,fun _ _=>rfl,trivial⟩,⟨rfl,fun _ _=>rfl,trivial⟩,⟨rfl,fun _ _=>rfl,trivial⟩,trivial⟩,rfl,trivial⟩,⟨⟨rfl,⟨rfl,trivial⟩,trivial⟩,trivial⟩,rfl,fun _ _=>⟨trivial,(),trivial,rfl,trivial,trivial⟩⟩
noncomputable def Ernum:Senv:=EC E5 9 1 [2] (fun _=>([],[]))
def Hq(a:Int):Bool:=bif decide ((-4611686018427387903:Int)<=a) then decide (a<=4611686018427387903) else false
theorem Bdt(z:Int):ACalls Try.prog 54 [.int .i64 z] ⟨[],[]⟩ (SpecR (sC [.int .i64 z] (.bool (O1 z))) ()):=by
 refine Bo (A:=sC _ _) (x:=()) (E:=Ernum) (eOk BN rfl) Try.func54 rfl (by kernel_rfl) rfl (by simp[sC,Ernum,EC,E0]) ?_
 refine Bu (T :=
  ifB (decide ((-4611686018427387903:Int)<=z)) (decide (z<=4611686018427387903)=Hq z/\True) (false=Hq z/\True)/\RT (Hq z=O1 z)) (by kernel_rfl) ?_
 delta Hq RT
 simp only[Bl,decide_eq_true_eq,decide_eq_false_iff_not,true_and,and_true,Bool.cond_false_right,exists_const]
 refine⟨⟨fun h=>by rw[decide_eq_true h];rfl,fun h=>by rw[decide_eq_false h];rfl⟩,rfl⟩
noncomputable def Erchr:Senv:=EC E5 17 1 [2] (fun _=>([],[]))
def XG(a:Int):Bool:=bif bif decide (Z0<=a) then decide (a<=1114111) else false then bif decide (a<55296) then true else decide ((57343:Int)<a) else false
def Qdt(a:Int):Prop:=false=XG a/\True
theorem Bdq(z:Int):ACalls Try.prog 55 [.int .i64 z] ⟨[],[]⟩ (SpecR (sC [.int .i64 z] (.bool (Ui z))) ()):=by
 refine Bo (A:=sC _ _) (x:=()) (E:=Erchr) (eOk BN rfl) Try.func55 rfl (by kernel_rfl) rfl (by simp[sC,Erchr,EC,E0]) ?_
 refine Bu (T :=
  ifB (decide (Z0<=z)) (ifB (decide (z<=1114111)) (ifB (decide (z<55296)) (true=XG z/\True) (decide ((57343:Int)<z)=XG z/\True)) (Qdt z)) (Qdt z)/\RT (XG z=Ui z)) (by kernel_rfl) ?_
 delta Z0 XG Qdt RT
 simp only[Bl,decide_eq_true_eq,decide_eq_false_iff_not,true_and,and_true,Bool.cond_false_right,Bool.cond_true_left,exists_const]
 refine⟨⟨fun h1=>⟨fun h2=>⟨fun h3=>by simp[h1,h2,h3],fun h3=>by simp[h1,h2,h3]⟩,fun h2=>by simp[h1,h2]⟩,fun h1=>by simp[h1]⟩,rfl⟩
def BJ(k:Int)(nn ni:Nat):Int:=if k=1\/k=2 then nn else if k=3 then ni else 0
noncomputable def Esz:Senv:=EC E5 16 3 [4,5,11] (fun _=>([],[]))
def Qdu(a b:Nat)(c:Int)(d:Nat):Prop:=SM a/\RT ((↑b:Int)=BJ c b d)
def Qdv(a:Int)(b c d:Nat):Prop:=ifB (a==3) (SM b/\RT ((↑c:Int)=BJ a d c)) (RT (Z0=BJ a d c))
theorem Bfr(k : Int)(ns nn ni : Nat)(f g h : Nat -> List D) :
  ACalls Try.prog 35 [.agg [.int .i64 k,.sl 1 ns f .any,.sl 1 nn g .any,.sl 4 ni h .any]] ⟨[],[]⟩ (SpecR (sC [.agg [.int .i64 k,.sl 1 ns f .any,.sl 1 nn g .any,.sl 4 ni h .any]] (.int .i64 (BJ k nn ni))) ()):=by
 refine Bo (A:=sC _ _) (x:=()) (E:=Esz) (eOk BN rfl) Try.func35 rfl (by kernel_rfl) rfl (by simp[sC,Esz,EC,E0]) ?_
 refine Bu (T :=
  ∀(x:Nat),True->SM x/\ifB (k==Z1) (ifB (k==Z1) (Qdu x nn k ni) (Qdv k x ni nn)) (ifB (k==2) (Qdu x nn k ni) (Qdv k x ni nn))) (by kernel_rfl) ?_
 delta SM Z0 Z1 Qdu Qdv RT
 simp only[Bl,true_and,and_true,beq_iff_eq,beq_eq_false_iff_ne,ne_eq,exists_const,forall_const]
 repeat' (first
  |refine And.intro ?_ ?_
  |intro _)
 all_goals first
  |(simp_all[BJ];done)
  |grind [BJ]
  |trace_state
def RN:Con:=fun k ds S=>match k with
 |35=>match ds with
  | [.agg [.int .i64 k,.sl 1 _ _ _,.sl 1 nn _ _,.sl 4 ni _ _]]=>some (pC ds (.int .i64 (BJ k nn ni)) True)
  |_=>none
 |54=>match ds with
  | [.int .i64 z]=>some (pC [.int .i64 z] (.bool (O1 z)) True)
  |_=>none
 |55=>match ds with
  | [.int .i64 z]=>some (pC [.int .i64 z] (.bool (Ui z)) True)
  |_=>none
 |k=>Tx k ds S
theorem WL:ConOk Try.prog RN:=by
 intro k ds S A h
 unfold RN at h
 split at h
 ·split at h
  ·rename_i k ns f _ nn g _ ni g' _
   injection h with h;subst h
   refine EA fun _=>⟨Bh _,CT (us:=[.agg [.int .i64 k,.sl 1 ns f .any,.sl 1 nn g .any,.sl 4 ni g' .any]]) ?_ (Bfr _ _ _ _ _ _ _)⟩
   refine⟨?_,trivial⟩
   simp only[Bf,Br]
   refine⟨by simp[Ba,kEq],?_,?_,?_,trivial⟩
   ·simp[Ba,Bw]
   ·simp[Ba,Bw]
   ·simp[Ba,Bw]
  ·cases h
 ·split at h
  ·injection h with h;subst h
   exact EA fun _=>⟨Bh _,Bdt _⟩
  ·cases h
 ·split at h
  ·injection h with h;subst h
   exact EA fun _=>⟨Bh _,Bdq _⟩
  ·cases h
 ·exact IM _ _ _ _ h
mutual
def wtA:Arr->Int
 |.mk k _ n is=>min (wtL k is (BJ k n.length is.length)) 262145
def wtL(k:Int):List Arr->Int->Int
 | [],n=>n
 |x::r,n=>if k=3/\n<=262144 then wtL k r (n+wtA x) else n
end
theorem UH(a:Arr):wtA a=min (wtL a.k a.it (BJ a.k a.nu.length a.it.length)) 262145:=by
 cases a with
 |mk k s n is=>rw[wtA];rfl
theorem BaB(k:Int):∀(l:List Arr) (n:Int),0<=n->(∀x∈l,0<=wtA x)->0<=wtL k l n
 | [],n,h,_=>by rw[wtL];exact h
 |x::r,n,h,h2=>by
  rw[wtL]
  have:=h2 x (by simp)
  split
  ·exact BaB k r _ (by omega) fun y hy=>h2 y (by simp[hy])
  ·exact h
theorem B0:∀(a:Arr),0<=wtA a/\wtA a<=262145
 |.mk k s n is=>by
  rw[wtA]
  have hs:0<=BJ k n.length is.length:=by unfold BJ;split<;>(try split)<;>omega
  have:=BaB k is _ hs fun x hx=>(B0 x).1
  omega
termination_by a=>SizeOf.sizeOf a
decreasing_by
 have:=List.sizeOf_lt_of_mem hx
 simp;omega
def sRc(row:Arr->List D)(q:Arr->Prop)(r:Arr->D):FnSpec where
 β:=Arr
 α:=Unit
 args:=fun a=>[.agg (row a)]
 st:=fun _=>⟨[],[]⟩
 pre:=q
 post:=fun _ _=>True
 res:=fun a _=>.ret (r a)
 out:=fun _ _=>⟨[],[]⟩
def BbB(its:List Arr):Con:=fun k ds S=>match k with
 |17=>some (sRc Arr.row1 (fun b=>b∈its) (fun b=>.int .i64 (wtA b)))
 |k=>RN k ds S
theorem Bas{k:Nat}{q q':Arr->Prop}{r:Arr->D}{b:Arr}(h:ACalls Try.prog k ((sRc Arr.row2 q r).args b) ⟨[],[]⟩ (SpecR (sRc Arr.row2 q r) b)):ACalls Try.prog k ((sRc Arr.row1 q' r).args b) ⟨[],[]⟩ (SpecR (sRc Arr.row1 q' r) b):=by
 refine (h.wkArgs ?_).mono fun _ _ ⟨y,h1,h2,h3⟩=>⟨y,h1,h2,h3⟩
 simp only[sRc,wkL,wkD]
 exact⟨Cy b,trivial⟩
theorem Bc9{its:List Arr}(ih:∀b∈its,ACalls Try.prog 17 ((sRc Arr.row2 (fun _=>True) (fun b=>.int .i64 (wtA b))).args b) ⟨[],[]⟩ (SpecR (sRc Arr.row2 (fun _=>True) (fun b=>.int .i64 (wtA b))) b)):ConOk Try.prog (BbB its):=by
 intro k ds S A h
 unfold BbB at h
 split at h
 ·injection h with h;subst h
  exact ConOk.plain (fun b hb=>Bas (ih b hb)) rfl rfl
 ·exact WL _ _ _ _ h
noncomputable def Ewt(a:Arr):Senv:={ EC (BbB a.it) 33 5 [20] (fun _=>([],[])) with
 ann:=fun b _ S=>match b with
  |0=>some { slots:=[3,4],keep:=[0,1,2],α:=Nat×Int,st:=fun y=>([.int .i64 y.2,.int .i64 y.1],S),inv:=fun y=>y.1<=a.it.length/\0<=y.2/\y.2<=maxLen/\wtL a.k (a.it.drop y.1) y.2=wtL a.k a.it (BJ a.k a.nu.length a.it.length),mu:=fun y=>a.it.length-y.1 }
  |_=>none }
def JJ(a:Arr):List Arr:=Arr.it a
def Q6(a:Arr):Nat:=LN (JJ a)
def KL(a:Arr):Int:=Arr.k a
def Vu(a:Arr):Nat:=LN (Arr.nu a)
def Qdw(a:Arr):Int:=BJ (KL a) (Vu a) (Q6 a)
def Hr(a:Nat)(b:Arr)(c:Int):Prop:=a<=Q6 b/\Z0<=c/\c<=9223372036854775807/\wtL (KL b) (List.drop a (JJ b)) c=wtL (KL b) (JJ b) (Qdw b)
def XH(a:Arr):Nat:=LN (Arr.sh a)
def Hs(a:Arr)(b:Nat):List D:=[ZI (GI (Arr.sh a) b)]
def Ht(a:Arr)(b:Nat):List D:=[ZI (GI (Arr.nu a) b)]
def XI:Arr:=DA
def Vv(a:Arr)(b:Nat):Arr:=List.getD (JJ a) b XI
def Qlq(a:Arr)(b:Nat):List Int:=Arr.sh (Vv a b)
def Qlr(a:Arr)(b:Nat):List Int:=Arr.nu (Vv a b)
def Qdx(a:Arr)(b:Nat):List Arr:=Arr.it (Vv a b)
def Qdy(a:Arr)(b:Nat):List D:=[ZI (Arr.k (Vv a b)),SI (Qlq a b),SI (Qlr a b),D.sl N4 (LN (Qdx a b)) (fun i=>Arr.row (List.getD (Qdx a b) i XI)) Mode.any]
def Qdz(a:Nat)(b:Arr):Prop:=(SM a/\(SM (KL b)/\(SM (XH b)/\(∀(i:Nat),i<XH b->SM (Hs b i))/\True)/\(SM (Vu b)/\(∀(i:Nat),i<Vu b->SM (Ht b i))/\True)/\(SM (Q6 b)/\(∀(i:Nat),i<Q6 b->SM (Qdy b i))/\True)/\True)/\True)/\True
def Hu(a:Nat)(b:Arr)(c:Int):Bool:=bif bif decide ((↑a:Int)<(NI (Q6 b))) then KL b==3 else false then decide (c<=262144) else false
def QdA(a:Nat)(b:Arr)(c:Int):Prop:=false=Hu a b c/\True
def XJ(a:Arr)(b:Nat):Arr:=List.getD (JJ a) (Int.toNat (↑b:Int)) XI
def QdB(a:Arr)(b:Nat):List Int:=Arr.sh (XJ a b)
def QdC(a:Arr)(b:Nat):Nat:=LN (QdB a b)
def QdD(a:Arr)(b:Nat):List Int:=Arr.nu (XJ a b)
def QdE(a:Arr)(b:Nat):Nat:=LN (QdD a b)
def QdF(a:Arr)(b:Nat):List Arr:=Arr.it (XJ a b)
def QdG(a:Arr)(b:Nat):Nat:=LN (QdF a b)
def Qls(a:Arr):D:=D.agg [ZI (KL a),D.sl N1 (XH a) (fun i=>Hs a i) Mode.any,D.sl N1 (Vu a) (fun i=>Ht a i) Mode.any,D.sl N4 (Q6 a) (fun i=>Qdy a i) Mode.any]
theorem BdW(a : Arr)(ha : a.nu.length<=maxLen /\ a.it.length<=maxLen /\ a.sh.length<=maxLen)(ih : ∀b∈a.it, ACalls Try.prog 17 ((sRc Arr.row2 (fun _=>True) (fun b=>.int .i64 (wtA b))).args b) ⟨[], []⟩ (SpecR (sRc Arr.row2 (fun _=>True) (fun b=>.int .i64 (wtA b))) b)) :
  ACalls Try.prog 17 ((sRc Arr.row2 (fun _=>True) (fun b=>.int .i64 (wtA b))).args a) ⟨[],[]⟩ (SpecR (sRc Arr.row2 (fun _=>True) (fun b=>.int .i64 (wtA b))) a):=by
 refine Bo (A:=sRc Arr.row2 (fun _=>True) (fun b=>.int .i64 (wtA b))) (x:=a) (E:=Ewt a) (eOk (Bc9 ih) rfl) Try.func17 rfl (by kernel_rfl) rfl (by simp[sRc,Ewt,EC,E0]) ?_
 refine Bu (T :=
  ∀(x:Nat),True->SM x/\True/\∀(y:Unit),True->(∃(x_1:Nat×Int),Hr x_1.1 a x_1.2/\(Qdw a=x_1.2/\Z0=(NI x_1.1)/\True)/\Qdz x a)/\∀(x_1:Nat×Int),Hr x_1.1 a x_1.2->(SM x/\ifB (decide ((NI x_1.1)<(NI (Q6 a)))) (SM x/\ifB (KL a==3) (decide (x_1.2<=262144)=Hu x_1.1 a x_1.2/\True) (QdA x_1.1 a x_1.2)) (QdA x_1.1 a x_1.2))/\ifB (Hu x_1.1 a x_1.2) (SM x/\Bc (Z0<=(NI x_1.1)/\(NI x_1.1)<(NI (Q6 a))) (∃(x_2:Arr),((Arr.k (XJ a x_1.1)=KL x_2/\(QdC a x_1.1=XH x_2/\(∀(i:Nat),i<QdC a x_1.1->[ZI (GI (QdB a x_1.1) i)]=Hs x_2 i)/\True)/\(QdE a x_1.1=Vu x_2/\(∀(i:Nat),i<QdE a x_1.1->[ZI (GI (QdD a x_1.1) i)]=Ht x_2 i)/\True)/\(QdG a x_1.1=Q6 x_2/\(∀(i:Nat),i<QdG a x_1.1->Arr.row (List.getD (QdF a x_1.1) i XI)=Arr.row (Vv x_2 i))/\True)/\True)/\True)/\(True/\True)/\x_2∈JJ a/\∀(y:Unit),True->(SM (Qls a)/\SM (D.ref N0 x N0)/\SM (ZI Z0)/\True)/\∃(y:Nat×Int),Hr y.1 a y.2/\Q6 a-y.1<Q6 a-x_1.1/\(IntKind.wrap IntKind.i64 (x_1.2+wtA x_2)=y.2/\IntKind.wrap IntKind.i64 ((NI x_1.1)+Z1)=(NI y.1)/\True)/\Qdz x a)) (RT ((if (262145:Int)<x_1.2 then (262145:Int) else x_1.2)=wtA a))) (by kernel_rfl) ?_
 delta DA GI LN N0 N1 N4 NI SI SM Z0 Z1 ZI Hr XH Hs Ht XI Vv Qlq Qlr Qdx Qdy Qdz Hu QdA XJ QdB QdC QdD QdE QdF QdG Qls JJ Q6 KL Vu Qdw RT
 have da:(default:Arr)=Arr.mk 0 [] [] []:=rfl
 simp only[<- da,Int.toNat_natCast,Bl,Be,decide_eq_true_eq,decide_eq_false_iff_not,true_and,and_true,beq_iff_eq,Bool.cond_false_right,Bool.and_eq_true,Bool.and_eq_false_iff,beq_eq_false_iff_ne,ne_eq,exists_const,forall_const]
 obtain ⟨l1,l2,l3⟩:=ha
 simp only[maxLen] at l1 l2 l3
 have tt:(∀i:Nat,i<a.sh.length->True)/\(∀i:Nat,i<a.nu.length->True)/\∀i:Nat,i<a.it.length->True:=⟨fun _ _=>trivial,fun _ _=>trivial,fun _ _=>trivial⟩
 have hsz:0<=BJ a.k a.nu.length a.it.length/\BJ a.k a.nu.length a.it.length<=9223372036854775807:=by
  unfold BJ;split<;>(try split)<;>omega
 refine⟨⟨(0,BJ a.k a.nu.length a.it.length),⟨Nat.zero_le _,hsz.1,hsz.2,rfl⟩,⟨rfl,rfl⟩,tt⟩,?_⟩
 rintro ⟨j,n⟩ ⟨b1,b2,b3,hch⟩
 simp only at b1 b2 b3 hch ⊢
 refine⟨⟨fun h1=>⟨fun h2=>by simp[h1,h2],fun h2=>by simp[h2]⟩,fun h1=>by simp[h1]⟩,fun ⟨⟨h1,h2⟩,h3⟩=>⟨by omega,?_⟩,fun hc=>?_⟩
 ·have hlt':j<a.it.length:=by omega
  have hbd:=B0 (a.it.getD j default)
  rw[Ck hlt',wtL,if_pos ⟨h2,h3⟩] at hch
  refine⟨a.it.getD j default,⟨rfl,⟨rfl,fun _ _=>rfl⟩,⟨rfl,fun _ _=>rfl⟩,rfl,fun _ _=>rfl⟩,Ch hlt',(j+1,n+wtA (a.it.getD j default)),⟨by simp only;omega,by simp only;omega,by simp only;omega,hch⟩,by simp only;omega,⟨Bb (by omega) (by omega),Bb (by omega) (by omega)⟩,tt⟩
 ·have he:wtL a.k (a.it.drop j) n=n:=by
   by_cases hj:j<a.it.length
   ·rw[Ck hj,wtL,if_neg (by rintro ⟨h2,h3⟩;rcases hc with (h | h) | h<;>omega)]
   ·rw[List.drop_eq_nil_of_le (by omega),wtL]
  rw[he] at hch
  rw[UH,<- hch]
  split<;>omega
theorem Rn:∀(a:Arr),a.ok->ACalls Try.prog 17 ((sRc Arr.row2 (fun _=>True) (fun b=>.int .i64 (wtA b))).args a) ⟨[],[]⟩ (SpecR (sRc Arr.row2 (fun _=>True) (fun b=>.int .i64 (wtA b))) a)
 |.mk k s n is,h=>by
  have h':=h
  simp only[Arr.ok] at h'
  obtain ⟨_,_,_,h1,h2,h3,h4⟩:=h'
  refine BdW (.mk k s n is) ⟨h2,h3,h1⟩ fun b hb=>?_
  have hb':b∈is:=hb
  exact Rn b ((Cm _).1 h4 b hb')
termination_by a=>SizeOf.sizeOf a
decreasing_by
 have:=List.sizeOf_lt_of_mem hb'
 simp;omega
theorem U1:∀(l:List Arr) (d d' w':Int),Cd l d 262145=some (d',w')->w'=262145
 | [],d,d',w',h=>by rw[Cd] at h;injection h with h;injection h with e1 e2;omega
 |x::r,d,d',w',h=>by
  rw[Cd] at h
  have:=Eb x
  split at h
  ·cases h
  ·have e:(if (262145:Int)<262145+(Bj x).2.2 then 262145 else 262145+(Bj x).2.2)=262145:=by split<;>omega
   rw[e] at h;exact U1 r _ d' w' h
theorem BaC(k:Int):∀(l:List Arr) (d w d' w':Int),Cd l d w=some (d',w')->(k=3\/l=[])->(∀x∈l,(Bj x).1=0->wtA x=(Bj x).2.2)->∀n,min n 262145=w->min (wtL k l n) 262145=w'
 | [],d,w,d',w',h,_,_,n,hn=>by
  rw[Cd] at h;injection h with h;injection h with e1 e2;rw[wtL];omega
 |x::r,d,w,d',w',h,hk,h3,n,hn=>by
  have hk:k=3:=hk.resolve_right (by simp)
  rw[Cd] at h
  have hb:=Eb x
  split at h
  ·cases h
  ·rename_i hx
   have hx:(Bj x).1=0:=by simpa using hx
   have hwx:=h3 x (by simp) hx
   rw[wtL]
   by_cases hn2:n<=262144
   ·rw[if_pos ⟨hk,hn2⟩]
    refine BaC k r _ _ d' w' h (.inl hk) (fun y hy=>h3 y (by simp[hy])) _ ?_
    split<;>omega
   ·rw[if_neg (fun e=>hn2 e.2)]
    have hw:w=262145:=by omega
    rw[hw] at h
    have:(if (262145:Int)<262145+(Bj x).2.2 then 262145 else 262145+(Bj x).2.2)=262145:=by split<;>omega
    rw[this] at h
    have:=U1 r _ _ _ h
    omega
theorem BaI{k:Int}{s:List Int}{nn ni:Nat}(h:BC k s nn ni=0):(k=3/\nn=0)\/((k=1\/k=2)/\ni=0):=by
 unfold BC at h
 by_cases hk:k=1\/k=2\/k=3
 ·rw[if_pos hk] at h
  by_cases hd:B8 s≠0
  ·rw[if_pos hd] at h;exact (hd h).elim
  ·rw[if_neg hd] at h
   by_cases hc:((if k=3 then (ni:Int) else nn)≠B5 s)\/((if k=3 then (nn:Int) else ni)≠0)
   ·rw[if_pos hc] at h;omega
   ·simp only[not_or,ne_eq,Decidable.not_not] at hc
    obtain ⟨c1,c2⟩:=hc
    by_cases k3:k=3
    ·simp only[k3,if_true] at c2;left;omega
    ·simp only[k3,if_false] at c2;right;omega
 ·rw[if_neg hk] at h;omega
theorem Beg{a:Arr}{r:Int×Int}(h0:BC a.k a.sh a.nu.length a.it.length=0)(hr:Cd a.it 0 ((a.nu.length:Int)+a.it.length)=some r)(h3:∀x∈a.it,(Bj x).1=0->wtA x=(Bj x).2.2):wtA a=r.2:=by
 have hz:=BaI h0
 have hs:=Ez h0
 rw[UH]
 refine BaC a.k a.it 0 _ r.1 r.2 hr ?_ h3 _ ?_
 ·rcases hz with ⟨h1,_⟩ | ⟨_,h2⟩
  ·exact .inl h1
  ·exact .inr (List.length_eq_zero_iff.1 h2)
 ·unfold BJ
  rcases hz with ⟨h1,h2⟩ | ⟨h1,h2⟩
  ·rw[if_neg (by omega),if_pos h1];omega
  ·rw[if_pos h1];omega
theorem T4:∀(a:Arr),(Bj a).1=0->wtA a=(Bj a).2.2
 |.mk k s n is,h=>by
  have ih:∀x∈(Arr.mk k s n is).it,(Bj x).1=0->wtA x=(Bj x).2.2:=fun x hx=>by
   have hx':x∈is:=hx
   exact T4 x
  have hA:=Ur (Arr.mk k s n is)
  generalize Arr.mk k s n is=a at *
  by_cases h0:BC a.k a.sh a.nu.length a.it.length=0
  ·rw[if_neg (fun e=>e h0)] at hA
   by_cases h1:a.nu.any (CY a.k)=true
   ·rw[if_pos h1] at hA;rw[hA] at h;cases h
   ·rw[if_neg h1] at hA
    cases hr:Cd a.it 0 ((a.nu.length:Int)+a.it.length) with
    |none=>rw[hr] at hA;simp only at hA;rw[hA] at h;cases h
    |some r =>
     rw[hr] at hA
     simp only at hA
     split at hA
     ·rw[hA] at h;cases h
     ·rw[hA];exact Beg h0 hr ih
  ·rw[if_pos h0] at hA;rw[hA] at h;exact (h0 h).elim
termination_by a=>SizeOf.sizeOf a
decreasing_by
 have:=List.sizeOf_lt_of_mem hx'
 simp;omega
def MD(b:Arr):D:=.tup [.int .i64 (Bj b).1,.int .i64 (Bj b).2.1]
def BbV(a:Arr):Con:=fun k ds S=>match k with
 |36=>some (sRc Arr.row1 (fun b=>b∈a.it) (fun b=>.tup [.int .i64 (Bj b).1,.int .i64 (Bj b).2.1]))
 |17=>some (sRc Arr.row2 (fun b=>b=a) (fun b=>.int .i64 (wtA b)))
 |k=>RN k ds S
theorem BcA{a:Arr}(ha:a.ok)(ih:∀b∈a.it,ACalls Try.prog 36 ((sRc Arr.row2 (fun _=>True) MD).args b) ⟨[],[]⟩ (SpecR (sRc Arr.row2 (fun _=>True) MD) b)):ConOk Try.prog (BbV a):=by
 intro k ds S A h
 unfold BbV at h
 split at h
 ·injection h with h;subst h
  exact ConOk.plain (fun b hb=>Bas (r:=MD) (ih b hb)) rfl rfl
 ·injection h with h;subst h
  refine ConOk.plain (fun b hb=>?_) rfl rfl
  have hb:b=a:=hb
  rw[hb]
  exact (Rn a ha).mono fun _ _ ⟨y,h1,h2,h3⟩=>⟨y,h1,h2,h3⟩
 ·exact WL _ _ _ _ h
def cutW(a:Arr)(d:D)(S:St):Option LoopAnn :=
 match d with
 |.int _ i=>some { slots:=[76],keep:=[],α:=Unit,st:=fun _=>([.bool (CY a.k (a.nu.getD i.toNat 0))],S),inv:=fun _=>True,mu:=fun _=>0 }
 |_=>none
noncomputable def Eck(a:Arr):Senv:={ EC (BbV a) 107 11 [18,23,30,43,48,76,81,94,105] (fun id=>match id with | 9=>([0,2,3,1,4,5,6,7,8,9],[1,4]) | _=>([],[])) with
 cut:=fun id env S=>match id with
  |14=>cutW a (Ab.look env 6) S
  |_=>none
 ann:=fun b _ S=>match b with
  |0=>some { slots:=[6],keep:=[0,1,2,3],α:=Nat,st:=fun i=>([.int .i64 i],S),inv:=fun i=>i<=a.nu.length/\∀z∈a.nu.take i,CY a.k z=false,mu:=fun i=>a.nu.length-i }
  |2=>some { slots:=[8,7],keep:=[0,1,2,3],α:=Nat×Int×Int,st:=fun y=>([.int .i64 y.1,.int .i64 y.2.1],S),inv:=fun y=>y.1<=a.it.length/\0<=y.2.1/\y.2.1<=17/\0<=y.2.2/\y.2.2<=262145/\Cd (a.it.drop y.1) y.2.1 y.2.2=Cd a.it 0 ((a.nu.length:Int)+a.it.length),mu:=fun y=>a.it.length-y.1 }
  |_=>none }
def QE(a:Arr):Int:=Arr.k a
def Hv(a:Arr):Bool:=bif decide (QE a<Z1) then true else decide ((3:Int)<QE a)
def Jh(a:Arr):Int:=Prod.fst (Bj a)
def Vw(a:Arr):Prop:=Z0=Prod.fst (Prod.snd (Bj a))/\True
def Kw(a:Arr):Nat:=LN (Arr.sh a)
def Ji(a:Arr)(b:Nat):List D:=[ZI (GI (Arr.sh a) b)]
def QdH(a:Arr):Prop:=IntsP (Kw a) fun i=>Ji a i
def QdI(a:Arr):List Int:=BL (Kw a) fun i=>Ji a i
def Hw(a:Arr):Int:=B8 (QdI a)
def QdJ(a:Arr):D:=D.sl N1 (Kw a) (fun i=>Ji a i) Mode.any
def QdK(a:Nat)(b:Arr):Prop:=SM a/\SM (QdJ b)
def QdL(a:Arr):Prop:=QdH a/\Hw a=Z0
def XK(a:Arr):List Int:=Arr.nu a
def QX(a:Arr):Nat:=LN (XK a)
def JK(a:Arr):List Arr:=Arr.it a
def QY(a:Arr):Nat:=LN (JK a)
def QdM(a:Arr):Bool:=BJ (QE a) (QX a) (QY a) != B5 (QdI a)
def XL(a:Arr):Prop:=True/\∃(_y:Unit),True/\((16:Int)=Jh a/\Vw a)/\True/\True
def Vx(a:Arr):Int:=(NI (QX a))
def Hx(a:Nat)(b:Arr):Prop:=a<=QX b/\∀(z:Int),z∈List.take a (XK b)->CY (QE b) z=false
def Vy(a:Arr)(b:Nat):List D:=[ZI (GI (XK a) b)]
def XM:Arr:=DA
def Vz(a:Arr)(b:Nat):Arr:=List.getD (JK a) b XM
def Qlt(a:Arr)(b:Nat):List Int:=Arr.sh (Vz a b)
def Qlu(a:Arr)(b:Nat):List Int:=Arr.nu (Vz a b)
def QdN(a:Arr)(b:Nat):List Arr:=Arr.it (Vz a b)
def XN(a:Arr)(b:Nat):List D:=[ZI (Arr.k (Vz a b)),SI (Qlt a b),SI (Qlu a b),D.sl N4 (LN (QdN a b)) (fun i=>Arr.row (List.getD (QdN a b) i XM)) Mode.any]
def Jj(a:Nat)(b:Arr):Prop:=(SM a/\(SM (QE b)/\(SM (Kw b)/\(∀(i:Nat),i<Kw b->SM (Ji b i))/\True)/\(SM (QX b)/\(∀(i:Nat),i<QX b->SM (Vy b i))/\True)/\(SM (QY b)/\(∀(i:Nat),i<QY b->SM (XN b i))/\True)/\True)/\True)/\True
def Hy(a:Arr)(b:Nat):Int:=GI (XK a) (Int.toNat (↑b:Int))
def XO(a:Arr)(b:Nat):Bool:=CY (QE a) (Hy a b)
def QdO(a:Nat)(b:Arr)(c:Nat):Prop:=SM a/\ifB (QE b==2) (SM a/\Bc (Z0<=(↑c:Int)/\(↑c:Int)<Vx b) (True/\∀(_y:Unit),True->∃(_x:Unit),True/\((!Ui (Hy b c))=XO b c/\True)/\Jj a b)) (∃(_x:Unit),True/\(false=XO b c/\True)/\Jj a b)
def QdP(a:Arr):Prop:=True/\∃(_y:Unit),True/\((17:Int)=Jh a/\Vw a)/\True/\True
def Qlv(a:Arr):D:=D.agg [ZI (QE a),QdJ a,D.sl N1 (QX a) (fun i=>Vy a i) Mode.any,D.sl N4 (QY a) (fun i=>XN a i) Mode.any]
def QdQ(a:Arr)(b:Nat):Prop:=SM (Qlv a)/\SM (D.ref N0 b N0)/\SM (ZI Z0)/\SM (ZI Z0)/\True
def XP(a:Arr):Int:=(NI (QY a))
def Hz(a:Nat)(b:Arr)(c d:Int):Prop:=a<=QY b/\Z0<=c/\c<=17/\Z0<=d/\d<=262145/\Cd (List.drop a (JK b)) c d=Cd (JK b) Z0 (Vx b+XP b)
def XQ(a:Arr)(b:Nat):Arr:=List.getD (JK a) (Int.toNat (↑b:Int)) XM
def QdR(a:Arr)(b:Nat):List Int:=Arr.sh (XQ a b)
def QdS(a:Arr)(b:Nat):Nat:=LN (QdR a b)
def QdT(a:Arr)(b:Nat):List Int:=Arr.nu (XQ a b)
def QdU(a:Arr)(b:Nat):Nat:=LN (QdT a b)
def QdV(a:Arr)(b:Nat):List Arr:=Arr.it (XQ a b)
def QdW(a:Arr)(b:Nat):Nat:=LN (QdV a b)
def QdX(a:Arr):Prop:=True/\∃(_y:Unit),True/\((21:Int)=Jh a/\Vw a)/\True/\True
def QdY(a:Arr)(b:Nat):Prop:=(∃(x:Nat),Hx x a/\(Z0=(↑x:Int)/\True)/\Jj b a)/\∀(x:Nat),Hx x a->SM b/\ifB (decide ((↑x:Int)<Vx a)) ((SM b/\ifB (QE a==Z1) (SM b/\Bc (Z0<=(↑x:Int)/\(↑x:Int)<Vx a) (True/\∀(_y:Unit),True->ifB (!O1 (Hy a x)) (∃(_x_1:Unit),True/\(true=XO a x/\True)/\Jj b a) (QdO b a x))) (QdO b a x))/\∀(_x_1:Unit),True->ifB (XO a x) (QdP a) (QdQ a b/\∃(y:Nat),Hx y a/\QX a-y<QX a-x/\(IntKind.wrap IntKind.i64 ((↑x:Int)+Z1)=(↑y:Int)/\True)/\Jj b a)) ((∃(x:Nat×Int×Int),Hz x.1 a x.2.1 x.2.2/\(Z0=(NI x.1)/\Z0=x.2.1/\True)/\Jj b a)/\∀(x:Nat×Int×Int),Hz x.1 a x.2.1 x.2.2->SM b/\ifB (decide ((NI x.1)<XP a)) (SM b/\Bc (Z0<=(NI x.1)/\(NI x.1)<XP a) (∃(x_1:Arr),((Arr.k (XQ a x.1)=QE x_1/\(QdS a x.1=Kw x_1/\(∀(i:Nat),i<QdS a x.1->[ZI (GI (QdR a x.1) i)]=Ji x_1 i)/\True)/\(QdU a x.1=QX x_1/\(∀(i:Nat),i<QdU a x.1->[ZI (GI (QdT a x.1) i)]=Vy x_1 i)/\True)/\(QdW a x.1=QY x_1/\(∀(i:Nat),i<QdW a x.1->Arr.row (List.getD (QdV a x.1) i XM)=Arr.row (Vz x_1 i))/\True)/\True)/\True)/\(True/\True)/\x_1∈JK a/\∀(_y:Unit),True->ifB (Jh x_1 != Z0) (QdP a) (QdQ a b/\∃(y:Nat×Int×Int),Hz y.1 a y.2.1 y.2.2/\QY a-y.1<QY a-x.1/\(IntKind.wrap IntKind.i64 ((NI x.1)+Z1)=(NI y.1)/\(if x.2.1<IntKind.wrap IntKind.i64 (Prod.fst (Prod.snd (Bj x_1))+Z1) then IntKind.wrap IntKind.i64 (Prod.fst (Prod.snd (Bj x_1))+Z1) else x.2.1)=y.2.1/\True)/\Jj b a))) (ifB (decide ((16:Int)<x.2.1)) (QdX a) (SM b/\∃(x_1:Arr),((QE a=QE x_1/\(Kw a=Kw x_1/\(∀(i:Nat),i<Kw a->Ji a i=Ji x_1 i)/\True)/\(QX a=QX x_1/\(∀(i:Nat),i<QX a->Vy a i=Vy x_1 i)/\True)/\(QY a=QY x_1/\(∀(i:Nat),i<QY a->XN a i=XN x_1 i)/\True)/\True)/\True)/\(True/\True)/\x_1=a/\∀(_y:Unit),True->ifB (decide ((262144:Int)<wtA x_1)) (QdX a) (True/\∃(_y:Unit),True/\(Z0=Jh a/\x.2.1=Prod.fst (Prod.snd (Bj a))/\True)/\True/\True))))
theorem BdQ(a : Arr)(hok : a.ok)(ha : a.nu.length<=maxLen /\ a.it.length<=maxLen /\ a.sh.length<=maxLen)(ih : ∀b∈a.it, ACalls Try.prog 36 ((sRc Arr.row2 (fun _=>True) MD).args b) ⟨[], []⟩ (SpecR (sRc Arr.row2 (fun _=>True) MD) b)) :
  ACalls Try.prog 36 ((sRc Arr.row2 (fun _=>True) MD).args a) ⟨[],[]⟩ (SpecR (sRc Arr.row2 (fun _=>True) MD) a):=by
 refine Bo (A:=sRc Arr.row2 (fun _=>True) MD) (x:=a) (E:=Eck a) (eOk (BcA hok ih) rfl) Try.func36 rfl (by kernel_rfl) rfl (by simp[sRc,Eck,EC,E0]) ?_
 simp only[sRc,MD]
 refine Bu (T :=
  ∀(x:Nat),True->(SM x/\ifB (decide (QE a<Z1)) (true=Hv a/\True) (SM x/\decide ((3:Int)<QE a)=Hv a/\True))/\ifB (Hv a) (True/\∃(y:Unit),True/\((14:Int)=Jh a/\Vw a)/\True/\True) (SM x/\QdH a/\∀(y:Unit),True->ifB (Hw a != Z0) (True/\∃(y:Unit),True/\(Hw a=Jh a/\Vw a)/\True/\True) (SM x/\SM x/\ifB (QE a==3) (SM x/\SM x/\SM x/\True/\∀(y:Unit),True->QdK x a/\QdL a/\∀(y:Unit),True->ifB (QdM a) (XL a) (ifB (decide (Z0<Vx a)) (XL a) (QdY a x))) (SM x/\SM x/\True/\∀(y:Unit),True->QdK x a/\QdL a/\∀(y:Unit),True->ifB (QdM a) (XL a) (ifB (decide (Z0<XP a)) (XL a) (QdY a x)))))) (by kernel_rfl) ?_
 delta DA GI LN N0 N1 N4 NI SI SM Z0 Z1 ZI QE Hv QdK QdL XK QX JK QY QdM XL Vx Hx Jh Vy XM Vz Qlt Qlu QdN XN Jj Hy XO Vw QdO QdP Qlv QdQ XP Hz XQ QdR QdS QdT Kw QdU QdV QdW QdX QdY Ji QdH QdI Hw QdJ
 have da:(default:Arr)=Arr.mk 0 [] [] []:=rfl
 simp only[<- da,CE,Int.toNat_natCast,Bl,Be,decide_eq_true_eq,decide_eq_false_iff_not,true_and,and_true,beq_iff_eq,bne_iff_ne,Bool.cond_true_left,beq_eq_false_iff_ne,ne_eq,exists_const,forall_const]
 have hA:=Ur a
 obtain ⟨l1,l2,l3⟩:=ha
 simp only[maxLen] at l1 l2 l3
 have tt:(∀i:Nat,i<a.sh.length->True)/\(∀i:Nat,i<a.nu.length->True)/\∀i:Nat,i<a.it.length->True:=⟨fun _ _=>trivial,fun _ _=>trivial,fun _ _=>trivial⟩
 have bad:∀e,BC a.k a.sh a.nu.length a.it.length=e->e≠0->e=(Bj a).1/\0=(Bj a).2.1:=fun e h1 h2=>by
  rw[if_pos (by rw[h1];exact h2),h1] at hA
  rw[hA];exact⟨rfl,rfl⟩
 refine⟨⟨fun h=>by simp[h],fun h=>by simp[h]⟩,fun h=>bad 14 ?_ (by decide),fun h=>⟨BP _,fun hd=>bad _ ?_ hd,fun hd=>?_⟩⟩
 ·rw[Bool.or_eq_true,decide_eq_true_eq,decide_eq_true_eq] at h
  unfold BC;rw[if_neg (by omega)]
 ·rw[Bool.or_eq_false_iff,decide_eq_false_iff_not,decide_eq_false_iff_not] at h
  unfold BC;rw[if_pos (by omega),if_pos hd]
 rw[Bool.or_eq_false_iff,decide_eq_false_iff_not,decide_eq_false_iff_not] at h
 have hd0:B8 a.sh=0:=by simpa using hd
 have hk:a.k=1\/a.k=2\/a.k=3:=by omega
 have hf:BC a.k a.sh a.nu.length a.it.length=if ((if a.k=3 then (a.it.length:Int) else a.nu.length)≠B5 a.sh)\/((if a.k=3 then (a.nu.length:Int) else a.it.length)≠0) then 16 else 0:=by
  unfold BC;rw[if_pos hk,if_neg (fun e=>e hd0)]
 have hsz:BJ a.k a.nu.length a.it.length=if a.k=3 then (a.it.length:Int) else a.nu.length:=by
  unfold BJ
  by_cases k3:a.k=3
  ·rw[if_neg (by omega),if_pos k3,if_pos k3]
  ·rw[if_pos (by omega),if_neg k3]
 rw[<- hsz] at hf
 refine⟨fun k3=>⟨⟨BP _,hd0⟩,fun hs=>bad 16 (by rw[hf,if_pos (.inl hs)]) (by decide),fun hs=>⟨fun ho=>bad 16 (by rw[hf,if_pos (.inr (by rw[if_pos k3];omega))]) (by decide),fun ho=>?_⟩⟩,
  fun k3=>⟨⟨BP _,hd0⟩,fun hs=>bad 16 (by rw[hf,if_pos (.inl hs)]) (by decide),fun hs=>⟨fun ho=>bad 16 (by rw[hf,if_pos (.inr (by rw[if_neg k3];omega))]) (by decide),fun ho=>?_⟩⟩⟩
 all_goals
  have hs':BJ a.k a.nu.length a.it.length=B5 a.sh:=by simpa using hs
  have h0:BC a.k a.sh a.nu.length a.it.length=0:=by
   rw[hf,if_neg]
   rintro (h1 | h1)
   ·exact h1 hs'
   ·simp only[k3,if_true,if_false] at h1;omega
  clear hf hs hsz
  have hsm:=Ez h0
  refine⟨⟨0,⟨Nat.zero_le _,by simp⟩,rfl,tt⟩,fun i hi=>⟨fun hlt=>?_,fun hge=>?_⟩⟩
  ·have hlt':i<a.nu.length:=by omega
   have hmem:a.nu.getD i 0∈a.nu:=by rw[List.getD_eq_getElem?_getD,List.getElem?_eq_getElem hlt'];exact List.getElem_mem hlt'
   have htk:a.nu.take (i+1)=a.nu.take i++[a.nu.getD i 0]:=by
    rw[List.take_add_one];simp[List.getD_eq_getElem?_getD,hlt']
   generalize a.nu.getD i 0=z at *
   refine⟨⟨fun k1=>⟨⟨by omega,hlt⟩,fun hn=>⟨by simp at hn;simp[CY,k1,hn],tt⟩,fun hn=>⟨fun k2=>by omega,fun k2=>⟨by simp at hn;simp[CY,k1,hn],tt⟩⟩⟩,fun k1=>⟨fun k2=>⟨⟨by omega,hlt⟩,by simp[CY,k2],tt⟩,fun k2=>⟨by simp[CY,k1,k2],tt⟩⟩⟩,fun hb=>?_,fun hb=>⟨i+1,⟨by omega,fun y hy=>?_⟩,by omega,Bb (by omega) (by omega),tt⟩⟩
   ·have:a.nu.any (CY a.k)=true:=List.any_eq_true.2 ⟨z,hmem,hb⟩
    rw[if_neg (fun e=>e h0),if_pos this] at hA
    rw[hA]
    exact⟨rfl,rfl⟩
   ·rw[htk,List.mem_append] at hy
    rcases hy with hy | hy
    ·exact hi.2 y hy
    ·simp at hy;rw[hy];exact hb
  ·have hii:i=a.nu.length:=by omega
   rw[hii,List.take_length] at hi
   have hany:¬a.nu.any (CY a.k)=true:=by
    rw[List.any_eq_true]
    rintro ⟨z,hz,hb⟩
    rw[hi.2 z hz] at hb
    cases hb
   rw[if_neg (fun e=>e h0),if_neg hany] at hA
   refine⟨⟨(0,0,(a.nu.length:Int)+a.it.length),⟨Nat.zero_le _,Int.le_refl _,by simp,by simp only;omega,by simp only;omega,by simp⟩,⟨rfl,rfl⟩,tt⟩,?_⟩
   rintro ⟨j,d,w⟩ ⟨b1,b2,b3,b4,b5,hch⟩
   simp only at b1 b2 b3 b4 b5 hch ⊢
   refine⟨fun hlt=>⟨⟨by omega,hlt⟩,?_⟩,fun hge=>?_⟩
   ·have hlt':j<a.it.length:=by omega
    have hbd:=Eb (a.it.getD j default)
    rw[Ck hlt',Cd] at hch
    refine⟨a.it.getD j default,⟨rfl,⟨rfl,fun _ _=>rfl⟩,⟨rfl,fun _ _=>rfl⟩,rfl,fun _ _=>rfl⟩,Ch hlt',fun herr=>?_,fun hok=>?_⟩
    ·rw[if_pos herr] at hch
     rw[<- hch] at hA
     rw[hA]
     exact⟨rfl,rfl⟩
    ·have hok:(Bj (a.it.getD j default)).1=0:=by simpa using hok
     rw[if_neg (fun hne=>hne hok)] at hch
     have w1:IntKind.i64.wrap ((Bj (a.it.getD j default)).2.1+1)=(Bj (a.it.getD j default)).2.1+1:=Bb (by omega) (by omega)
     rw[w1]
     refine⟨(j+1,(if d<(Bj (a.it.getD j default)).2.1+1 then (Bj (a.it.getD j default)).2.1+1 else d),(if 262145<w+(Bj (a.it.getD j default)).2.2 then 262145 else w+(Bj (a.it.getD j default)).2.2)),⟨by simp only;omega,?_,?_,?_,?_,hch⟩,by simp only;omega,⟨Bb (by omega) (by omega),rfl⟩,tt⟩
     ·simp only;split<;>omega
     ·simp only;split<;>omega
     ·simp only;split<;>omega
     ·simp only;split<;>omega
   ·have hj:j=a.it.length:=by omega
    rw[hj,List.drop_length,Cd] at hch
    have hw:=Beg h0 hch.symm fun x _ hx=>T4 x hx
    rw[<- hch] at hA
    simp only at hA hw
    refine⟨fun hc=>?_,fun hc=>⟨a,⟨rfl,⟨rfl,fun _ _=>rfl⟩,⟨rfl,fun _ _=>rfl⟩,rfl,fun _ _=>rfl⟩,rfl,fun hq=>?_,fun hq=>?_⟩⟩
    ·rw[if_pos (.inl hc)] at hA
     rw[hA];exact⟨rfl,rfl⟩
    ·rw[if_pos (.inr (by omega))] at hA
     rw[hA];exact⟨rfl,rfl⟩
    ·rw[if_neg (by omega)] at hA
     rw[hA];exact⟨rfl,rfl⟩
theorem Bbq:∀(a:Arr),a.ok->ACalls Try.prog 36 ((sRc Arr.row2 (fun _=>True) MD).args a) ⟨[],[]⟩ (SpecR (sRc Arr.row2 (fun _=>True) MD) a)
 |.mk k s n is,h=>by
  have h':=h
  simp only[Arr.ok] at h'
  obtain ⟨_,_,_,h1,h2,h3,h4⟩:=h'
  refine BdQ (.mk k s n is) h ⟨h2,h3,h1⟩ fun b hb=>?_
  have hb':b∈is:=hb
  exact Bbq b ((Cm _).1 h4 b hb')
termination_by a=>SizeOf.sizeOf a
decreasing_by
 have:=List.sizeOf_lt_of_mem hb'
 simp;omega
theorem BfI{k:Nat}{row:Arr->List D}{q q':Arr->Prop}{r:Arr->D}{b:Arr}(h:ACalls Try.prog k ((sRc row q r).args b) ⟨[],[]⟩ (SpecR (sRc row q r) b)):ACalls Try.prog k ((sRc row q' r).args b) ⟨[],[]⟩ (SpecR (sRc row q' r) b) :=
 h.mono fun _ _ ⟨y,h1,h2,h3⟩=>⟨y,h1,h2,h3⟩
def Bdw(a:Arr):D:=.int .i64 (Bj a).1
def BbM(a:Arr):Con:=fun k _ _=>match k with
 |36=>some (sRc Arr.row2 (fun b=>b=a) (fun b=>.tup [.int .i64 (Bj b).1,.int .i64 (Bj b).2.1]))
 |21=>some (sRc Arr.row1 (fun b=>b=a) (fun b=>.int .i64 (Bj b).1))
 |_=>none
theorem BbZ{a:Arr}(ha:a.ok):ConOk Try.prog (BbM a):=by
 intro k ds S A h
 unfold BbM at h
 split at h
 ·injection h with h;subst h
  refine ConOk.plain (fun b hb=>?_) rfl rfl
  have hb:b=a:=hb
  rw[hb]
  exact BfI (r:=MD) (Bbq a ha)
 ·injection h with h;subst h
  refine ConOk.plain (fun b hb=>?_) rfl rfl
  have hb:b=a:=hb
  rw[hb]
  exact (GD a ha).mono fun _ _ ⟨y,h1,h2,h3⟩=>⟨(),trivial,h2,h3⟩
 ·cases h
noncomputable def Err(a:Arr):Senv:=EC (BbM a) 11 5 [] (fun _=>([],[]))
def QdZ:Arr:=DA
def XR(a:Arr)(b:Nat):Arr:=List.getD (Arr.it a) b QdZ
def Qlw(a:Arr)(b:Nat):List Int:=Arr.sh (XR a b)
def Qlx(a:Arr)(b:Nat):List Int:=Arr.nu (XR a b)
def Qd0(a:Arr)(b:Nat):List Arr:=Arr.it (XR a b)
def Qd1(a:Arr)(b:Nat):List D:=[ZI (Arr.k (XR a b)),SI (Qlw a b),SI (Qlx a b),D.sl N4 (LN (Qd0 a b)) (fun i=>Arr.row (List.getD (Qd0 a b) i QdZ)) Mode.any]
theorem BeB(a:Arr)(ha:a.ok):ACalls Try.prog 18 ((sRc Arr.row2 (fun _=>True) Bdw).args a) ⟨[],[]⟩ (SpecR (sRc Arr.row2 (fun _=>True) Bdw) a):=by
 refine Bo (A:=sRc Arr.row2 (fun _=>True) Bdw) (x:=a) (E:=Err a) (eOk (BbZ ha) rfl) Try.func18 rfl (by kernel_rfl) rfl (by simp[sRc,Err,EC,E0]) ?_
 simp only[sRc,Bdw]
 refine Bu (T :=
  ∀(x:Nat),True->SM x/\∃(x:Arr),((Arr.k a=Arr.k x/\(LN (Arr.sh a)=LN (Arr.sh x)/\(∀(i:Nat),i<LN (Arr.sh a)->[ZI (GI (Arr.sh a) i)]=[ZI (GI (Arr.sh x) i)])/\True)/\(LN (Arr.nu a)=LN (Arr.nu x)/\(∀(i:Nat),i<LN (Arr.nu a)->[ZI (GI (Arr.nu a) i)]=[ZI (GI (Arr.nu x) i)])/\True)/\(LN (Arr.it a)=LN (Arr.it x)/\(∀(i:Nat),i<LN (Arr.it a)->Qd1 a i=Qd1 x i)/\True)/\True)/\True)/\(True/\True)/\x=a/\∀(y:Unit),True->RT (Prod.fst (Bj x)=Prod.fst (Bj a))) (by kernel_rfl) ?_
 delta DA GI LN N1 N4 SI SM Z0 ZI QdZ XR Qlw Qlx Qd0 Qd1 RT
 simp only[and_true,exists_const]
 intro x _
 exact⟨trivial,a,⟨rfl,⟨rfl,fun _ _=>rfl⟩,⟨rfl,fun _ _=>rfl⟩,rfl,fun _ _=>rfl⟩,trivial,rfl,fun _ _=>⟨trivial,trivial,rfl⟩⟩
def _root_.Go.Ab.cellsO(os:List (Nat×Nat×AObj))(k:Nat):List D:=match Bz os k with
 |some (_,.cells ds)=>ds
 |_=>[]
theorem ACalls.wkEnd{P:Program}{k:FuncId}{ds:List D}{S:St}{R R':AEnd->St->Prop}(h:ACalls P k ds S R)(hr:∀r S',R r S'->∃r',(∀C e,RepEnd C r e->RepEnd C r' e)/\R' r' S'):ACalls P k ds S R' :=
 ⟨h.1,fun C F args w ha hs=>(h.2 C F args w ha hs).mono fun _ _ ⟨C',_r,S',h1,h2,h3,h4⟩=>let ⟨r',q0,q2⟩:=hr _ _ h4;⟨C',r',S',h1,h2,q0 _ _ h3,q2⟩⟩
theorem BcG(a:Arr):wkL a.row1 a.row:=by
 cases a with
 |mk k s n is =>
  simp only[Arr.row,Arr.row1,Arr.k,Arr.sh,Arr.nu,Arr.it,gsl,isl,wkL,wkD,Bf,Ba]
  refine⟨⟨by simp[kEq],trivial⟩,⟨by simp,trivial,fun i _=>by simp[kEq],by simp[Bw]⟩,⟨by simp,trivial,fun i _=>by simp[kEq],by simp[Bw]⟩,⟨by simp,by simp[Cq],fun i hi=>?_,by simp[Bw]⟩,trivial⟩
  have:(IR is).getD i []=(is.getD i default).row:=by
   rw[Cq];simp[List.getD_eq_getElem?_getD,hi]
  rw[this]
  exact Bg _
theorem BcQ{k:Int}{s:List Int}{nn ni:Nat}(h:BC k s nn ni=0):s.length<=8:=by
 unfold BC at h
 by_cases hk:k=1\/k=2\/k=3
 ·rw[if_pos hk] at h
  by_cases hd:B8 s≠0
  ·rw[if_pos hd] at h;exact (hd h).elim
  ·have hd:B8 s=0:=by simpa using hd
   unfold B8 at hd
   by_cases h8:8<s.length
   ·rw[if_pos h8] at hd;omega
   ·omega
 ·rw[if_neg hk] at h;omega
def _root_.Go.Ab.refKey:D->Nat
 |.ref k _ _=>k
 |_=>0
def _root_.Go.Ab.vkey(os:List (Nat×Nat×AObj))(k:Nat):Nat:=match cellsO os k with
 | [_,_,_,.vs kv _ _ _ _]=>kv
 |_=>0
def zrow:List D:=[.int .i64 0,.sl 1 0 (fun _=>[]) .nil,.sl 1 0 (fun _=>[]) .nil,.sl 1 0 (fun _=>[]) .nil]
def clR(its:List Arr)(i j:Nat):List D:=match Nat.blt j i with
 |true=>(its.getD j default).row1
 |false=>zrow
def sCl(row row':Arr->List D)(q:Arr->Prop):FnSpec where
 β:=Arr
 α:=Unit
 args:=fun a=>[.agg (row a)]
 st:=fun _=>⟨[],[]⟩
 pre:=q
 post:=fun _ _=>True
 res:=fun a _=>.ret (.agg (row' a))
 out:=fun _ _=>⟨[],[]⟩
def Bah(its:List Arr):Con:=fun k _ _=>match k with
 |49=>some (sCl Arr.row1 Arr.row1 (fun b=>b∈its))
 |_=>none
theorem M8{its:List Arr}{i j:Nat}(h:j<i):clR its i j=(its.getD j default).row1:=by
 unfold clR
 have:Nat.blt j i=true:=by simpa using h
 rw[this]
theorem BbJ{its:List Arr}{i j:Nat}(h:¬j<i):clR its i j=zrow:=by
 unfold clR
 cases hb:Nat.blt j i with
 |false=>rfl
 |true=>exact (h (by simpa using hb)).elim
noncomputable def Ecl(a:Arr):Senv:={ EC (Bah a.it) 47 6 [32,33,34,35] (fun id=>match id with | 1=>([0,1,2,3,4,6,7,8,10,11,12,5,9,13,14,15,16],[5,9,13,15,16]) | 7=>([0,1,2,3,4,5,6],[4,6]) | _=>([],[])) with
 gz:=fun r=>match r with
  |9=>[.cell 17 1,.cell 17 2,.cell 17 3]
  |_=>[]
 cut:=fun id _ S=>match id with
  |1=>some { slots:=[3],keep:=[],α:=(Nat×Nat)×Nat×Nat,st:=fun y=>([.ref 17 y.2.2 0],⟨[(17,y.2.2,.cells [.int .i64 a.k,.vs 7 y.1.1 a.sh.length a.sh.length 1,.vs 11 y.1.2 a.nu.length a.nu.length 1,.vs 15 y.2.1 a.it.length a.it.length 4]),(15,y.2.1,.vec 4 a.it.length a.it.length (clR a.it 0)),(11,y.1.2,.vec 1 a.nu.length a.nu.length (fun _=>[.int .i64 0])),(7,y.1.1,.vec 1 a.sh.length a.sh.length (fun _=>[.int .i64 0]))]++S.objs,[]⟩),inv:=fun _=>True,mu:=fun _=>0 }
  |_=>none
 ann:=fun b env S=>match b with
  |0=>some { slots:=[34],keep:=[1,2,3,32,33],α:=Nat,st:=fun i=>([.int .i64 i],⟨Em S.objs (vkey S.objs (refKey (Ab.look env 3))) (.vec 4 a.it.length a.it.length (clR a.it i)),S.toks⟩),inv:=fun i=>i<=a.it.length,mu:=fun i=>a.it.length-i }
  |_=>none }
def Q7(a:Arr):Nat:=LN (Arr.sh a)
def Qb(a:Arr):Int:=(NI (Q7 a))
def Qw(a:Arr):Int:=(8:Int)*Qb a
def KM(a:Arr):List Arr:=Arr.it a
def Qt(a:Arr):Nat:=LN (KM a)
def XS:Arr:=DA
def VA(a:Arr)(b:Nat):Arr:=List.getD (KM a) b XS
def Qly(a:Arr)(b:Nat):List Int:=Arr.sh (VA a b)
def Qlz(a:Arr)(b:Nat):List Int:=Arr.nu (VA a b)
def Qd2(a:Arr)(b:Nat):List Arr:=Arr.it (VA a b)
def HA(a:Arr)(b:Nat):List D:=[ZI (Arr.k (VA a b)),SI (Qly a b),SI (Qlz a b),D.sl N4 (LN (Qd2 a b)) (fun i=>Arr.row (List.getD (Qd2 a b) i XS)) Mode.any]
def QlA(a:Arr):D:=D.sl N4 (Qt a) (fun i=>HA a i) Mode.any
def Qd3(a:Arr):Prop:=SM (QlA a)
def QF(a:Nat)(b:Arr):Prop:=SM a/\Qd3 b
def Q8(a:Arr):Nat:=LN (Arr.nu a)
def XT(a:Arr)(b:Nat):List D:=[ZI (GI (Arr.nu a) b)]
def Qd4(a:Arr):D:=D.sl N1 (Q8 a) (fun i=>XT a i) Mode.any
def QG(a:Nat)(b:Arr):Prop:=SM a/\SM (Qd4 b)
def HB(a:Arr):Int:=Arr.k a
def Qd5(a:Arr):D:=ZI (HB a)
def Qe(a:Nat)(b:Arr):Prop:=SM a/\SM (Qd5 b)
def Qd(a:Arr):Int:=(NI (Q8 a))
def Qx(a:Arr):Int:=(8:Int)*Qd a
def QQ(a b c d:Nat):Prop:=a≠b/\c≠b/\d≠b/\True
def Qa(a:Arr):Int:=(NI (Qt a))
def Qy(a:Arr):Int:=(80:Int)*Qa a
def Ql(a b c d e:Nat):Prop:=a≠b/\QQ c b d e
def Qm(a b c d e f:Nat):Prop:=a≠b/\Ql c b d e f
def XU(a:Arr):Prop:=SM (HB a)
def XV(a:Arr):Prop:=Int.toNat (Qb a)=Q7 a
def XW(a:Arr):Prop:=Int.toNat (Qd a)=Q8 a
def XX(a:Arr):Prop:=Int.toNat (Qa a)=Qt a
def HC:D:=D.sl N1 N0 (fun _x=>[]) Mode.nil
def Qd6:Prop:=SM [ZI Z0]
def HD:Prop:=SM N0/\(∀(i:Nat),i<N0->Cr (List D) [] [])/\True
def Jk(a:Arr):Prop:=SM (Q7 a)
def XY(a:Arr)(b:Nat):List D:=[ZI (GI (Arr.sh a) b)]
def Qd7(a:Arr):Prop:=∀(i:Nat),i<Q7 a->SM (XY a i)
def Qd8(a:Arr):Prop:=Jk a/\Qd7 a/\True
def Jl(a:Arr):Prop:=SM (Q8 a)
def Qd9(a:Arr):Prop:=∀(i:Nat),i<Q8 a->SM (XT a i)
def Qea(a:Arr):Prop:=Jl a/\Qd9 a/\True
def Kx(a:Arr):Prop:=SM (Qt a)
def VB(a:Nat)(b:Arr):Prop:=a<Qt b
def Qeb(a b:Nat)(c:Arr):Prop:=SM a/\(SM Z0/\HD/\HD/\HD/\True)/\SM b/\(XU c/\Qd8 c/\Qea c/\(Kx c/\(∀(i:Nat),VB i c->SM (HA c i))/\True)/\True)/\True
def Qn(a:Nat)(b:Arr)(c d e f g:Nat):Prop:=Qe a b/\SM c/\∃(x:(Nat×Nat)×Nat×Nat),True/\(c=x.2.2/\True)/\(c=x.2.2/\(XU b/\(d=x.1.1/\XV b/\XV b)/\(e=x.1.2/\XW b/\XW b)/\(f=x.2.1/\XX b/\XX b)/\True)/\f=x.2.1/\(XX b/\XX b/\∀(i:Nat),i<Int.toNat (Qa b)->[ZI Z0,HC,HC,HC]=clR (KM b) N0 i)/\e=x.1.2/\(XW b/\XW b/\∀(i:Nat),i<Int.toNat (Qd b)->Qd6)/\d=x.1.1/\(XV b/\XV b/\∀(i:Nat),i<Int.toNat (Qb b)->Qd6)/\Qeb g a b)/\True
def Qec(a:Arr):D:=D.sl N1 (Q7 a) (fun i=>XY a i) Mode.any
def QH(a:Nat)(b:Arr):Prop:=SM a/\SM (Qec b)
def Qed(a:Arr)(b c d:Nat):Prop:=XU a/\(SM b/\Jk a/\Jk a)/\(SM c/\Jl a/\Jl a)/\(SM d/\Kx a/\Kx a)/\True
def XZ(a:Arr)(b c:Nat):List D:=clR (KM a) b c
def Qee(a:Nat)(b:Arr)(c d e:Nat):Prop:=SM a/\(Jl b/\Jl b/\Qd9 b)/\SM c/\(Jk b/\Jk b/\Qd7 b)/\Qeb d e b
def X0(a:Arr)(b:Nat):Arr:=List.getD (KM a) (Int.toNat (↑b:Int)) XS
def Qef(a:Arr)(b:Nat):List Int:=Arr.sh (X0 a b)
def Qeg(a:Arr)(b:Nat):Nat:=LN (Qef a b)
def Qeh(a:Arr)(b:Nat):List Int:=Arr.nu (X0 a b)
def Qei(a:Arr)(b:Nat):Nat:=LN (Qeh a b)
def Qej(a:Arr)(b:Nat):List Arr:=Arr.it (X0 a b)
def Qek(a:Arr)(b:Nat):Nat:=LN (Qej a b)
def Qel(a:Arr)(b:Nat):List D:=Arr.row (VA a b)
def QlB(a:Nat)(b:Arr):D:=D.vs (15:Nat) a (Qt b) (Qt b) N4
def HE(a:D):Bool:=match a with | D.unk=>false | D.agg _cs=>false | D.tup _ds=>false | _x=>true
theorem BdJ(a : Arr)(ha : a.nu.length<=1000000 /\ a.it.length<=1000000 /\ a.sh.length<=1000000)(hc : ConOk Try.prog (Bah a.it)) :
  ACalls Try.prog 49 ((sCl Arr.row2 Arr.row2 (fun _=>True)).args a) ⟨[],[]⟩ (SpecR (sCl Arr.row2 Arr.row2 (fun _=>True)) a):=by
 refine Bo (A:=sCl Arr.row2 Arr.row2 (fun _=>True)) (x:=a) (E:=Ecl a) (eOk hc rfl) Try.func49 rfl (by kernel_rfl) rfl (by simp[sCl,Ecl,EC,E0]) ?_
 refine Bu (T :=
  ∀(x:Nat),True->∀(x_1:Nat),x≠x_1/\True->(SM x/\SM x/\SM x/\SM x/\Bc (Z0<=Qb a/\Qb a<=Qb a/\Qw a<=281474976710656/\Qb a<=9223372036854775807) (∀(x_2:Nat),x_1≠x_2/\x≠x_2/\True->QF x a/\QG x a/\Qe x a/\Bc (Z0<=Qd a/\Qd a<=Qd a/\Qx a<=281474976710656/\Qd a<=9223372036854775807) (∀(x_3:Nat),QQ x_2 x_3 x_1 x->QF x a/\Qe x a/\Bc (Z0<=Qa a/\Qa a<=Qa a/\Qy a<=281474976710656/\Qa a<=9223372036854775807) (∀(x_4:Nat),Ql x_3 x_4 x_2 x_1 x->Qe x a/\∀(x_5:Nat),Qm x_4 x_5 x_3 x_2 x_1 x->Qn x a x_5 x_2 x_3 x_4 x_1)/\∀(x_4:Nat),Ql x_3 x_4 x_2 x_1 x->QF x a/\Qe x a/\Bc (Z0<=Qa a/\Qa a<=Qa a/\Qy a<=281474976710656/\Qa a<=9223372036854775807) (∀(x_5:Nat),Qm x_4 x_5 x_3 x_2 x_1 x->Qn x a x_4 x_2 x_3 x_5 x_1))/\Bc (Z0<=Qa a/\Qa a<=Qa a/\Qy a<=281474976710656/\Qa a<=9223372036854775807) (∀(x_3:Nat),QQ x_2 x_3 x_1 x->QG x a/\Qe x a/\Bc (Z0<=Qd a/\Qd a<=Qd a/\Qx a<=281474976710656/\Qd a<=9223372036854775807) (∀(x_4:Nat),Ql x_3 x_4 x_2 x_1 x->Qe x a/\∀(x_5:Nat),Qm x_4 x_5 x_3 x_2 x_1 x->Qn x a x_5 x_2 x_4 x_3 x_1)/\∀(x_4:Nat),Ql x_3 x_4 x_2 x_1 x->QG x a/\Qe x a/\Bc (Z0<=Qd a/\Qd a<=Qd a/\Qx a<=281474976710656/\Qd a<=9223372036854775807) (∀(x_5:Nat),Qm x_4 x_5 x_3 x_2 x_1 x->Qn x a x_4 x_2 x_5 x_3 x_1))/\∀(x_3:Nat),QQ x_2 x_3 x_1 x->QF x a/\QG x a/\Qe x a/\Bc (Z0<=Qd a/\Qd a<=Qd a/\Qx a<=281474976710656/\Qd a<=9223372036854775807) (∀(x_4:Nat),Ql x_3 x_4 x_2 x_1 x->QF x a/\Qe x a/\Bc (Z0<=Qa a/\Qa a<=Qa a/\Qy a<=281474976710656/\Qa a<=9223372036854775807) (∀(x_5:Nat),Qm x_4 x_5 x_3 x_2 x_1 x->Qn x a x_3 x_2 x_4 x_5 x_1))/\Bc (Z0<=Qa a/\Qa a<=Qa a/\Qy a<=281474976710656/\Qa a<=9223372036854775807) (∀(x_4:Nat),Ql x_3 x_4 x_2 x_1 x->QG x a/\Qe x a/\Bc (Z0<=Qd a/\Qd a<=Qd a/\Qx a<=281474976710656/\Qd a<=9223372036854775807) (∀(x_5:Nat),Qm x_4 x_5 x_3 x_2 x_1 x->Qn x a x_3 x_2 x_5 x_4 x_1)))/\Bc (Z0<=Qd a/\Qd a<=Qd a/\Qx a<=281474976710656/\Qd a<=9223372036854775807) (∀(x_2:Nat),x_1≠x_2/\x≠x_2/\True->QF x a/\QH x a/\Qe x a/\Bc (Z0<=Qb a/\Qb a<=Qb a/\Qw a<=281474976710656/\Qb a<=9223372036854775807) (∀(x_3:Nat),QQ x_2 x_3 x_1 x->QF x a/\Qe x a/\Bc (Z0<=Qa a/\Qa a<=Qa a/\Qy a<=281474976710656/\Qa a<=9223372036854775807) (∀(x_4:Nat),Ql x_3 x_4 x_2 x_1 x->Qe x a/\∀(x_5:Nat),Qm x_4 x_5 x_3 x_2 x_1 x->Qn x a x_5 x_3 x_2 x_4 x_1)/\∀(x_4:Nat),Ql x_3 x_4 x_2 x_1 x->QF x a/\Qe x a/\Bc (Z0<=Qa a/\Qa a<=Qa a/\Qy a<=281474976710656/\Qa a<=9223372036854775807) (∀(x_5:Nat),Qm x_4 x_5 x_3 x_2 x_1 x->Qn x a x_4 x_3 x_2 x_5 x_1))/\Bc (Z0<=Qa a/\Qa a<=Qa a/\Qy a<=281474976710656/\Qa a<=9223372036854775807) (∀(x_3:Nat),QQ x_2 x_3 x_1 x->QH x a/\Qe x a/\Bc (Z0<=Qb a/\Qb a<=Qb a/\Qw a<=281474976710656/\Qb a<=9223372036854775807) (∀(x_4:Nat),Ql x_3 x_4 x_2 x_1 x->Qe x a/\∀(x_5:Nat),Qm x_4 x_5 x_3 x_2 x_1 x->Qn x a x_5 x_4 x_2 x_3 x_1)/\∀(x_4:Nat),Ql x_3 x_4 x_2 x_1 x->QH x a/\Qe x a/\Bc (Z0<=Qb a/\Qb a<=Qb a/\Qw a<=281474976710656/\Qb a<=9223372036854775807) (∀(x_5:Nat),Qm x_4 x_5 x_3 x_2 x_1 x->Qn x a x_4 x_5 x_2 x_3 x_1))/\∀(x_3:Nat),QQ x_2 x_3 x_1 x->QF x a/\QH x a/\Qe x a/\Bc (Z0<=Qb a/\Qb a<=Qb a/\Qw a<=281474976710656/\Qb a<=9223372036854775807) (∀(x_4:Nat),Ql x_3 x_4 x_2 x_1 x->QF x a/\Qe x a/\Bc (Z0<=Qa a/\Qa a<=Qa a/\Qy a<=281474976710656/\Qa a<=9223372036854775807) (∀(x_5:Nat),Qm x_4 x_5 x_3 x_2 x_1 x->Qn x a x_3 x_4 x_2 x_5 x_1))/\Bc (Z0<=Qa a/\Qa a<=Qa a/\Qy a<=281474976710656/\Qa a<=9223372036854775807) (∀(x_4:Nat),Ql x_3 x_4 x_2 x_1 x->QH x a/\Qe x a/\Bc (Z0<=Qb a/\Qb a<=Qb a/\Qw a<=281474976710656/\Qb a<=9223372036854775807) (∀(x_5:Nat),Qm x_4 x_5 x_3 x_2 x_1 x->Qn x a x_3 x_5 x_2 x_4 x_1)))/\Bc (Z0<=Qa a/\Qa a<=Qa a/\Qy a<=281474976710656/\Qa a<=9223372036854775807) (∀(x_2:Nat),x_1≠x_2/\x≠x_2/\True->QG x a/\QH x a/\Qe x a/\Bc (Z0<=Qb a/\Qb a<=Qb a/\Qw a<=281474976710656/\Qb a<=9223372036854775807) (∀(x_3:Nat),QQ x_2 x_3 x_1 x->QG x a/\Qe x a/\Bc (Z0<=Qd a/\Qd a<=Qd a/\Qx a<=281474976710656/\Qd a<=9223372036854775807) (∀(x_4:Nat),Ql x_3 x_4 x_2 x_1 x->Qe x a/\∀(x_5:Nat),Qm x_4 x_5 x_3 x_2 x_1 x->Qn x a x_5 x_3 x_4 x_2 x_1)/\∀(x_4:Nat),Ql x_3 x_4 x_2 x_1 x->QG x a/\Qe x a/\Bc (Z0<=Qd a/\Qd a<=Qd a/\Qx a<=281474976710656/\Qd a<=9223372036854775807) (∀(x_5:Nat),Qm x_4 x_5 x_3 x_2 x_1 x->Qn x a x_4 x_3 x_5 x_2 x_1))/\Bc (Z0<=Qd a/\Qd a<=Qd a/\Qx a<=281474976710656/\Qd a<=9223372036854775807) (∀(x_3:Nat),QQ x_2 x_3 x_1 x->QH x a/\Qe x a/\Bc (Z0<=Qb a/\Qb a<=Qb a/\Qw a<=281474976710656/\Qb a<=9223372036854775807) (∀(x_4:Nat),Ql x_3 x_4 x_2 x_1 x->Qe x a/\∀(x_5:Nat),Qm x_4 x_5 x_3 x_2 x_1 x->Qn x a x_5 x_4 x_3 x_2 x_1)/\∀(x_4:Nat),Ql x_3 x_4 x_2 x_1 x->QH x a/\Qe x a/\Bc (Z0<=Qb a/\Qb a<=Qb a/\Qw a<=281474976710656/\Qb a<=9223372036854775807) (∀(x_5:Nat),Qm x_4 x_5 x_3 x_2 x_1 x->Qn x a x_4 x_5 x_3 x_2 x_1))/\∀(x_3:Nat),QQ x_2 x_3 x_1 x->QG x a/\QH x a/\Qe x a/\Bc (Z0<=Qb a/\Qb a<=Qb a/\Qw a<=281474976710656/\Qb a<=9223372036854775807) (∀(x_4:Nat),Ql x_3 x_4 x_2 x_1 x->QG x a/\Qe x a/\Bc (Z0<=Qd a/\Qd a<=Qd a/\Qx a<=281474976710656/\Qd a<=9223372036854775807) (∀(x_5:Nat),Qm x_4 x_5 x_3 x_2 x_1 x->Qn x a x_3 x_4 x_5 x_2 x_1))/\Bc (Z0<=Qd a/\Qd a<=Qd a/\Qx a<=281474976710656/\Qd a<=9223372036854775807) (∀(x_4:Nat),Ql x_3 x_4 x_2 x_1 x->QH x a/\Qe x a/\Bc (Z0<=Qb a/\Qb a<=Qb a/\Qw a<=281474976710656/\Qb a<=9223372036854775807) (∀(x_5:Nat),Qm x_4 x_5 x_3 x_2 x_1 x->Qn x a x_3 x_5 x_4 x_2 x_1)))/\∀(x_2:Nat),x_1≠x_2/\x≠x_2/\True->QF x a/\QG x a/\QH x a/\Qe x a/\Bc (Z0<=Qb a/\Qb a<=Qb a/\Qw a<=281474976710656/\Qb a<=9223372036854775807) (∀(x_3:Nat),QQ x_2 x_3 x_1 x->QF x a/\QG x a/\Qe x a/\Bc (Z0<=Qd a/\Qd a<=Qd a/\Qx a<=281474976710656/\Qd a<=9223372036854775807) (∀(x_4:Nat),Ql x_3 x_4 x_2 x_1 x->QF x a/\Qe x a/\Bc (Z0<=Qa a/\Qa a<=Qa a/\Qy a<=281474976710656/\Qa a<=9223372036854775807) (∀(x_5:Nat),Qm x_4 x_5 x_3 x_2 x_1 x->Qn x a x_2 x_3 x_4 x_5 x_1))/\Bc (Z0<=Qa a/\Qa a<=Qa a/\Qy a<=281474976710656/\Qa a<=9223372036854775807) (∀(x_4:Nat),Ql x_3 x_4 x_2 x_1 x->QG x a/\Qe x a/\Bc (Z0<=Qd a/\Qd a<=Qd a/\Qx a<=281474976710656/\Qd a<=9223372036854775807) (∀(x_5:Nat),Qm x_4 x_5 x_3 x_2 x_1 x->Qn x a x_2 x_3 x_5 x_4 x_1)))/\Bc (Z0<=Qd a/\Qd a<=Qd a/\Qx a<=281474976710656/\Qd a<=9223372036854775807) (∀(x_3:Nat),QQ x_2 x_3 x_1 x->QF x a/\QH x a/\Qe x a/\Bc (Z0<=Qb a/\Qb a<=Qb a/\Qw a<=281474976710656/\Qb a<=9223372036854775807) (∀(x_4:Nat),Ql x_3 x_4 x_2 x_1 x->QF x a/\Qe x a/\Bc (Z0<=Qa a/\Qa a<=Qa a/\Qy a<=281474976710656/\Qa a<=9223372036854775807) (∀(x_5:Nat),Qm x_4 x_5 x_3 x_2 x_1 x->Qn x a x_2 x_4 x_3 x_5 x_1))/\Bc (Z0<=Qa a/\Qa a<=Qa a/\Qy a<=281474976710656/\Qa a<=9223372036854775807) (∀(x_4:Nat),Ql x_3 x_4 x_2 x_1 x->QH x a/\Qe x a/\Bc (Z0<=Qb a/\Qb a<=Qb a/\Qw a<=281474976710656/\Qb a<=9223372036854775807) (∀(x_5:Nat),Qm x_4 x_5 x_3 x_2 x_1 x->Qn x a x_2 x_5 x_3 x_4 x_1)))/\Bc (Z0<=Qa a/\Qa a<=Qa a/\Qy a<=281474976710656/\Qa a<=9223372036854775807) (∀(x_3:Nat),QQ x_2 x_3 x_1 x->QG x a/\QH x a/\Qe x a/\Bc (Z0<=Qb a/\Qb a<=Qb a/\Qw a<=281474976710656/\Qb a<=9223372036854775807) (∀(x_4:Nat),Ql x_3 x_4 x_2 x_1 x->QG x a/\Qe x a/\Bc (Z0<=Qd a/\Qd a<=Qd a/\Qx a<=281474976710656/\Qd a<=9223372036854775807) (∀(x_5:Nat),Qm x_4 x_5 x_3 x_2 x_1 x->Qn x a x_2 x_4 x_5 x_3 x_1))/\Bc (Z0<=Qd a/\Qd a<=Qd a/\Qx a<=281474976710656/\Qd a<=9223372036854775807) (∀(x_4:Nat),Ql x_3 x_4 x_2 x_1 x->QH x a/\Qe x a/\Bc (Z0<=Qb a/\Qb a<=Qb a/\Qw a<=281474976710656/\Qb a<=9223372036854775807) (∀(x_5:Nat),Qm x_4 x_5 x_3 x_2 x_1 x->Qn x a x_2 x_5 x_4 x_3 x_1))))/\∀(x_2:(Nat×Nat)×Nat×Nat),True->SM x_2.2.2/\SM x/\SM x_2.1.1/\Q7 a<=Q7 a/\Jk a/\SM x_2.2.2/\SM x/\SM x_2.1.2/\Q8 a<=Q8 a/\Jl a/\SM x/\(∃(x_3:Nat),x_3<=Qt a/\(Z0=(↑x_3:Int)/\True)/\(SM x_2.2.2/\Qed a x_2.1.1 x_2.1.2 x_2.2.1/\SM x_2.2.1/\(Kx a/\Kx a/\∀(i:Nat),VB i a->clR (KM a) N0 i=XZ a x_3 i)/\Qee x_2.1.2 a x_2.1.1 x_1 x)/\True)/\∀(x_3:Nat),x_3<=Qt a->ifB (decide ((↑x_3:Int)<Qa a)) (Bc (Z0<=(↑x_3:Int)/\(↑x_3:Int)<Qa a) (∀(x_4:Nat),x_2.2.2≠x_4/\Qm x_2.2.1 x_4 x_2.1.2 x_2.1.1 x_1 x->SM x_4/\SM x_2.2.2/\SM x_4/\∃(x_5:Arr),((Arr.k (X0 a x_3)=HB x_5/\(Qeg a x_3=Q7 x_5/\(∀(i:Nat),i<Qeg a x_3->[ZI (GI (Qef a x_3) i)]=XY x_5 i)/\True)/\(Qei a x_3=Q8 x_5/\(∀(i:Nat),i<Qei a x_3->[ZI (GI (Qeh a x_3) i)]=XT x_5 i)/\True)/\(Qek a x_3=Qt x_5/\(∀(i:Nat),i<Qek a x_3->Arr.row (List.getD (Qej a x_3) i XS)=Qel x_5 i)/\True)/\True)/\True)/\(True/\True)/\x_5∈KM a/\∀(y:Unit),True->(SM x_2.2.2/\SM (QlB x_2.2.1 a))/\Bc (Z0<=(↑x_3:Int)/\(↑x_3:Int)<Qa a) (SM x_2.2.1/\Bc (Int.toNat (↑x_3:Int)<Qt a) ((SM (D.ref N0 x N0)/\SM (D.ref (max (N0+N1) N0) x_1 N0)/\SM (D.ref (17:Nat) x_2.2.2 N0)/\Qd3 a/\SM (ZI (Qa a))/\True)/\∃(y:Nat),y<=Qt a/\Qt a-y<Qt a-x_3/\(IntKind.wrap IntKind.i64 ((↑x_3:Int)+Z1)=(↑y:Int)/\True)/\(SM x_2.2.2/\Qed a x_2.1.1 x_2.1.2 x_2.2.1/\SM x_2.2.1/\(Kx a/\Kx a/\∀(i:Nat),VB i a->BA (clR (KM a) x_3) (Int.toNat (↑x_3:Int)) [Qd5 x_5,Qec x_5,Qd4 x_5,D.sl N4 (Qt x_5) (fun i=>Qel x_5 i) Mode.any] i=XZ a y i)/\Qee x_2.1.2 a x_2.1.1 x_1 x)/\True)))) (SM x_2.1.1/\Jk a/\Bc (Q7 a<=Q7 a) ((∀(i:Nat),i<Q7 a->(List.all (XY a i) fun (x:D)=>HE x)=true)/\∀(t:Nat),SM x_2.1.2/\Jl a/\Bc (Q8 a<=Q8 a) ((∀(i:Nat),i<Q8 a->(List.all (XT a i) fun (x:D)=>HE x)=true)/\∀(t:Nat),SM x_2.2.1/\Kx a/\Bc (Qt a<=Qt a) ((∀(i:Nat),VB i a->(List.all (XZ a x_3 i) fun (x:D)=>HE x)=true)/\∀(t:Nat),SM x_2.2.2/\SM x_1/\(SM x_1/\True)/\∃(y:Unit),True/\(XU a/\Qd8 a/\Qea a/\(Kx a/\(∀(i:Nat),VB i a->XZ a x_3 i=HA a i)/\True)/\True)/\True/\True))))) (by kernel_rfl) ?_
 delta DA GI LN N0 N1 N4 NI SI SM Z0 Z1 ZI Q7 Qb HA QlA Qd3 QF Q8 XT Qd4 QG HB Qd5 Qw Qe Qd Qx QQ Qa Qy Ql Qm XU XV KM XW XX HC Qd6 HD Jk XY Qd7 Qd8 Jl Qt Qd9 Qea Kx VB Qeb Qn Qec QH Qed XZ XS Qee X0 Qef Qeg Qeh Qei Qej Qek Qel QlB VA HE Qly Qlz Qd2
 have da:(default:Arr)=Arr.mk 0 [] [] []:=rfl
 simp only[<- da,eq_self,implies_true,Int.toNat_natCast,Bl,Be,decide_eq_true_eq,decide_eq_false_iff_not,true_and,and_true,exists_const,forall_const,Nat.le_refl]
 obtain ⟨l1,l2,l3⟩:=ha
 refine fun x x1 hx=>⟨?_,?_⟩
 ·repeat' (first | (refine⟨((_,_),_,_),rfl,rfl,⟨rfl,rfl,rfl⟩,rfl,fun _ _=>rfl,rfl,rfl⟩) | (refine And.intro ?_ ?_) | intro _ | omega)
 refine fun y=>⟨⟨0,Nat.zero_le _,rfl,fun _ _=>rfl⟩,fun i hi=>⟨fun hlt=>⟨⟨by omega,hlt⟩,fun x4 _=>⟨a.it.getD i default,⟨rfl,⟨rfl,fun _ _=>rfl⟩,⟨rfl,fun _ _=>rfl⟩,rfl,fun _ _=>rfl⟩,Ch (by omega),⟨by omega,hlt⟩,by omega,i+1,by omega,by omega,Bb (by omega) (by omega),fun j hj=>?_⟩⟩,fun hge=>⟨fun _ _=>rfl,fun _ _=>rfl,fun j hj=>?_,fun j hj=>?_⟩⟩⟩
 ·by_cases e:j=i
  ·subst e
   rw[M8 (by omega)]
   simp only[BA,if_true]
   rfl
  ·simp only[BA,e,if_false]
   by_cases e2:j<i
   ·rw[M8 e2,M8 (by omega)]
   ·rw[BbJ e2,BbJ (by omega)]
 ·rw[M8 (by omega)];rfl
 ·rw[M8 (by omega)];rfl
theorem Tr(a:Arr):wkL a.row2 a.row1:=by
 simp only[Arr.row1,Arr.row2,gsl,isl,wkL,wkD,Bf,Ba]
 exact⟨⟨by simp[kEq],trivial⟩,⟨by simp,trivial,fun i _=>by simp[kEq],by simp[Bw]⟩,⟨by simp,trivial,fun i _=>by simp[kEq],by simp[Bw]⟩,⟨by simp,trivial,fun i _=>BcG _,by simp[Bw]⟩,trivial⟩
theorem Tl:∀(l:List Arr) (d w:Int) (r:Int×Int),Cd l d w=some r->∀x∈l,(Bj x).1=0
 | [],_,_,_,_,x,hx=>by cases hx
 |y::l,d,w,r,h,x,hx=>by
  rw[Cd] at h
  split at h
  ·cases h
  ·rename_i hy
   rcases List.mem_cons.1 hx with rfl | hx
   ·simpa using hy
   ·exact Tl l _ _ r h x hx
theorem Cn{k:Int}{s n:List Int}{is:List Arr}(h:(Bj (.mk k s n is)).1=0):s.length<=8/\n.length<=65536/\is.length<=65536/\∀x∈is,(Bj x).1=0:=by
 rw[Bj] at h
 by_cases h0:BC k s n.length is.length≠0
 ·rw[if_pos h0] at h;exact (h0 h).elim
 ·rw[if_neg h0] at h
  have h0:BC k s n.length is.length=0:=by simpa using h0
  have hs:=Ez h0
  refine⟨BcQ h0,hs.1,hs.2,?_⟩
  by_cases hb:n.any (CY k)=true
  ·rw[if_pos hb] at h;simp at h
  ·rw[if_neg hb] at h
   cases hr:Cd is 0 ((n.length:Int)+is.length) with
   |none=>rw[hr] at h;simp at h
   |some r=>exact Tl _ _ _ r hr
theorem Ud:∀(a:Arr),(Bj a).1=0->ACalls Try.prog 49 [.agg a.row1] ⟨[],[]⟩ (SpecR (sCl Arr.row1 Arr.row1 (fun _=>True)) a)
 |.mk k s n is,h=>by
  obtain ⟨h1,h2,h3,h4⟩:=Cn h
  have hc:ConOk Try.prog (Bah (Arr.mk k s n is).it):=by
   intro k' ds S A hk
   unfold Bah at hk
   split at hk
   ·injection hk with hk;subst hk
    refine ConOk.plain (fun (b:Arr) hb=>?_) rfl rfl
    have hb':b∈is:=hb
    exact (Ud b (h4 b hb')).mono fun _ _ ⟨y,q1,q2,q3⟩=>⟨y,q1,q2,q3⟩
   ·cases hk
  have hm:=BdJ (.mk k s n is) ⟨by show n.length<=_;omega,by show is.length<=_;omega,by show s.length<=_;omega⟩ hc
  have hm2:ACalls Try.prog 49 [.agg (Arr.mk k s n is).row1] ⟨[],[]⟩ (SpecR (sCl Arr.row2 Arr.row2 (fun _=>True)) (.mk k s n is)):=by
   refine ACalls.wkArgs hm ?_
   simp only[sCl,wkL,wkD]
   exact⟨Cy _,trivial⟩
  refine ACalls.wkEnd hm2 fun r S' ⟨y,q1,q2,q3⟩=>?_
  subst q2 q3
  refine⟨.ret (.agg (Arr.mk k s n is).row1),fun C e he=>?_,⟨(),trivial,rfl,rfl⟩⟩
  cases e with
  |returned v =>
   refine Ga (.agg (Arr.mk k s n is).row2) _ ?_ C v he
   simp only[wkD]
   exact Tr _
  |panicked _=>exact he.elim
  |outgrown=>exact he.elim
termination_by a=>SizeOf.sizeOf a
decreasing_by
 have:=List.sizeOf_lt_of_mem hb'
 simp;omega
def CD(k:Nat)(ds:List D)(d:D):Prop:=ACalls Try.prog k ds ⟨[],[]⟩ (SpecR (sC ds d) ())
def CS(k:Nat)(ds:List D)(S:St)(d:D):Prop:=ACalls Try.prog k ds S (fun r S'=>r=.ret d/\S'=S)
theorem CS.frame{k:Nat}{ds:List D}{S:St}{d:D}(F:St)(h:CS k ds S d):CS k ds (S.add F) d:=by
 refine ((ACalls.frame h F).from fun C F' w H=>H).mono ?_
 rintro r S' ⟨S0,⟨rfl,rfl⟩,rfl⟩
 exact⟨rfl,rfl⟩
theorem CD.at_{k:Nat}{ds:List D}{d:D}(h:CD k ds d)(S:St):CS k ds S d:=ACalls.whole S h
theorem CS.wk{k:Nat}{ds us:List D}{S:St}{d:D}(h:CS k us S d)(hw:wkL ds us):CS k ds S d:=ACalls.wkArgs h hw
theorem CS.cd{k:Nat}{ds:List D}{d:D}(h:CS k ds ⟨[],[]⟩ d):CD k ds d:=ACalls.mono h fun _ _ ⟨h1,h2⟩=>⟨(),trivial,h1,h2⟩
theorem Ce{k : Nat}{β : Type}{ds : List D}{S : St}{d : β -> D}{p : β -> Prop}(h : ∀x, p x -> CS k ds S (d x)) :
  (∀x,(pE ds S d p).pre x->ACalls Try.prog k ((pE ds S d p).args x) ((pE ds S d p).st x) (SpecR (pE ds S d p) x))/\(∀x,(pE ds S d p).fit=some x->(pE ds S d p).pre x->Br ds ((pE ds S d p).args x)/\leS ((pE ds S d p).st x) S)/\((pE ds S d p).all=true->∀x,(pE ds S d p).pre x->Br ds ((pE ds S d p).args x)/\(pE ds S d p).st x=S) :=
 ⟨fun x hp=>ACalls.mono (h x hp) fun _ _ ⟨h1,h2⟩=>⟨(),trivial,h1,h2⟩,fun _ e=>(by cases e),fun _ _ _=>⟨Bh ds,rfl⟩⟩
def pA(ds:List D)(S:St)(d:D)(p:Prop):FnSpec:=pE (β:=Unit) ds S (fun _=>d) fun _=>p
theorem BD{k : Nat}{ds : List D}{S : St}{d : D}{p : Prop}(h : p -> CS k ds S d) :
  (∀x,(pA ds S d p).pre x->ACalls Try.prog k ((pA ds S d p).args x) ((pA ds S d p).st x) (SpecR (pA ds S d p) x))/\(∀x,(pA ds S d p).fit=some x->(pA ds S d p).pre x->Br ds ((pA ds S d p).args x)/\leS ((pA ds S d p).st x) S)/\((pA ds S d p).all=true->∀x,(pA ds S d p).pre x->Br ds ((pA ds S d p).args x)/\(pA ds S d p).st x=S) :=
 Ce fun _ hp=>h hp
def sS(ds:List D)(S:St)(d:D):FnSpec where
 β:=Unit
 α:=Unit
 args:=fun _=>ds
 st:=fun _=>S
 pre:=fun _=>True
 post:=fun _ _=>True
 res:=fun _ _=>.ret d
 out:=fun _ _=>S
theorem CS.of{k:Nat}{ds:List D}{S:St}{d:D}(h:ACalls Try.prog k ((sS ds S d).args ()) ((sS ds S d).st ()) (SpecR (sS ds S d) ())):CS k ds S d :=
 ACalls.mono h fun _ _ ⟨_,_,h2,h3⟩=>⟨h2,h3⟩
theorem CS.to{k:Nat}{ds:List D}{S S':St}{d:D}(h:CS k ds S' d)(h1:StTo S S')(h2:StTo S' S):CS k ds S d :=
 ACalls.to (ACalls.from h h1) fun r S0 ⟨e1,e2⟩=>⟨S,by rw[e2];exact h2,e1,rfl⟩
def W0{α:Type}(p:α->Bool):List α->Int->Int
 | [],_=>-1
 |x::r,i=>if p x then i else W0 p r (i+1)
structure IdxG {α:Type} (p:α->Bool) (l:List α) (i:Nat):Prop where
 hi:i<=l.length
 hg:W0 p (l.drop i) i=W0 p l 0
theorem IdxG.step{α:Type}[Inhabited α]{p:α->Bool}{l:List α}{i:Nat}(h:IdxG p l i)(hlt:i<l.length):(p (l.getD i default)=true->W0 p l 0=i)/\(p (l.getD i default)=false->IdxG p l (i+1)):=by
 have hg:=h.hg
 rw[Ck hlt,W0] at hg
 refine⟨fun e=>?_,fun e=>?_⟩
 ·rw[if_pos e] at hg;exact hg.symm
 ·rw[if_neg (by rw[e];exact Bool.false_ne_true)] at hg;exact⟨by omega,hg⟩
theorem IdxG.done{α:Type}{p:α->Bool}{l:List α}{i:Nat}(h:IdxG p l i)(hge:¬(i:Int)<l.length):W0 p l 0 = -1:=by
 have hg:=h.hg
 have:i=l.length:=by have:=h.hi;omega
 rw[this,List.drop_length,W0] at hg
 exact hg.symm
theorem CD.wk{k:Nat}{ds us:List D}{d:D}(h:CD k us d)(hw:wkL ds us):CD k ds d:=Bfd hw h
def _root_.Go.Ab.endW(d:D)(e:AEnd)(_:St):Prop:=match e with
 |.ret d'=>wkD d' d
 |_=>False
theorem CD.ofW{k:Nat}{ds:List D}{d:D}(h:ACalls Try.prog k ds ⟨[],[]⟩ (Go.Ab.endW d)):CD k ds d:=by
 refine (ACalls.wkEnd h (R':=fun r _=>r=.ret d) fun r S' hr=>?_).to ?_
 ·refine⟨.ret d,fun C e he=>?_,rfl⟩
  unfold Go.Ab.endW at hr
  split at hr
  ·cases e with
   |returned v=>exact Ga _ d hr C v he
   |panicked _=>exact he.elim
   |outgrown=>exact he.elim
  ·exact hr.elim
 ·rintro r S' rfl
  exact⟨⟨[],[]⟩,fun C F w H=>H.le ⟨List.nil_sublist _,List.nil_sublist _⟩,(),trivial,rfl,rfl⟩
def prL:List Nat->Nat
 | []=>1
 |d::r=>d*prL r
def BK:List Nat->Nat->List Nat
 | [],_=>[]
 |d::r,m=>m / prL r % d::BK r m
def hor:Nat->List Nat->List Nat->Nat
 |a,d::s,i::is=>hor (a*d+i) s is
 |a,_,_=>a
theorem Ct(m:Nat):∀s,(BK s m).length=s.length
 | []=>rfl
 |d::r=>by rw[BK,List.length_cons,List.length_cons,Ct m r]
theorem WC:∀(s:List Nat) (a m:Nat),hor a s (BK s m)=a*prL s+m % prL s
 | [],a,m=>by simp[hor,prL,Nat.mod_one]
 |d::r,a,m=>by
  rw[BK,hor,WC r,prL,Nat.add_mul,Nat.mul_assoc,Nat.add_assoc,Nat.mul_comm d (prL r),Nat.mod_mul,Nat.add_comm (m % prL r),Nat.mul_comm (prL r) (m / prL r % d),Nat.mul_comm (prL r) d]
theorem E6:∀(s:List Nat) (m i:Nat),i<s.length->(BK s m).getD i 0=m / prL (s.drop (i+1)) % s.getD i 0
 |d::r,m,0,_=>by simp[BK]
 |d::r,m,i+1,h=>by
  have:=E6 r m i (by simpa using h)
  simpa[BK] using this
theorem Gr:∀a b:List Nat,prL (a++b)=prL a*prL b
 | [],b=>by simp[prL]
 |d::a,b=>by rw[List.cons_append,prL,Gr a b,prL,Nat.mul_assoc]
theorem EF{s:List Nat}{i:Nat}(h:i<s.length):prL (s.drop i)=s.getD i 0*prL (s.drop (i+1)):=by
 rw[List.drop_eq_getElem_cons h,prL]
 simp[List.getD_eq_getElem?_getD,h]
theorem Ei{s:List Nat}{i j:Nat}(h:i<=j):prL (s.drop j) ∣ prL (s.drop i):=by
 have:s.drop i=(s.drop i).take (j-i)++s.drop j:=by
  have h2:(s.drop i).drop (j-i)=s.drop j:=by rw[List.drop_drop];congr 1;omega
  rw[<- h2,List.take_append_drop]
 rw[this,Gr]
 exact Nat.dvd_mul_left _ _
theorem Wt{s:List Nat}{m:Nat}{l:List Nat}(hl:l.length=s.length)(h:∀i,i<s.length->l.getD i 0=m / prL (s.drop (i+1)) % s.getD i 0):l=BK s m:=by
 apply List.ext_getElem (by rw[hl,Ct])
 intro i h1 h2
 have h3:=h i (by omega)
 rw[<- E6 s m i (by omega)] at h3
 simpa[List.getD_eq_getElem?_getD,h1,h2] using h3
structure Odo (s:List Nat) (m j:Nat) (cur:List Nat):Prop where
 len:cur.length=s.length
 le:j<=s.length
 low:∀i,i<j->cur.getD i 0=m / prL (s.drop (i+1)) % s.getD i 0
 high:∀i,j<=i->i<s.length->cur.getD i 0=0
 dvd:prL (s.drop j) ∣ m+1
theorem Odo.zero(s:List Nat)(m:Nat):Odo s m s.length (BK s m) :=
 ⟨Ct m s,Nat.le_refl _,fun i hi=>E6 s m i hi,fun i h1 h2=>by omega,by rw[List.drop_length];exact Nat.one_dvd _⟩
theorem Bba{a b:Nat}(h:¬b ∣ a+1):(a+1) / b=a / b:=by
 rcases Nat.eq_zero_or_pos b with rfl | hb
 ·simp
 ·have h1:=Nat.div_add_mod (a+1) b
  have h2:(a+1) % b≠0:=fun q=>h (Nat.dvd_of_mod_eq_zero q)
  have h3:=Nat.mod_lt (a+1) hb
  have e:a=b*((a+1) / b)+((a+1) % b-1):=by omega
  generalize (a+1) / b=q at *
  generalize (a+1) % b=r at *
  rw[e,Nat.mul_add_div hb,Nat.div_eq_of_lt (by omega)]
  try rfl
theorem Ob{a b:Nat}(hb:0<b)(h:b ∣ a+1):(a+1) / b=a / b+1:=by
 obtain ⟨q,e⟩:=h
 have hq:0<q:=by
  rcases Nat.eq_zero_or_pos q with rfl | h
  ·simp at e
  ·exact h
 obtain ⟨p,rfl⟩:∃p,q=p+1:=⟨q-1,by omega⟩
 have e2:a=b*p+(b-1):=by rw[Nat.mul_add,Nat.mul_one] at e;omega
 rw[e,Nat.mul_div_cancel_left _ hb,e2,Nat.mul_add_div hb,Nat.div_eq_of_lt (by omega)]
 try rfl
theorem GH{l:List Nat}{a v:Nat}(i:Nat)(h:a<l.length):(l.set a v).getD i 0=if i=a then v else l.getD i 0:=by
 simp only[List.getD_eq_getElem?_getD,List.getElem?_set]
 by_cases e:a=i
 ·subst e;simp[h]
 ·simp[e,Ne.symm e]
theorem Odo.stop{s:List Nat}{m a:Nat}{cur:List Nat}(h:Odo s m (a+1) cur)(hp:0<prL s)(hlt:cur.getD a 0+1<s.getD a 0):cur.set a (cur.getD a 0+1)=BK s (m+1):=by
 have ha:a<s.length:=h.le
 have hP:0<prL (s.drop (a+1)):=Nat.pos_of_dvd_of_pos (Ei (Nat.zero_le _)) (by simpa using hp)
 have hc:=h.low a (Nat.lt_succ_self a)
 have hdiv:=Ob hP h.dvd
 have hmod:(m / prL (s.drop (a+1))+1) % s.getD a 0=m / prL (s.drop (a+1)) % s.getD a 0+1:=by
  rw[Nat.add_mod,Nat.mod_eq_of_lt (show 1<s.getD a 0 by omega),Nat.mod_eq_of_lt (by rw[<- hc];exact hlt)]
 refine Wt (by rw[List.length_set];exact h.len) fun i hi=>?_
 rw[GH i (by rw[h.len];exact ha)]
 by_cases e:i=a
 ·subst e
  rw[if_pos rfl,hdiv,hmod,hc]
 ·rw[if_neg e]
  by_cases hia:i<a
  ·have hn:¬prL (s.drop (i+1)) ∣ m+1:=fun q=>by
    have q2:prL (s.drop a) ∣ m+1:=Nat.dvd_trans (Ei (by omega)) q
    rw[EF ha] at q2
    obtain ⟨c,hc2⟩:=q2
    have:(m+1) / prL (s.drop (a+1))=s.getD a 0*c:=by
     rw[hc2,Nat.mul_comm (s.getD a 0),Nat.mul_assoc,Nat.mul_div_cancel_left _ hP]
    rw[hdiv] at this
    have h0:(m / prL (s.drop (a+1))+1) % s.getD a 0=0:=by rw[this,Nat.mul_mod_right]
    omega
   rw[Bba hn,h.low i (by omega)]
  ·have hd:prL (s.drop i) ∣ m+1:=Nat.dvd_trans (Ei (by omega)) h.dvd
   rw[h.high i (by omega) hi]
   rw[EF hi] at hd
   obtain ⟨c,hc2⟩:=hd
   have hPi:0<prL (s.drop (i+1)):=Nat.pos_of_dvd_of_pos (Ei (Nat.zero_le _)) (by simpa using hp)
   have:(m+1) / prL (s.drop (i+1))=s.getD i 0*c:=by
    rw[hc2,Nat.mul_comm (s.getD i 0),Nat.mul_assoc,Nat.mul_div_cancel_left _ hPi]
   rw[this,Nat.mul_mod_right]
theorem Odo.carry{s:List Nat}{m a:Nat}{cur:List Nat}(h:Odo s m (a+1) cur)(hp:0<prL s)(hge:¬cur.getD a 0+1<s.getD a 0):Odo s m a (cur.set a 0):=by
 have ha:a<s.length:=h.le
 have hP:0<prL (s.drop (a+1)):=Nat.pos_of_dvd_of_pos (Ei (Nat.zero_le _)) (by simpa using hp)
 have hc:=h.low a (Nat.lt_succ_self a)
 have hs:0<s.getD a 0:=by
  have:prL (s.drop a) ∣ prL (s.drop 0):=Ei (Nat.zero_le _)
  have:=Nat.pos_of_dvd_of_pos this (by simpa using hp)
  rw[EF ha] at this
  exact Nat.pos_of_ne_zero fun q=>by rw[q,Nat.zero_mul] at this;exact absurd this (Nat.lt_irrefl 0)
 refine⟨by rw[List.length_set];exact h.len,by omega,fun i hi=>?_,fun i h1 h2=>?_,?_⟩
 ·rw[GH i (by rw[h.len];exact ha),if_neg (by omega)]
  exact h.low i (by omega)
 ·rw[GH i (by rw[h.len];exact ha)]
  split
  ·rfl
  ·exact h.high i (by omega) h2
 ·rw[EF ha]
  obtain ⟨c,hc2⟩:=h.dvd
  have hdiv:=Ob hP h.dvd
  have e:(m+1) / prL (s.drop (a+1))=c:=by rw[hc2,Nat.mul_div_cancel_left _ hP]
  have hm:=Nat.mod_lt (m / prL (s.drop (a+1))) hs
  have hd:s.getD a 0 ∣ c:=by
   rw[<- e,hdiv]
   have h2:=Nat.div_add_mod (m / prL (s.drop (a+1))) (s.getD a 0)
   have h3:m / prL (s.drop (a+1)) % s.getD a 0=s.getD a 0-1:=by omega
   refine⟨m / prL (s.drop (a+1)) / s.getD a 0+1,?_⟩
   rw[Nat.mul_add,Nat.mul_one]
   omega
  obtain ⟨q,rfl⟩:=hd
  rw[hc2,Nat.mul_comm (s.getD a 0) (prL _)]
  exact⟨q,by rw[Nat.mul_assoc]⟩
def pzL:List Int->Nat
 | []=>1
 |d::r=>if d=0 then pzL r else d.toNat*pzL r
theorem Bck:∀l:List Int,(∀d∈l,0<=d)->1<=pzL l
 | [],_=>Nat.le_refl _
 |d::r,h=>by
  have h1:=Bck r fun x hx=>h x (by simp[hx])
  have h2:=h d (by simp)
  rw[pzL]
  split
  ·exact h1
  ·exact Nat.mul_pos (by omega) h1
theorem IH:∀(l:List Int) (p:Nat) (q:Int),1<=p->p<=65536->(goO l p=some q↔(∀d∈l,0<=d/\d<=65536)/\p*pzL l<=65536/\q=((p*pzL l:Nat):Int))
 | [],p,q,h1,h2=>by
  simp only[goO,pzL,Nat.mul_one,Option.some.injEq]
  constructor
  ·rintro rfl;exact⟨fun _ h=>(nomatch h),h2,rfl⟩
  ·rintro ⟨_,_,h⟩;exact h.symm
 |d::r,p,q,h1,h2=>by
  rw[goO]
  by_cases hd:d<0\/65536<d
  ·rw[if_pos hd]
   constructor
   ·intro h;cases h
   ·rintro ⟨h,_⟩
    have:=h d (by simp)
    omega
  ·rw[if_neg hd]
   by_cases h0:d=0
   ·rw[if_pos h0,IH r p q h1 h2,pzL,if_pos h0]
    simp only[List.forall_mem_cons]
    constructor
    ·rintro ⟨a,b⟩;exact⟨⟨by omega,a⟩,b⟩
    ·rintro ⟨⟨_,a⟩,b⟩;exact⟨a,b⟩
   ·rw[if_neg h0]
    have e:(p:Int)*d=((p*d.toNat:Nat):Int):=by
     rw[Int.natCast_mul,Int.toNat_of_nonneg (by omega)]
    rw[e,pzL,if_neg h0,<- Nat.mul_assoc]
    by_cases hb:65536<((p*d.toNat:Nat):Int)
    ·rw[if_pos hb]
     constructor
     ·intro h;cases h
     ·rintro ⟨a,b,_⟩
      have:=Bck r fun x hx=>(a x (by simp[hx])).1
      have:p*d.toNat*1<=p*d.toNat*pzL r:=Nat.mul_le_mul_left _ this
      omega
    ·rw[if_neg hb,IH r (p*d.toNat) q (Nat.mul_pos h1 (by omega)) (by omega)]
     simp only[List.forall_mem_cons]
     constructor
     ·rintro ⟨a,b⟩;exact⟨⟨by omega,a⟩,b⟩
     ·rintro ⟨⟨_,a⟩,b⟩;exact⟨a,b⟩
theorem Bk(l:List Int):Bi l=true↔l.length<=8/\(∀d∈l,0<=d/\d<=65536)/\pzL l<=65536:=by
 unfold Bi
 rw[Bool.and_eq_true,decide_eq_true_iff,Option.isSome_iff_exists]
 have h:=fun q=>IH l 1 q (Nat.le_refl 1) (by omega)
 simp only[Nat.one_mul] at h
 constructor
 ·rintro ⟨h1,q,hq⟩
  obtain ⟨a,b,_⟩:=(h q).1 hq
  exact⟨h1,a,b⟩
 ·rintro ⟨h1,a,b⟩
  exact⟨h1,_,(h _).2 ⟨a,b,rfl⟩⟩
def shN(l:List Int):List Nat:=l.map Int.toNat
theorem BcZ:∀ {l:List Int},(∀d∈l,0<=d)->(l.contains 0=false)->pzL l=prL (shN l)
 | [],_,_=>rfl
 |d::r,h,hc=>by
  simp only[List.contains_cons,Bool.or_eq_false_iff,beq_eq_false_iff_ne] at hc
  have hd:d≠0:=fun e=>hc.1 e.symm
  rw[pzL,if_neg hd,BcZ (fun x hx=>h x (by simp[hx])) hc.2]
  rfl
theorem UD:∀ {l:List Int},l.contains 0=true->prL (shN l)=0
 |d::r,h=>by
  rw[List.contains_cons,Bool.or_eq_true,beq_iff_eq] at h
  show d.toNat*prL (shN r)=0
  rcases h with h | h
  ·rw[<- h];simp
  ·rw[UD h,Nat.mul_zero]
theorem G8{l:List Int}(h:Bi l=true):B5 l=(prL (shN l):Nat):=by
 obtain ⟨h1,h2,h3⟩:=(Bk l).1 h
 unfold B5
 cases hc:l.contains 0 with
 |true=>rw[if_pos rfl,UD hc];rfl
 |false =>
  have h4:=(IH l 1 _ (Nat.le_refl 1) (by omega)).2 ⟨h2,by simpa using h3,rfl⟩
  have h5:goO l 1=some ((pzL l:Nat):Int):=by simpa using h4
  rw[h5,BcZ (fun d hd=>(h2 d hd).1) hc]
  simp
def BdR(a:Arr):Nat:=prL (shN a.sh.tail)
theorem By{a:Arr}(h:(Bj a).1=0):BC a.k a.sh a.nu.length a.it.length=0:=by
 cases a with
 |mk k s n is =>
  rw[Bj] at h
  by_cases h0:BC k s n.length is.length≠0
  ·rw[if_pos h0] at h;exact (h0 h).elim
  ·exact Decidable.not_not.1 h0
theorem MW(s:List Int):B8 s=0↔Bi s=true:=by
 rw[Bk]
 unfold B8
 have h:=fun q=>IH s 1 q (Nat.le_refl 1) (by omega)
 simp only[Nat.one_mul] at h
 constructor
 ·intro e
  split at e
  ·omega
  ·split at e
   ·omega
   ·split at e
    ·rename_i h1 _ h3
     obtain ⟨q,hq⟩:=Option.isSome_iff_exists.1 h3
     obtain ⟨a,b,_⟩:=(h q).1 hq
     exact⟨by omega,a,b⟩
    ·omega
 ·rintro ⟨h1,h2,h3⟩
  have h5:goO s 1=some ((pzL s:Nat):Int):=by simpa using (h _).2 ⟨h2,h3,rfl⟩
  rw[if_neg (by omega),if_neg,h5]
  ·rfl
  ·intro q
   rw[List.any_eq_true] at q
   obtain ⟨x,hx,e⟩:=q
   have:=h2 x hx
   simp at e
   omega
theorem Bs{k:Int}{s:List Int}{nn ni:Nat}:BC k s nn ni=0↔(k=1\/k=2\/k=3)/\Bi s=true/\(if k=3 then ni else nn)=prL (shN s)/\(if k=3 then nn else ni)=0:=by
 unfold BC
 by_cases hk:k=1\/k=2\/k=3
 ·rw[if_pos hk]
  by_cases hd:B8 s=0
  ·have hr:=(MW s).1 hd
   rw[if_neg (by simpa using hd),G8 hr]
   simp only[hk,hr,true_and]
   split<;>split<;>omega
  ·rw[if_pos hd]
   have hr:¬Bi s=true:=fun q=>hd ((MW s).2 q)
   simp only[hr]
   simpa using hd
 ·rw[if_neg hk]
  simp only[hk,false_and,iff_false]
  decide
theorem WK(d i m:Nat)(r:List Nat):hor 0 (d::r) (i::BK r m)=i*prL r+m % prL r:=by
 rw[hor,WC,Nat.zero_mul,Nat.zero_add]
theorem EP{m n R:Nat}(h:m<n*R):m / R<n:=by
 have hR:0<R:=Nat.pos_of_ne_zero fun e=>by rw[e,Nat.mul_zero] at h;exact absurd h (Nat.not_lt_zero _)
 rw[Nat.div_lt_iff_lt_mul hR]
 exact h
theorem Bbb{α:Type}(l:List α)(k i:Nat)(z:α):(l.drop k).getD i z=l.getD (k+i) z:=by
 simp[List.getD_eq_getElem?_getD]
theorem Ti{α:Type}(l:List α){k i:Nat}(h:i<k)(z:α):(l.take k).getD i z=l.getD i z:=by
 simp[List.getD_eq_getElem?_getD,List.getElem?_take_of_lt h]
theorem BdM{α : Type}{l : List α}{n d R m : Nat}(z : α)(hl : l.length=d*R)(hn : n<=d)(hm : m<d*R) :
  (l.drop (n*R)++l.take (n*R)).getD m z=l.getD ((m / R+n % d+d) % d*R+m % R) z:=by
 have hq:=EP hm
 have hR:0<R:=Nat.pos_of_ne_zero fun e=>by rw[e,Nat.mul_zero] at hm;exact absurd hm (Nat.not_lt_zero _)
 have hdm:=Nat.div_add_mod m R
 have hmr:=Nat.mod_lt m hR
 have hnR:n*R<=d*R:=Nat.mul_le_mul_right _ hn
 have hmul:m=m / R*R+m % R:=by rw[Nat.mul_comm];exact hdm.symm
 clear hdm
 generalize m / R=q at *
 generalize m % R=r at *
 have hdl:(l.drop (n*R)).length=d*R-n*R:=by rw[List.length_drop,hl]
 have e0:(q+n % d+d) % d=if q+n<d then q+n else q+n-d:=by
  rw[Nat.add_mod_right]
  by_cases hnd:n=d
  ·rw[hnd,Nat.mod_self,Nat.add_zero,Nat.mod_eq_of_lt hq,if_neg (by omega)]
   omega
  ·rw[Nat.mod_eq_of_lt (show n<d by omega)]
   split
   ·rename_i h;exact Nat.mod_eq_of_lt h
   ·rename_i h
    rw[Nat.mod_eq_sub_mod (by omega),Nat.mod_eq_of_lt (by omega)]
 rw[e0,List.getD_eq_getElem?_getD]
 by_cases hlt:q+n<d
 ·rw[if_pos hlt]
  have h1:(q+n+1)*R<=d*R:=Nat.mul_le_mul_right _ hlt
  rw[Nat.add_mul,Nat.one_mul,Nat.add_mul] at h1
  rw[List.getElem?_append_left (by omega),List.getElem?_drop,<- List.getD_eq_getElem?_getD,Nat.add_mul]
  congr 1
  omega
 ·rw[if_neg hlt]
  have h1:d*R<=(q+n)*R:=Nat.mul_le_mul_right _ (by omega)
  rw[Nat.add_mul] at h1
  rw[List.getElem?_append_right (by omega),hdl,List.getElem?_take_of_lt (by omega),<- List.getD_eq_getElem?_getD,Nat.sub_mul,Nat.add_mul]
  congr 1
  omega
def roA(n:Nat)(a:Arr):Arr:=.mk a.k a.sh (a.nu.drop (n*BdR a)++a.nu.take (n*BdR a)) (a.it.drop (n*BdR a)++a.it.take (n*BdR a))
def joA(a b:Arr):Arr:=.mk a.k ((a.sh.headD 0+b.sh.headD 0)::a.sh.tail) (a.nu++b.nu) (a.it++b.it)
theorem CS.behind{k:Nat}{ds:List D}{b pre:List (Nat×Nat×AObj)}{ts:List (Nat×Nat)}{d:D}(h:CS k ds ⟨b,[]⟩ d):CS k ds ⟨pre++b,ts⟩ d:=by
 refine ((ACalls.frame h ⟨pre,ts⟩).perm (S':=⟨pre++b,ts⟩) (by simpa[St.add] using List.perm_append_comm) (by simp[St.add])).to ?_
 rintro r S' ⟨S0,⟨rfl,rfl⟩,rfl⟩
 refine⟨⟨pre++b,ts⟩,fun C F w H=>H.add_perm (by simpa[St.add] using List.perm_append_comm) (by simp[St.add]),rfl,rfl⟩
noncomputable def Esiz:Senv:=EC Tx 8 1 [2,5] (fun _=>([],[]))
def Qem(a:List Int):Prop:=IntsP (LN a) fun i=>[ZI (GI a i)]
def Qen(a:List Int):List Int:=BL (LN a) fun i=>[ZI (GI a i)]
def Qeo(a:List Int):Bool:=Bi (Qen a)
theorem MO(l:List Int)(h:Bi l=true):ACalls Try.prog 46 [isl l .any] ⟨[],[]⟩ (SpecR (sC [isl l .any] (.int .i64 (B5 l))) ()):=by
 refine Bo (A:=sC _ _) (x:=()) (E:=Esiz) (eOk IM rfl) Try.func46 rfl (by kernel_rfl) rfl (by simp[sC,Esiz,EC,E0]) ?_
 refine Bu (T :=
  Qem l/\∀(y:Unit),True->ifB (!Qeo l) (RT ((-1:Int)=B5 l)) ((Qem l/\Qeo l=true)/\∀(y:Unit),True->RT (B5 (Qen l)=B5 l))) (by kernel_rfl) ?_
 delta GI LN Z0 ZI Qem Qen Qeo RT
 simp only[CE,Bl,true_and,and_true,exists_const,forall_const,h]
 exact⟨BP l,fun h=>(by simp at h),fun _=>BP l⟩
theorem II(a:Arr):wkL a.row a.row1:=by
 cases a with
 |mk k s n is =>
  simp only[Arr.row,Arr.row1,Arr.k,Arr.sh,Arr.nu,Arr.it,gsl,isl,wkL,wkD,Bf,Ba]
  refine⟨⟨by simp[kEq],trivial⟩,⟨by simp,trivial,fun i _=>by simp[kEq],by simp[Bw]⟩,⟨by simp,trivial,fun i _=>by simp[kEq],by simp[Bw]⟩,⟨by simp,by simp[Cq],fun i hi=>?_,by simp[Bw]⟩,trivial⟩
  have:(IR is).getD i []=(is.getD i default).row:=by
   have hi:i<is.length:=by simpa[Cq] using hi
   rw[Cq];simp[List.getD_eq_getElem?_getD,hi]
  rw[this]
  exact Bg _
theorem Odo.last{s:List Nat}{m:Nat}{cur:List Nat}(h:Odo s m 0 cur)(hp:0<prL s):cur=BK s (m+1):=by
 refine Wt h.len fun i hi=>?_
 rw[h.high i (Nat.zero_le _) hi]
 have hd:prL (s.drop i) ∣ m+1:=Nat.dvd_trans (Ei (Nat.zero_le _)) h.dvd
 rw[EF hi] at hd
 obtain ⟨c,hc2⟩:=hd
 have hPi:0<prL (s.drop (i+1)):=Nat.pos_of_dvd_of_pos (Ei (Nat.zero_le _)) (by simpa using hp)
 have:(m+1) / prL (s.drop (i+1))=s.getD i 0*c:=by
  rw[hc2,Nat.mul_comm (s.getD i 0),Nat.mul_assoc,Nat.mul_div_cancel_left _ hPi]
 rw[this,Nat.mul_mod_right]
def hp(s:List Nat)(ix:Nat->Nat):Nat->Nat
 |0=>0
 |j+1=>hp s ix j*s.getD j 0+ix j
theorem BbX(s l:List Nat)(hl:l.length=s.length):∀j,j<=s.length->hor (hp s (fun i=>l.getD i 0) j) (s.drop j) (l.drop j)=hor 0 s l
 |0,_=>by simp[hp]
 |j+1,h=>by
  have hs:s.drop j=s.getD j 0::s.drop (j+1):=Ck (by omega)
  have hk:l.drop j=l.getD j 0::l.drop (j+1):=Ck (by omega)
  rw[<- BbX s l hl j (by omega),hs,hk,hor,hp]
theorem RK{s l:List Nat}(hl:l.length=s.length):hp s (fun i=>l.getD i 0) s.length=hor 0 s l:=by
 rw[<- BbX s l hl s.length (Nat.le_refl _),List.drop_length]
 cases l.drop s.length<;>rfl
theorem Bc7{s:List Nat}{j:Nat}(h:j<s.length):prL (s.take (j+1))=prL (s.take j)*s.getD j 0:=by
 have:s.take (j+1)=s.take j++[s.getD j 0]:=BaK h
 rw[this,Gr,prL,prL,Nat.mul_one]
theorem Ber{s:List Nat}{ix:Nat->Nat}(h:∀j,j<s.length->ix j<s.getD j 0):∀j,j<=s.length->hp s ix j<prL (s.take j)
 |0,_=>by simp[hp,prL]
 |j+1,hj=>by
  have h1:=Ber h j (by omega)
  have h2:=h j hj
  rw[Bc7 hj,hp]
  calc hp s ix j*s.getD j 0+ix j<hp s ix j*s.getD j 0+s.getD j 0:=by omega
   _=(hp s ix j+1)*s.getD j 0:=by rw[Nat.add_mul,Nat.one_mul]
   _<=prL (s.take j)*s.getD j 0:=Nat.mul_le_mul_right _ h1
theorem Bcn{s:List Nat}{ix:Nat->Nat}(h:∀j,j<s.length->ix j<s.getD j 0)(hp0:0<prL s)(j:Nat)(hj:j<=s.length):hp s ix j<prL s:=by
 refine Nat.lt_of_lt_of_le (Ber h j hj) (Nat.le_of_dvd hp0 ?_)
 have:s=s.take j++s.drop j:=(List.take_append_drop j s).symm
 exact⟨prL (s.drop j),by rw[<- Gr,<- this]⟩
theorem GM{s:List Nat}{f g:Nat->Nat}:∀j,(∀i,i<j->f i=g i)->hp s f j=hp s g j
 |0,_=>rfl
 |j+1,h=>by rw[hp,hp,GM j fun i hi=>h i (by omega),h j (by omega)]
def Ef(a:Arr)(s:List Int)(T:Nat->Nat):Arr:=.mk a.k s (if a.k=3 then [] else (List.range (prL (shN s))).map fun m=>a.nu.getD (T m) 0) (if a.k=3 then (List.range (prL (shN s))).map fun m=>a.it.getD (T m) default else [])
structure BH (a:Arr) (s:List Int) (src:Nat->Nat->Nat) (T:Nat->Nat):Prop where
 hk:a.k=1\/a.k=2\/a.k=3
 hs:Bi s=true
 hy:Bi a.sh=true
 hl:s.length=a.sh.length
 hT:∀m,m<prL (shN s)->T m<(if a.k=3 then a.it.length else a.nu.length)
 hd:∀m,m<prL (shN s)->∀j,j<s.length->src j ((BK (shN s) m).getD j 0)<(shN a.sh).getD j 0
 ht:∀m,m<prL (shN s)->hp (shN a.sh) (fun j=>src j ((BK (shN s) m).getD j 0)) s.length=T m
 hp0:0<prL (shN s)->0<prL (shN a.sh)
 hit:∀x∈a.it,(Bj x).1=0
structure BHo (a:Arr) (s:List Int) (src:Nat->Nat->Nat) (T:Nat->Nat):Prop where
 b:BH a s src T
 ho:(Ef a s T).ok
 hc:(Bj (Ef a s T)).1=0
def Arr.cells(a:Arr):List D:=[.int .i64 a.k,isl a.sh .any,isl a.nu .any,gsl 4 Arr.row a.it]
def cN(a:Arr)(m:Nat):Nat:=if a.k=3 then 0 else m
def cI(a:Arr)(m:Nat):Nat:=if a.k=3 then m else 0
def dgR(s:List Int)(m:Nat):Nat->List D:=fun i=>[.int .i64 ((BK (shN s) m).getD i 0:Nat)]
def crR(l:List Nat):Nat->List D:=fun i=>[.int .i64 (l.getD i 0:Nat)]
def nuR(a:Arr)(T:Nat->Nat):Nat->List D:=fun i=>[.int .i64 (a.nu.getD (T i) 0)]
def hpS(a:Arr)(s:List Int)(src:Nat->Nat->Nat)(m j:Nat):Nat:=hp (shN a.sh) (fun i=>src i ((BK (shN s) m).getD i 0)) j
def BdX(s:List Int)(m j:Nat)(l:List Nat):Prop:=∃cur,Odo (shN s) m (j+1) cur/\l=cur.set j (cur.getD j 0+1)
def itA(a:Arr)(T:Nat->Nat)(i:Nat):Arr:=a.it.getD (T i) default
theorem BH.h8{a:Arr}{s:List Int}{src:Nat->Nat->Nat}{T:Nat->Nat}(h:BH a s src T):s.length<=8:=((Bk s).1 h.hs).1
theorem C6{s:List Int}(h:∀d∈s,(0:Int)<=d/\d<=65536)(j:Nat):((shN s).getD j 0:Int)=s.getD j 0:=by
 simp only[shN,List.getD_eq_getElem?_getD,List.getElem?_map]
 cases hj:s[j]? with
 |none=>simp
 |some d =>
  have:=(h d (List.mem_of_getElem? hj)).1
  simp;omega
theorem BV(s:List Int):(shN s).length=s.length:=by simp[shN]
theorem Ea{s:List Int}(h:Bi s=true):prL (shN s)<=65536:=by
 obtain ⟨_,h2,h3⟩:=(Bk s).1 h
 cases hc:s.contains 0 with
 |true=>rw[UD hc];omega
 |false=>rw[<- BcZ (fun d hd=>(h2 d hd).1) hc];exact h3
theorem TU{s:List Int}(h:Bi s=true)(j:Nat):(shN s).getD j 0<=65536:=by
 have h2:=((Bk s).1 h).2.1
 have:=C6 h2 j
 by_cases hj:j<s.length
 ·have:=h2 (s.getD j 0) (by rw[List.getD_eq_getElem?_getD,List.getElem?_eq_getElem hj];simp)
  omega
 ·rw[List.getD_eq_getElem?_getD,List.getElem?_eq_none (by rw[BV];omega)];simp
theorem G6{s:List Nat}(m:Nat){j:Nat}(hp:0<prL s)(hj:j<s.length):(BK s m).getD j 0<s.getD j 0:=by
 rw[E6 s m j hj]
 refine Nat.mod_lt _ ?_
 have h0:prL (s.drop j) ∣ prL (s.drop 0):=Ei (Nat.zero_le _)
 have h1:=Nat.pos_of_dvd_of_pos h0 (by simpa using hp)
 rw[EF hj] at h1
 exact Nat.pos_of_ne_zero fun q=>by rw[q,Nat.zero_mul] at h1;exact absurd h1 (Nat.lt_irrefl 0)
theorem Bav{s:List Nat}(m:Nat){j:Nat}(hj:s.length<=j):(BK s m).getD j 0=0:=by
 rw[List.getD_eq_getElem?_getD,List.getElem?_eq_none (by rw[Ct];exact hj)];rfl
theorem Tj:∀(s:List Nat) (j:Nat),(BK s 0).getD j 0=0
 | [],j=>by simp[BK]
 |d::r,0=>by simp[BK]
 |d::r,j+1=>by simpa[BK] using Tj r j
theorem IK(a:Arr):a.row.length=4:=by cases a;rfl
section
variable {a:Arr} {s:List Int} {src:Nat->Nat->Nat} {T:Nat->Nat} (h:BH a s src T) {m:Nat} (hm:m<prL (shN s))
include h hm
theorem BH.hpb{j:Nat}(hj:j<=s.length):hpS a s src m j<=65536:=by
 have hl:(shN a.sh).length=s.length:=by rw[BV,h.hl]
 have h1:=Bcn (s:=shN a.sh) (ix:=fun i=>src i ((BK (shN s) m).getD i 0)) (fun j hj=>h.hd m hm j (by omega)) (h.hp0 (by omega)) j (by omega)
 have:=Ea h.hy
 unfold hpS
 omega
theorem BH.step{j:Nat}(hj:j<s.length):IntKind.i64.wrap (IntKind.i64.wrap ((hpS a s src m j:Int)*a.sh.getD j 0)+(src j ((BK (shN s) m).getD j 0):Nat))=(hpS a s src m (j+1):Nat):=by
 have h2:=((Bk a.sh).1 h.hy).2.1
 rw[<- C6 h2 j]
 have e:(hpS a s src m (j+1):Int)=(hpS a s src m j:Int)*((shN a.sh).getD j 0:Nat)+(src j ((BK (shN s) m).getD j 0):Nat):=by
  simp only[hpS,hp];push_cast;rfl
 have hb:=h.hpb hm (show j+1<=s.length from hj)
 have hn:(0:Int)<=(hpS a s src m j:Int)*((shN a.sh).getD j 0:Nat):=by
  have:((hpS a s src m j*(shN a.sh).getD j 0:Nat):Int)=(hpS a s src m j:Int)*((shN a.sh).getD j 0:Nat):=by push_cast;rfl
  omega
 rw[Bb (n:=(hpS a s src m j:Int)*((shN a.sh).getD j 0:Nat)) (by omega) (by omega),Bb (by omega) (by omega),e]
end
theorem Bax{cur:List Nat}{j v:Nat}(hj:j<cur.length)(i:Nat):BA (crR cur) j [.int .i64 (v:Nat)] i=crR (cur.set j v) i:=by
 unfold BA crR
 rw[GH i hj]
 split<;>rfl
theorem OH{C:Ctx}{u u' d d':D}(hu:∀v,Rep C u v->Rep C u' v)(hd:∀v,Rep C d v->Rep C d' v)(v:Value)(h:Rep C (.tup [u,d]) v):Rep C (.tup [u',d']) v:=by
 simp only[Rep,RepL] at h ⊢
 obtain ⟨vs,e,x,xs,e1,r1,y,ys,e2,r2,e3⟩:=h
 exact⟨vs,e,x,xs,e1,hu x r1,y,ys,e2,hd y r2,e3⟩
theorem CS.res{k:Nat}{ds:List D}{S:St}{d d':D}(h:CS k ds S d)(hw:∀C v,Rep C d v->Rep C d' v):CS k ds S d' :=
 (ACalls.wkEnd h (R':=fun r S'=>r=.ret d'/\S'=S) fun r S' hr=>⟨.ret d',fun C e he=>by
  obtain ⟨rfl,_⟩:=hr
  cases e with
  |returned v=>exact hw C v he
  |panicked _=>exact he.elim
  |outgrown=>exact he.elim,rfl,hr.2⟩)
theorem E8(a:Arr)(C:Ctx)(v:Value)(h:Rep C (.agg a.row2) v):Rep C (.agg a.row1) v :=
 Ga _ _ (by simp only[wkD];exact Tr a) C v h
theorem Bbo{a:Arr}{s:List Int}{T:Nat->Nat}{i:Nat}(hi:i<cI a (prL (shN s))):(Ef a s T).it.getD i default=itA a T i:=by
 unfold cI at hi
 by_cases hk:a.k=3
 ·rw[if_pos hk] at hi
  show (if a.k=3 then _ else _:List Arr).getD i default=_
  rw[if_pos hk,List.getD_eq_getElem?_getD,List.getElem?_map,List.getElem?_range hi];rfl
 ·rw[if_neg hk] at hi;omega
theorem BcB{a:Arr}{s:List Int}{T:Nat->Nat}{i:Nat}(hi:i<cN a (prL (shN s))):(Ef a s T).nu.getD i 0=a.nu.getD (T i) 0:=by
 unfold cN at hi
 by_cases hk:a.k=3
 ·rw[if_pos hk] at hi;omega
 ·rw[if_neg hk] at hi
  show (if a.k=3 then _ else _:List Int).getD i 0=_
  rw[if_neg hk,List.getD_eq_getElem?_getD,List.getElem?_map,List.getElem?_range hi];rfl
theorem BbR{a:Arr}{s:List Int}{T:Nat->Nat}:cN a (prL (shN s))=(Ef a s T).nu.length:=by
 show _=(if a.k=3 then _ else _:List Int).length
 unfold cN;split<;>simp
theorem Bdg{a:Arr}{s:List Int}{T:Nat->Nat}:cI a (prL (shN s))=(Ef a s T).it.length:=by
 show _=(if a.k=3 then _ else _:List Arr).length
 unfold cI;split<;>simp
def nmA(n:Nat):Arr:=.mk 1 [] [(n:Int)] []
noncomputable def Enu:Senv:=EC E5 6 1 [2] (fun _=>([],[]))
def Qep:Prop:=SM N0/\(∀(i:Nat),i<N0->False)/\True
theorem BfH(n:Nat):CD 14 [.int .i64 (n:Nat)] (.agg (nmA n).row1):=by
 refine CD.ofW (T2 (E:=Enu) (eOk BN rfl) Try.func14 rfl (by kernel_rfl) rfl (by simp[Enu,EC,E0]) ?_)
 refine Bu (T :=
  ∀(x:Nat),True->SM x/\(SM x/\True)/\Z1=Arr.k (Arr.mk Z1 [] [(↑n:Int)] [])/\Qep/\(SM N1/\(∀(i:Nat),i<N1->wkL (List.getD [[ZI (↑n:Int)]] i []) [ZI (GI [(↑n:Int)] i)])/\True)/\Qep/\True) (by kernel_rfl) ?_
 delta GI N0 N1 SM Z0 Z1 ZI Qep
 simp only[eq_self,true_and,and_true,forall_const]
 refine⟨rfl,fun i h=>by omega,fun i h=>?_,fun i h=>by omega⟩
 obtain rfl:i=0:=by omega
 exact Bg _
def Bdr(z:Int):List D:=[.int .i64 z]
def In{α:Type}[Inhabited α](w:Nat)(row:α->List D)(k:Nat)(l:List α):FnSpec where
 β:=Unit
 α:=Nat×Nat
 args:=fun _=>[gsl w row l]
 st:=fun _=>⟨[],[]⟩
 pre:=fun _=>l≠[]/\l.length<=1000000
 post:=fun _ y=>l.length<=y.2
 res:=fun _ y=>.ret (.vs k y.1 l.length y.2 w)
 out:=fun _ y=>⟨[(k,y.1,.vec w l.length y.2 (fun i=>row (l.getD i default)))],[]⟩
noncomputable def Ecn:Senv:={ EC E5 8 1 [2,4] (fun _=>([],[])) with own:=fun t=>Nat.beq t 23 }
theorem BeU(l:List Int)(h:l≠[]/\l.length<=1000000):ACalls Try.prog 29 ((In 1 Bdr 0 l).args ()) ((In 1 Bdr 0 l).st ()) (SpecR (In 1 Bdr 0 l) ()):=by
 refine Bo (A:=In 1 Bdr 0 l) (x:=()) (E:=Ecn) (eOk BN rfl) Try.func29 rfl (by kernel_rfl) rfl (by simp[In,Ecn,EC,E0]) ?_
 refine Bu (T :=
  ∀(r:Bool),(r=true->LN l=N0)->ifB r (True/\∃(y:Nat×Nat),LN l<=y.2/\D.sl N1 N0 (fun x=>[]) Mode.nil=D.vs N0 y.1 (LN l) y.2 N1/\False/\True) (Bc (N0<LN l/\LN l*8<=140737488355328/\LN l<=9223372036854775807) (∀(y cap':Nat),True->LN l<=cap'->True/\∃(y_1:Nat×Nat),LN l<=y_1.2/\(y=y_1.1/\SM (LN l)/\cap'=y_1.2)/\(y=y_1.1/\(SM (LN l)/\cap'=y_1.2/\∀(i:Nat),i<LN l->SM [ZI (GI l i)])/\True)/\True))) (by kernel_rfl) ?_
 delta GI LN N0 N1 SM Z0 ZI
 have hl:0<l.length:=List.length_pos_iff.2 h.1
 intro r hr
 rw[Bl,Be]
 refine⟨fun e=>absurd (hr e) (by omega),fun _=>⟨⟨hl,by omega,by omega⟩,fun y c _ hc=>⟨trivial,(y,c),hc,⟨rfl,rfl,rfl⟩,⟨rfl,⟨rfl,rfl,fun _ _=>rfl⟩,trivial⟩,trivial⟩⟩⟩
theorem Bdz{α : Type}[Inhabited α]{f w : Nat}{row : α -> List D}{l : List α}(k : Nat)(h : ACalls Try.prog f ((In w row 0 l).args ()) ((In w row 0 l).st ()) (SpecR (In w row 0 l) ())) :
  ACalls Try.prog f ((In w row k l).args ()) ((In w row k l).st ()) (SpecR (In w row k l) ()) :=
 h.respec (by simp[In,Bh]) (by simp[In,UX,WG,TV]) fun y hy=>⟨y,hy,by simp[In,IN,Bf,Ba],by simp[In,UX,WG,TV,B4,Ba]⟩
theorem Bfb{n:Nat}(hn:n<=65536):(Bj (nmA n)).1=0:=by
 unfold nmA
 rw[Bj]
 have h0:BC 1 [] 1 0=0:=by decide
 rw[if_neg (by simpa using h0),if_neg]
 ·rw[Cd];simp
 ·simp only[List.any_cons,List.any_nil,Bool.or_false,CY,O1]
  simp
  exact Int.le_trans (Int.ofNat_le.2 hn) (by decide)
theorem BeI{n:Nat}(hn:n<=65536):(nmA n).ok:=by
 unfold nmA
 simp only[Arr.ok,okL]
 refine⟨by unfold EV;omega,by simp,fun z hz=>?_,by simp,by simp[maxLen],by simp,trivial⟩
 have:z=(n:Int):=by simpa using hz
 unfold EV;omega
def sCv(x n:Nat)(f:Nat->List D):FnSpec where
 β:=Unit
 α:=Nat×Nat
 args:=fun _=>[.vs 0 x n 8 1]
 st:=fun _=>⟨[(0,x,.vec 1 8 8 f)],[]⟩
 pre:=fun _=>0<n/\n<=8
 post:=fun _ y=>n<=y.2
 res:=fun _ y=>.ret (.vs 0 y.1 n y.2 1)
 out:=fun _ y=>⟨[(0,y.1,.vec 1 n y.2 f)],[]⟩
noncomputable def Ecv : Senv:={ Ecn with gz:=fun r=>match r with
  |0=>[.slot 0]
  |_=>[] }
theorem Bfp(x n:Nat)(g:Nat->Int)(h:0<n/\n<=8):ACalls Try.prog 29 ((sCv x n fun i=>[.int .i64 (g i)]).args ()) ((sCv x n fun i=>[.int .i64 (g i)]).st ()) (SpecR (sCv x n fun i=>[.int .i64 (g i)]) ()):=by
 refine Bo (A:=sCv x n _) (x:=()) (E:=Ecv) (eOk BN rfl) Try.func29 rfl (by kernel_rfl) rfl (by simp[sCv,Ecv,Ecn,EC,E0]) ?_
 refine Bu (T :=
  SM x/\SM (8:Nat)/\Bc (n<=8) ((∀(i:Nat),i<n->(List.all [ZI (g i)] fun (x:D)=>match x with | D.unk=>false | D.agg cs=>false | D.tup ds=>false | x=>true)=true)/\∀(t:Nat) (r:Bool),(r=true->n=N0)->ifB r (True/\∃(y:Nat×Nat),n<=y.2/\D.sl N1 N0 (fun x=>[]) Mode.nil=D.vs N0 y.1 n y.2 N1/\False/\True) (Bc (N0<n/\n*8<=140737488355328/\n<=9223372036854775807) (∀(y cap':Nat),True->n<=cap'->True/\∃(y_1:Nat×Nat),n<=y_1.2/\(y=y_1.1/\SM n/\cap'=y_1.2)/\(y=y_1.1/\(SM n/\cap'=y_1.2/\∀(i:Nat),i<n->SM [ZI (g i)])/\True)/\True)))) (by kernel_rfl) ?_
 delta N0 N1 SM ZI
 refine⟨rfl,rfl,Be.2 ⟨h.2,fun _ _=>rfl,fun t r hr=>?_⟩⟩
 obtain ⟨h1,h2⟩:=h
 rw[Bl,Be]
 refine⟨fun e=>absurd (hr e) (by omega),fun _=>⟨⟨h1,by omega,by omega⟩,fun y c _ hc=>⟨trivial,(y,c),hc,⟨rfl,rfl,rfl⟩,⟨rfl,⟨rfl,rfl,fun _ _=>rfl⟩,trivial⟩,trivial⟩⟩⟩
theorem R9{q:Nat}(h:q<=1000000):IntKind.i64.wrap (q:Int)=q:=Bb (by omega) (by omega)
def ixV(s:List Int)(off j i:Nat):Nat:=if j<=i then (BK (shN s) off).getD i 0 else 0
def ixR(s:List Int)(off j:Nat):Nat->List D:=fun i=>[.int .i64 (ixV s off j i:Nat)]
def sIx(K:Nat)(s:List Int)(off:Nat):FnSpec where
 β:=Unit
 α:=Nat×Nat
 args:=fun _=>[isl s .any,.int .i64 (off:Nat)]
 st:=fun _=>⟨[],[]⟩
 pre:=fun _=>s≠[]/\Bi s=true/\off<prL (shN s)
 post:=fun _ y=>s.length<=y.2
 res:=fun _ y=>.ret (.tup [.vs K y.1 s.length y.2 1,.bool true])
 out:=fun _ y=>⟨[(K,y.1,.vec 1 s.length y.2 (dgR s off))],[]⟩
def BcU(s:List Int)(off:Nat):Con:=fun k ds S=>match k with
 |46=>some (pA ds S (.int .i64 (prL (shN s):Nat)) (wkL ds [isl s .any]/\Bi s=true))
 |29=>match ds with
  | [.vs _ x _ _ _]=>some (sCv x s.length (ixR s off 0))
  |_=>none
 |_=>none
noncomputable def Eix(s:List Int)(off:Nat):Senv:={ EC (BcU s off) 41 2 [4,5,6,7,15,20] (fun _=>([],[])) with
 ann:=fun b env _S=>match b with
  |0=>match Ab.look env 6 with
   |.ref k x _=>some { slots:=[7,1,6],keep:=[0],α:=Nat,st:=fun j=>([.int .i64 ((j:Int)-1),.int .i64 (off / prL ((shN s).drop j):Nat),.er k x 0 1 0],⟨[(k,x,.vec 1 8 8 (ixR s off j))],[]⟩),inv:=fun j=>j<=s.length,mu:=fun j=>j }
   |_=>none
  |_=>none }
theorem Bc5{s:List Int}{off:Nat}:ConOk Try.prog (BcU s off):=by
 intro k ds S A hh
 unfold BcU at hh
 split at hh
 ·injection hh with hh;subst hh
  refine BD fun ⟨e,hs⟩=>CD.at_ (CD.wk ?_ e) _
  have:=MO s hs
  rw[G8 hs] at this
  exact this
 ·split at hh
  ·injection hh with hh;subst hh
   refine ConOk.plain (fun _ hy=>?_) rfl rfl
   exact Bfp _ _ (fun i=>(ixV s off 0 i:Nat)) hy
  ·cases hh
 ·cases hh
def QR(a:Nat):Int:=(↑a:Int)-Z1
def X1(a b:Nat)(c:List Int):Int:=(NI (a / prL (List.drop b (shN c))))
def X2(a:List Int)(b:Nat):Int:=GI a (Int.toNat (QR b))
def QlC(a:List Int):D:=SI a
theorem BeY(s:List Int)(off:Nat)(h:s≠[]/\Bi s=true/\off<prL (shN s)):ACalls Try.prog 47 ((sIx 0 s off).args ()) ((sIx 0 s off).st ()) (SpecR (sIx 0 s off) ()):=by
 refine Bo (A:=sIx 0 s off) (x:=()) (E:=Eix s off) (eOk Bc5 rfl) Try.func47 rfl (by kernel_rfl) rfl (by simp[sIx,Eix,EC,E0]) ?_
 refine Bu (T :=
  ∃(x:Unit),(((SM (LN s)/\(∀(i:Nat),i<LN s->SM (GI s i)/\True)/\True)/\True)/\Bi s=true)/\∀(y:Unit),True->ifB (decide ((NI (prL (shN s)))<=(↑off:Int))) (True/\∃(y:Nat×Nat),LN s<=y.2/\(D.sl N1 N0 (fun x=>[]) Mode.nil=D.vs N0 y.1 (LN s) y.2 N1/\false=true/\True)/\False/\True) (∀(x:Nat),True->(∃(x_1:Nat),x_1<=LN s/\(IntKind.wrap IntKind.i64 ((LI s)-Z1)=QR x_1/\(↑off:Int)=X1 off x_1 s/\(SM x/\SM N0)/\True)/\(SM x/\(∀(i:Nat),i<8->Bf (List.getD [ZI Z0,ZI Z0,ZI Z0,ZI Z0,ZI Z0,ZI Z0,ZI Z0,ZI Z0] i D.unk) (ZI (NI (ixV s off x_1 i)))/\True)/\True)/\True)/\∀(x_1:Nat),x_1<=LN s->ifB (decide (Z0<=QR x_1)) (Bc (Z0<=QR x_1/\QR x_1<(LI s)) (Bc (X2 s x_1≠Z0) (Bc (Z0<=QR x_1/\QR x_1<8) (SM x/\Bc (N0+Int.toNat (QR x_1)<8) (Bc (Z0<=QR x_1/\QR x_1<(LI s)) (Bc (X2 s x_1≠Z0) ((SM (QlC s)/\True)/\∃(y:Nat),y<=LN s/\y<x_1/\(IntKind.wrap IntKind.i64 (QR x_1-Z1)=QR y/\IntKind.wrap IntKind.i64 (Int.tdiv (X1 off x_1 s) (X2 s x_1))=X1 off y s/\(SM x/\SM N0)/\True)/\(SM x/\(SM (8:Nat)/\SM (8:Nat)/\∀(i:Nat),i<8->BA (ixR s off x_1) (N0+Int.toNat (QR x_1)) [ZI (Int.tmod (X1 off x_1 s) (X2 s x_1))] i=ixR s off y i)/\True)/\True))))))) (Bc (Z0<=(LI s)/\(LI s)<=8/\N0<8/\(8:Nat)<=9223372036854775807) (∃(x_2:Unit),((SM x/\TL s=LN s/\SM (8:Nat))/\True)/\((SM x/\(SM (8:Nat)/\SM (8:Nat)/\∀(i:Nat),i<8->ixR s off x_1 i=ixR s off N0 i)/\True)/\True)/\(N0<LN s/\LN s<=8)/\∀(y:Nat×Nat),LN s<=y.2->True/\∃(y_1:Nat×Nat),LN s<=y_1.2/\((y.1=y_1.1/\SM (LN s)/\y.2=y_1.2)/\SM true/\True)/\(y.1=y_1.1/\(SM (LN s)/\y.2=y_1.2/\∀(i:Nat),i<LN s->ixR s off N0 i=dgR s off i)/\True)/\True)))) (by kernel_rfl) ?_
 delta GI LI LN N0 N1 NI SI SM TL Z0 Z1 ZI QR X1 X2 QlC
 simp only[eq_self,ne_eq,implies_true,Int.toNat_natCast,Bl,Be,decide_eq_true_eq,decide_eq_false_iff_not,true_and,and_true,exists_const,forall_const,Prod.exists]
 simp only[Nat.zero_add]
 obtain ⟨h0,hs,ho⟩:=h
 have hl:0<s.length:=List.length_pos_iff.2 h0
 have h8:=((Bk s).1 hs).1
 have h2:=((Bk s).1 hs).2.1
 have hP:=Ea hs
 have hp0:0<prL (shN s):=by omega
 have hsl:(shN s).length=s.length:=BV s
 refine⟨hs,fun q=>absurd q (by omega),fun _=>⟨⟨s.length,Nat.le_refl _,⟨Bb (by omega) (by omega),?_⟩,fun i hi=>?_⟩,fun j hj=>⟨fun hj0=>?_,fun hj0=>?_⟩⟩⟩
 ·rw[List.drop_of_length_le (by omega)];simp[prL]
 ·have:ixV s off s.length i=0:=by
   unfold ixV
   split
   ·exact Bav off (by omega)
   ·rfl
  rw[this]
  rcases i with _ | _ | _ | _ | _ | _ | _ | _ | i<;>first | exact Bd _ | omega
 ·obtain ⟨j,rfl⟩:∃i,j=i+1:=⟨j-1,by omega⟩
  have ej:(((j+1:Nat):Int)-1)=j:=by omega
  simp only[ej,Int.toNat_natCast,<- C6 h2 j]
  have hlt:=G6 off hp0 (show j<(shN s).length by omega)
  have hdv:off / prL ((shN s).drop (j+1)) / (shN s).getD j 0=off / prL ((shN s).drop j):=by
   rw[Nat.div_div_eq_div_mul,EF (show j<(shN s).length by omega),Nat.mul_comm]
  have hmd:off / prL ((shN s).drop (j+1)) % (shN s).getD j 0=(BK (shN s) off).getD j 0:=(E6 _ _ _ (by omega)).symm
  have hle:off / prL ((shN s).drop j)<=off:=Nat.div_le_self _ _
  refine⟨⟨by omega,by omega⟩,by omega,⟨by omega,by omega⟩,by omega,⟨by omega,by omega⟩,by omega,j,by omega,by omega,⟨Bb (by omega) (by omega),?_⟩,fun i _=>?_⟩
  ·rw[<- Int.ofNat_tdiv,hdv,R9 (by omega)]
  ·rw[<- Int.ofNat_tmod,hmd]
   unfold BA ixR ixV
   by_cases e:i=j
   ·subst e;rw[if_pos rfl,if_pos (Nat.le_refl _)]
   ·rw[if_neg e]
    by_cases e2:j+1<=i
    ·rw[if_pos e2,if_pos (by omega)]
    ·rw[if_neg e2,if_neg (by omega)]
 ·obtain rfl:j=0:=by omega
  have hd:∀i,ixR s off 0 i=dgR s off i:=fun i=>by
   unfold ixR ixV dgR
   rw[if_pos (Nat.zero_le _)]
  exact⟨⟨by omega,by omega,by omega,by omega⟩,fun _ _=>rfl,⟨hl,h8⟩,fun y hy=>⟨y.1,y.2,hy,⟨rfl,rfl⟩,rfl,rfl,fun i _=>hd i⟩⟩
theorem Bfi(K:Nat)(s:List Int)(off:Nat)(h:s≠[]/\Bi s=true/\off<prL (shN s)):ACalls Try.prog 47 ((sIx K s off).args ()) ((sIx K s off).st ()) (SpecR (sIx K s off) ()) :=
 (BeY s off h).respec (by simp[sIx,Bh]) (by simp[sIx,UX,WG,TV]) fun y hy=>⟨y,hy,by simp[sIx,IN,Bf,Br,Ba],by simp[sIx,UX,WG,TV,B4,Ba]⟩
def Eo(l:List Nat):List Int:=l.map fun (n:Nat)=>(n:Int)
theorem IC(l:List Nat)(j:Nat):(Eo l).getD j 0=((l.getD j 0:Nat):Int):=by
 simp only[Eo,List.getD_eq_getElem?_getD,List.getElem?_map]
 cases l[j]? <;>simp
theorem IT(l:List Nat):(Eo l).length=l.length:=by simp[Eo]
def Bbz(s:List Int):Con:=fun k ds S=>match k with
 |38=>some (pA ds S (.bool true) (wkL ds [isl s .any]/\Bi s=true))
 |_=>none
theorem Bcy{s:List Int}:ConOk Try.prog (Bbz s):=by
 intro k ds S A hh
 unfold Bbz at hh
 split at hh
 ·injection hh with hh;subst hh
  refine BD fun ⟨e,hs⟩=>CD.at_ (CD.wk ?_ e) _
  have:=Gb s
  rw[hs] at this
  exact this
 ·cases hh
noncomputable def Eof(s:List Int)(l:List Nat):Senv:={ EC (Bbz s) 46 2 [4,5,6,7,8,18,19,20,21,22,35] (fun _=>([],[])) with
 mg:=fun id=>match id with
  |7=>2
  |_=>0
 cut:=fun id _env S=>match id with
  |7=>some { slots:=[35],keep:=[],α:=Unit,st:=fun _=>([.bool false],S),inv:=fun _=>True,mu:=fun _=>0 }
  |_=>none
 ann:=fun b _env S=>match b with
  |0=>some { slots:=[21,6],keep:=[0,1,19,20],α:=Nat,st:=fun j=>([.int .i64 (j:Nat),.int .i64 (hp (shN s) (fun i=>l.getD i 0) j:Nat)],S),inv:=fun j=>j<=s.length,mu:=fun j=>s.length-j }
  |_=>none }
def X3(a:List Nat):Int:=(LI (Eo a))
def Qeq(a:List Int)(b:List Nat):Int:=(NI (hp (shN a) (fun i=>List.getD b i N0) (LN a)))
def X4(a:List Int)(b:List Nat)(c:Nat):Int:=(NI (hp (shN a) (fun i=>List.getD b i N0) c))
def HF(a:List Nat)(b:Nat):Int:=GI (Eo a) (Int.toNat (↑b:Int))
def QlD(a:List Int):D:=SI a
def QlE(a:List Nat):D:=SI (Eo a)
def Qer(a:List Nat):Prop:=SM (QlE a)
theorem Bfy(s : List Int)(l : List Nat)(hs : Bi s=true)(hl : l.length=s.length)(hp0 : 0<prL (shN s))(hd : ∀j, j<s.length -> l.getD j 0<(shN s).getD j 0) :
  CD 48 [isl s .any,isl (Eo l) .any] (.tup [.int .i64 (hp (shN s) (fun i=>l.getD i 0) s.length:Nat),.bool true]):=by
 refine Bo (A:=sC _ _) (x:=()) (E:=Eof s l) (eOk Bcy rfl) Try.func48 rfl (by kernel_rfl) rfl (by simp[sC,Eof,EC,E0]) ?_
 refine Bu (T :=
  ∃(x:Unit),(((SM (LN s)/\(∀(i:Nat),i<LN s->SM (GI s i)/\True)/\True)/\True)/\Bi s=true)/\∀(y:Unit),True->ifB (X3 l != (LI s)) (True/\∃(y:Unit),True/\(Z0=Qeq s l/\false=true/\True)/\True/\True) ((∃(x:Nat),x<=LN s/\(Z0=(↑x:Int)/\Z0=X4 s l x/\True)/\True/\True)/\∀(x:Nat),x<=LN s->ifB (decide ((↑x:Int)<X3 l)) (Bc (Z0<=(↑x:Int)/\(↑x:Int)<X3 l) (ifB (decide (HF l x<Z0)) (∃(x:Unit),True/\(true=false/\True)/\True/\True) (Bc (Z0<=(↑x:Int)/\(↑x:Int)<(LI s)) (∃(x_1:Unit),True/\(decide (GI s (Int.toNat (↑x:Int))<=HF l x)=false/\True)/\True/\True))/\∀(x_1:Unit),True->Bc (Z0<=(↑x:Int)/\(↑x:Int)<(LI s)) ((SM (QlD s)/\Qer l/\Qer l/\SM (ZI (X3 l))/\True)/\∃(y:Nat),y<=LN s/\LN s-y<LN s-x/\(IntKind.wrap IntKind.i64 ((↑x:Int)+Z1)=(↑y:Int)/\IntKind.wrap IntKind.i64 (IntKind.wrap IntKind.i64 (X4 s l x*GI s (Int.toNat (↑x:Int)))+HF l x)=X4 s l y/\True)/\True/\True))) (True/\∃(y:Unit),True/\(X4 s l x=Qeq s l/\SM true/\True)/\True/\True))) (by kernel_rfl) ?_
 delta GI LI LN N0 N1 NI SI SM Z0 Z1 ZI X3 Qeq X4 HF QlD QlE Qer
 simp only[eq_self,ne_eq,implies_true,Int.toNat_natCast,Bl,Be,decide_eq_true_eq,decide_eq_false_iff_not,true_and,and_true,bne_iff_ne,bne_eq_false_iff_eq,exists_const,forall_const]
 have h8:=((Bk s).1 hs).1
 have h2:=((Bk s).1 hs).2.1
 have hP:=Ea hs
 have hsl:(shN s).length=s.length:=BV s
 have hb:∀j,j<=s.length->hp (shN s) (fun i=>l.getD i 0) j<prL (shN s):=fun j hj=>Bcn (fun i hi=>hd i (by omega)) hp0 j (by omega)
 simp only[IT,hl]
 refine⟨hs,fun q=>absurd trivial q,fun _=>⟨⟨0,Nat.zero_le _,rfl,rfl⟩,fun j hj=>⟨fun hlt=>?_,fun hge=>?_⟩⟩⟩
 ·have hlt:j<s.length:=by omega
  have hdj:=hd j hlt
  have hbj:=hb (j+1) hlt
  have e1:((hp (shN s) (fun i=>l.getD i 0) (j+1):Nat):Int)=(hp (shN s) (fun i=>l.getD i 0) j:Int)*s.getD j 0+(l.getD j 0:Nat):=by
   rw[<- C6 h2 j,hp];push_cast;rfl
  have e2:(hp (shN s) (fun i=>l.getD i 0) j:Int)*s.getD j 0=((hp (shN s) (fun i=>l.getD i 0) j*(shN s).getD j 0:Nat):Int):=by
   rw[<- C6 h2 j];push_cast;rfl
  have e3:hp (shN s) (fun i=>l.getD i 0) j*(shN s).getD j 0<=hp (shN s) (fun i=>l.getD i 0) (j+1):=by rw[hp];omega
  simp only[IC]
  refine⟨⟨by omega,by omega⟩,⟨fun q=>absurd q (by omega),fun _=>⟨⟨by omega,by omega⟩,by rw[<- C6 h2 j];omega⟩⟩,⟨by omega,by omega⟩,j+1,by omega,by omega,Bb (by omega) (by omega),?_⟩
  rw[e1,e2,R9 (by omega),Bb (by omega) (by omega)]
 ·obtain rfl:j=s.length:=by omega
  rfl
theorem Mv{s:List Int}(h:Bi s=true):(∀z∈s,EV z)/\s.length<=maxLen:=by
 obtain ⟨h1,h2,_⟩:=(Bk s).1 h
 refine⟨fun z hz=>?_,Nat.le_trans h1 (by decide)⟩
 have:=h2 z hz
 unfold EV;omega
section
variable {k d:Int} {r nu:List Int} {it:List Arr} (h:(Bj (.mk k (d::r) nu it)).1=0) (e c:Nat) (hec:(e:Int)+c<=d)
include h hec
end
def sCi(k:Nat)(l:List Int):FnSpec where
 β:=Unit
 α:=Nat×Nat
 args:=fun _=>[isl l .any]
 st:=fun _=>⟨[],[]⟩
 pre:=fun _=>l≠[]/\l.length<=1000000
 post:=fun _ y=>l.length<=y.2
 res:=fun _ y=>.ret (.vs k y.1 l.length y.2 1)
 out:=fun _ y=>⟨[(k,y.1,.vec 1 l.length y.2 (fun i=>[.int .i64 (l.getD i 0)]))],[]⟩
theorem UV(k:Nat)(l:List Int)(h:l≠[]/\l.length<=1000000):ACalls Try.prog 29 ((sCi k l).args ()) ((sCi k l).st ()) (SpecR (sCi k l) ()) :=
 Bdz k (BeU l h)
theorem Ge{s:List Int}(hs:s≠[])(v:Int)(i:Nat):BA (fun i=>[.int .i64 (s.getD i 0)]) 0 [.int .i64 v] i=[.int .i64 ((v::s.tail).getD i 0)]:=by
 cases s with
 |nil=>exact (hs rfl).elim
 |cons d r =>
  rcases i with _ | i
  ·rfl
  ·simp[BA]
end
end Go.Proofs.Ytgkifngdbpjccaa
