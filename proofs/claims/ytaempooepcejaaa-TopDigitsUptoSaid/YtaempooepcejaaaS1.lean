/- Functions of the given program and what each of them computes: lemmas towards the statement, their conditions stated with each of them. -/
import Derived.Test.YtaempooepcejaaaAb2
import Derived.Test.YtaempooepcejaaaProg
import Derived.KernelRfl
import Derived.Test.YtaempooepcejaaaRows
import Derived.Deep.DeepHandedRow
import Derived.Shelf.Lay
import Derived.Shelf.LaySoft
import Derived.Shelf.Lays8
import Derived.Shelf.Spec.SlicesGrow
namespace Go.Proofs.Ytaempooepcejaaa
open Go Go.Ab
noncomputable section
noncomputable def tab:List (Nat×TI):=[
 (0,⟨TypeDesc.tuple #[],1,0,[.unk]⟩),
 (1,⟨TypeDesc.func #[] #[] false,1,8,[.nilf]⟩),
 (2,⟨TypeDesc.int .i64,1,8,[.int .i64 0]⟩),
 (3,⟨TypeDesc.int .i64,1,8,[.int .i64 0]⟩),
 (4,⟨TypeDesc.bool,1,1,[.bool false]⟩),
 (5,⟨TypeDesc.int .u8,1,1,[.int .u8 0]⟩),
 (9,⟨TypeDesc.string,1,16,[.str []]⟩),
 (20,⟨TypeDesc.interface #[],1,16,[.nili]⟩),
 (21,⟨TypeDesc.int .i32,1,4,[.int .i32 0]⟩),
 (22,⟨TypeDesc.int .i64,1,8,[.int .i64 0]⟩),
 (23,⟨TypeDesc.slice 3,1,24,[.sl 1 0 (fun _=>[]) .nil]⟩),
 (24,⟨TypeDesc.slice 26,1,24,[.sl 1 0 (fun _=>[]) .nil]⟩),
 (25,⟨Try.t25.desc,4,80,[.int .i64 0,.sl 1 0 (fun _=>[]) .nil,.sl 1 0 (fun _=>[]) .nil,.sl 1 0 (fun _=>[]) .nil]⟩),
 (26,⟨Try.t25.desc,4,80,[.int .i64 0,.sl 1 0 (fun _=>[]) .nil,.sl 1 0 (fun _=>[]) .nil,.sl 1 0 (fun _=>[]) .nil]⟩),
 (27,⟨TypeDesc.func #[26,3] #[4] false,1,8,[.nilf]⟩),
 (28,⟨TypeDesc.func #[] #[4] false,1,8,[.nilf]⟩),
 (29,⟨TypeDesc.int .i64,1,8,[.int .i64 0]⟩),
 (30,⟨TypeDesc.tuple #[26,29],1,0,[.unk]⟩),
 (31,⟨TypeDesc.func #[26] #[26,29] false,1,8,[.nilf]⟩),
 (32,⟨TypeDesc.func #[26,26] #[26,29] false,1,8,[.nilf]⟩),
 (33,⟨TypeDesc.func #[3] #[26] false,1,8,[.nilf]⟩),
 (34,⟨TypeDesc.func #[26] #[3] false,1,8,[.nilf]⟩),
 (35,⟨TypeDesc.func #[26,26] #[4] false,1,8,[.nilf]⟩),
 (36,⟨TypeDesc.func #[26] #[4] false,1,8,[.nilf]⟩),
 (37,⟨TypeDesc.func #[23] #[26] true,1,8,[.nilf]⟩),
 (38,⟨TypeDesc.func #[26] #[29] false,1,8,[.nilf]⟩),
 (39,⟨TypeDesc.slice 45,1,24,[.sl 1 0 (fun _=>[]) .nil]⟩),
 (40,⟨TypeDesc.tuple #[39,29],1,0,[.unk]⟩),
 (41,⟨TypeDesc.func #[26] #[39,29] false,1,8,[.nilf]⟩),
 (42,⟨TypeDesc.func #[39] #[26] false,1,8,[.nilf]⟩),
 (43,⟨TypeDesc.func #[39,47] #[39] false,1,8,[.nilf]⟩),
 (44,⟨Try.t44.desc,5,88,[.int .i64 0,.int .i64 0,.sl 1 0 (fun _=>[]) .nil,.sl 1 0 (fun _=>[]) .nil,.sl 1 0 (fun _=>[]) .nil]⟩),
 (45,⟨Try.t44.desc,5,88,[.int .i64 0,.int .i64 0,.sl 1 0 (fun _=>[]) .nil,.sl 1 0 (fun _=>[]) .nil,.sl 1 0 (fun _=>[]) .nil]⟩),
 (46,⟨TypeDesc.func #[26,26] #[3] false,1,8,[.nilf]⟩),
 (47,⟨TypeDesc.func #[45,45] #[3] false,1,8,[.nilf]⟩),
 (48,⟨TypeDesc.func #[23] #[23] false,1,8,[.nilf]⟩),
 (49,⟨TypeDesc.tuple #[3,23],1,0,[.unk]⟩),
 (50,⟨TypeDesc.func #[26] #[3,23] false,1,8,[.nilf]⟩),
 (51,⟨TypeDesc.func #[62] #[23] true,1,8,[.nilf]⟩),
 (52,⟨TypeDesc.func #[24] #[4] true,1,8,[.nilf]⟩),
 (53,⟨TypeDesc.func #[23] #[4] false,1,8,[.nilf]⟩),
 (54,⟨TypeDesc.func #[23,3] #[4] false,1,8,[.nilf]⟩),
 (55,⟨TypeDesc.func #[23] #[3] false,1,8,[.nilf]⟩),
 (56,⟨TypeDesc.func #[26,23,23] #[26,29] false,1,8,[.nilf]⟩),
 (57,⟨TypeDesc.func #[23,58] #[4] false,1,8,[.nilf]⟩),
 (58,⟨TypeDesc.func #[3] #[4] false,1,8,[.nilf]⟩),
 (59,⟨TypeDesc.func #[23,23] #[4] false,1,8,[.nilf]⟩),
 (60,⟨TypeDesc.func #[24,24,35] #[4] false,1,8,[.nilf]⟩),
 (61,⟨TypeDesc.func #[26,26] #[29] false,1,8,[.nilf]⟩),
 (62,⟨TypeDesc.slice 23,1,24,[.sl 1 0 (fun _=>[]) .nil]⟩),
 (63,⟨TypeDesc.func #[23,3] #[23] false,1,8,[.nilf]⟩),
 (64,⟨TypeDesc.tuple #[3,29],1,0,[.unk]⟩),
 (65,⟨TypeDesc.func #[23,23,3,3,3] #[3,29] false,1,8,[.nilf]⟩),
 (66,⟨TypeDesc.tuple #[29,3],1,0,[.unk]⟩),
 (67,⟨TypeDesc.func #[26] #[29,3] false,1,8,[.nilf]⟩),
 (68,⟨TypeDesc.func #[26,3] #[24] false,1,8,[.nilf]⟩),
 (69,⟨TypeDesc.func #[24,36] #[4] false,1,8,[.nilf]⟩),
 (70,⟨TypeDesc.func #[26] #[26] false,1,8,[.nilf]⟩),
 (71,⟨TypeDesc.func #[23,58] #[3] false,1,8,[.nilf]⟩),
 (72,⟨TypeDesc.func #[3,3] #[3,29] false,1,8,[.nilf]⟩),
 (73,⟨TypeDesc.func #[23] #[29] false,1,8,[.nilf]⟩),
 (74,⟨TypeDesc.func #[26] #[29,3,3] false,1,8,[.nilf]⟩),
 (75,⟨TypeDesc.tuple #[29,3,3],1,0,[.unk]⟩),
 (76,⟨TypeDesc.func #[3,3] #[3] false,1,8,[.nilf]⟩),
 (77,⟨TypeDesc.func #[26,3,3,23] #[26] false,1,8,[.nilf]⟩),
 (78,⟨TypeDesc.func #[23] #[3] true,1,8,[.nilf]⟩),
 (79,⟨TypeDesc.func #[22,22] #[3] false,1,8,[.nilf]⟩),
 (80,⟨TypeDesc.func #[23,23] #[3] false,1,8,[.nilf]⟩),
 (81,⟨TypeDesc.func #[24,36] #[3] false,1,8,[.nilf]⟩),
 (82,⟨TypeDesc.tuple #[3,3,29],1,0,[.unk]⟩),
 (83,⟨TypeDesc.func #[3,3] #[3,3,29] false,1,8,[.nilf]⟩),
 (84,⟨TypeDesc.func #[3,3] #[29] false,1,8,[.nilf]⟩),
 (85,⟨TypeDesc.func #[3] #[3,29] false,1,8,[.nilf]⟩),
 (86,⟨TypeDesc.func #[22] #[4] false,1,8,[.nilf]⟩),
 (87,⟨TypeDesc.func #[3,3,3] #[3] false,1,8,[.nilf]⟩),
 (88,⟨TypeDesc.func #[23,3] #[3] false,1,8,[.nilf]⟩),
 (89,⟨TypeDesc.func #[3] #[3] false,1,8,[.nilf]⟩),
 (90,⟨TypeDesc.func #[] #[9] false,1,8,[.nilf]⟩),
 (96,⟨TypeDesc.func #[] #[3] false,1,8,[.nilf]⟩),
 (97,⟨TypeDesc.int .u32,1,4,[.int .u32 0]⟩),
 (100,⟨TypeDesc.func #[106,106] #[4] false,1,8,[.nilf]⟩),
 (101,⟨TypeDesc.pointer 5,1,8,[.nilp]⟩),
 (106,⟨TypeDesc.unsafePointer,1,8,[.nilp]⟩)]
theorem tc{P:Program}{l:List (Nat×TI)}{t:Nat}{d:TypeDesc}{a b:Nat}{z:List D}(h1:P.underlying t=some d)(h:TabOk P (EQ l))(h2:(P.info? t).map (fun i=>(i.size,i.bytes,i.zero.map fun z=>(z.cells.size,z.cells.toList.map GZ)))=some (a,b,some (a,z)):=by kernel_rfl):TabOk P (EQ ((t,⟨d,a,b,z⟩)::l)):=TabOk.cons (ti:=⟨d,a,b,z⟩) h1 h2 h
theorem Bbz:TabOk Try.prog (EQ tab) :=
 TabOk.cons (ti:=⟨_,_,_,_⟩) Try.underlying0 (by kernel_rfl) <|
 TabOk.cons (ti:=⟨_,_,_,_⟩) Try.underlying1 (by kernel_rfl) <|
 TabOk.cons (ti:=⟨_,_,_,_⟩) Try.underlying2 (by kernel_rfl) <|
 TabOk.cons (ti:=⟨_,_,_,_⟩) Try.underlying3 (by kernel_rfl) <|
 TabOk.cons (ti:=⟨_,_,_,_⟩) Try.underlying4 (by kernel_rfl) <|
 TabOk.cons (ti:=⟨_,_,_,_⟩) Try.underlying5 (by kernel_rfl) <|
 TabOk.cons (ti:=⟨_,_,_,_⟩) Try.underlying9 (by kernel_rfl) <|
 TabOk.cons (ti:=⟨_,_,_,_⟩) Try.underlying20 (by kernel_rfl) <|
 TabOk.cons (ti:=⟨_,_,_,_⟩) Try.underlying21 (by kernel_rfl) <|
 TabOk.cons (ti:=⟨_,_,_,_⟩) Try.underlying22 (by kernel_rfl) <|
 TabOk.cons (ti:=⟨_,_,_,_⟩) Try.underlying23 (by kernel_rfl) <|
 TabOk.cons (ti:=⟨_,_,_,_⟩) Try.underlying24 (by kernel_rfl) <|
 TabOk.cons (ti:=⟨_,_,_,_⟩) Try.underlying25 (by kernel_rfl) <|
 TabOk.cons (ti:=⟨_,_,_,_⟩) Try.underlying26 (by kernel_rfl) <|
 TabOk.cons (ti:=⟨_,_,_,_⟩) Try.underlying27 (by kernel_rfl) <|
 TabOk.cons (ti:=⟨_,_,_,_⟩) Try.underlying28 (by kernel_rfl) <|
 TabOk.cons (ti:=⟨_,_,_,_⟩) Try.underlying29 (by kernel_rfl) <|
 TabOk.cons (ti:=⟨_,_,_,_⟩) Try.underlying30 (by kernel_rfl) <|
 TabOk.cons (ti:=⟨_,_,_,_⟩) Try.underlying31 (by kernel_rfl) <|
 TabOk.cons (ti:=⟨_,_,_,_⟩) Try.underlying32 (by kernel_rfl) <|
 TabOk.cons (ti:=⟨_,_,_,_⟩) Try.underlying33 (by kernel_rfl) <|
 TabOk.cons (ti:=⟨_,_,_,_⟩) Try.underlying34 (by kernel_rfl) <|
 TabOk.cons (ti:=⟨_,_,_,_⟩) Try.underlying35 (by kernel_rfl) <|
 TabOk.cons (ti:=⟨_,_,_,_⟩) Try.underlying36 (by kernel_rfl) <|
 TabOk.cons (ti:=⟨_,_,_,_⟩) Try.underlying37 (by kernel_rfl) <|
 TabOk.cons (ti:=⟨_,_,_,_⟩) Try.underlying38 (by kernel_rfl) <|
 TabOk.cons (ti:=⟨_,_,_,_⟩) Try.underlying39 (by kernel_rfl) <|
 TabOk.cons (ti:=⟨_,_,_,_⟩) Try.underlying40 (by kernel_rfl) <|
 TabOk.cons (ti:=⟨_,_,_,_⟩) Try.underlying41 (by kernel_rfl) <|
 TabOk.cons (ti:=⟨_,_,_,_⟩) Try.underlying42 (by kernel_rfl) <|
 TabOk.cons (ti:=⟨_,_,_,_⟩) Try.underlying43 (by kernel_rfl) <|
 TabOk.cons (ti:=⟨_,_,_,_⟩) Try.underlying44 (by kernel_rfl) <|
 TabOk.cons (ti:=⟨_,_,_,_⟩) Try.underlying45 (by kernel_rfl) <|
 TabOk.cons (ti:=⟨_,_,_,_⟩) Try.underlying46 (by kernel_rfl) <|
 TabOk.cons (ti:=⟨_,_,_,_⟩) Try.underlying47 (by kernel_rfl) <|
 TabOk.cons (ti:=⟨_,_,_,_⟩) Try.underlying48 (by kernel_rfl) <|
 TabOk.cons (ti:=⟨_,_,_,_⟩) Try.underlying49 (by kernel_rfl) <|
 TabOk.cons (ti:=⟨_,_,_,_⟩) Try.underlying50 (by kernel_rfl) <|
 TabOk.cons (ti:=⟨_,_,_,_⟩) Try.underlying51 (by kernel_rfl) <|
 TabOk.cons (ti:=⟨_,_,_,_⟩) Try.underlying52 (by kernel_rfl) <|
 TabOk.cons (ti:=⟨_,_,_,_⟩) Try.underlying53 (by kernel_rfl) <|
 TabOk.cons (ti:=⟨_,_,_,_⟩) Try.underlying54 (by kernel_rfl) <|
 TabOk.cons (ti:=⟨_,_,_,_⟩) Try.underlying55 (by kernel_rfl) <|
 TabOk.cons (ti:=⟨_,_,_,_⟩) Try.underlying56 (by kernel_rfl) <|
 TabOk.cons (ti:=⟨_,_,_,_⟩) Try.underlying57 (by kernel_rfl) <|
 TabOk.cons (ti:=⟨_,_,_,_⟩) Try.underlying58 (by kernel_rfl) <|
 TabOk.cons (ti:=⟨_,_,_,_⟩) Try.underlying59 (by kernel_rfl) <|
 TabOk.cons (ti:=⟨_,_,_,_⟩) Try.underlying60 (by kernel_rfl) <|
 TabOk.cons (ti:=⟨_,_,_,_⟩) Try.underlying61 (by kernel_rfl) <|
 TabOk.cons (ti:=⟨_,_,_,_⟩) Try.underlying62 (by kernel_rfl) <|
 TabOk.cons (ti:=⟨_,_,_,_⟩) Try.underlying63 (by kernel_rfl) <|
 TabOk.cons (ti:=⟨_,_,_,_⟩) Try.underlying64 (by kernel_rfl) <|
 TabOk.cons (ti:=⟨_,_,_,_⟩) Try.underlying65 (by kernel_rfl) <|
 TabOk.cons (ti:=⟨_,_,_,_⟩) Try.underlying66 (by kernel_rfl) <|
 TabOk.cons (ti:=⟨_,_,_,_⟩) Try.underlying67 (by kernel_rfl) <|
 TabOk.cons (ti:=⟨_,_,_,_⟩) Try.underlying68 (by kernel_rfl) <|
 TabOk.cons (ti:=⟨_,_,_,_⟩) Try.underlying69 (by kernel_rfl) <|
 TabOk.cons (ti:=⟨_,_,_,_⟩) Try.underlying70 (by kernel_rfl) <|
 TabOk.cons (ti:=⟨_,_,_,_⟩) Try.underlying71 (by kernel_rfl) <|
 TabOk.cons (ti:=⟨_,_,_,_⟩) Try.underlying72 (by kernel_rfl) <|
 TabOk.cons (ti:=⟨_,_,_,_⟩) Try.underlying73 (by kernel_rfl) <|
 TabOk.cons (ti:=⟨_,_,_,_⟩) Try.underlying74 (by kernel_rfl) <|
 TabOk.cons (ti:=⟨_,_,_,_⟩) Try.underlying75 (by kernel_rfl) <|
 TabOk.cons (ti:=⟨_,_,_,_⟩) Try.underlying76 (by kernel_rfl) <|
 TabOk.cons (ti:=⟨_,_,_,_⟩) Try.underlying77 (by kernel_rfl) <|
 TabOk.cons (ti:=⟨_,_,_,_⟩) Try.underlying78 (by kernel_rfl) <|
 TabOk.cons (ti:=⟨_,_,_,_⟩) Try.underlying79 (by kernel_rfl) <|
 TabOk.cons (ti:=⟨_,_,_,_⟩) Try.underlying80 (by kernel_rfl) <|
 TabOk.cons (ti:=⟨_,_,_,_⟩) Try.underlying81 (by kernel_rfl) <|
 TabOk.cons (ti:=⟨_,_,_,_⟩) Try.underlying82 (by kernel_rfl) <|
 TabOk.cons (ti:=⟨_,_,_,_⟩) Try.underlying83 (by kernel_rfl) <|
 TabOk.cons (ti:=⟨_,_,_,_⟩) Try.underlying84 (by kernel_rfl) <|
 TabOk.cons (ti:=⟨_,_,_,_⟩) Try.underlying85 (by kernel_rfl) <|
 TabOk.cons (ti:=⟨_,_,_,_⟩) Try.underlying86 (by kernel_rfl) <|
 TabOk.cons (ti:=⟨_,_,_,_⟩) Try.underlying87 (by kernel_rfl) <|
 TabOk.cons (ti:=⟨_,_,_,_⟩) Try.underlying88 (by kernel_rfl) <|
 TabOk.cons (ti:=⟨_,_,_,_⟩) Try.underlying89 (by kernel_rfl) <|
 TabOk.cons (ti:=⟨_,_,_,_⟩) Try.underlying90 (by kernel_rfl) <|
 TabOk.cons (ti:=⟨_,_,_,_⟩) Try.underlying96 (by kernel_rfl) <|
 TabOk.cons (ti:=⟨_,_,_,_⟩) Try.underlying97 (by kernel_rfl) <|
 TabOk.cons (ti:=⟨_,_,_,_⟩) Try.underlying100 (by kernel_rfl) <|
 TabOk.cons (ti:=⟨_,_,_,_⟩) Try.underlying101 (by kernel_rfl) <|
 TabOk.cons (ti:=⟨_,_,_,_⟩) Try.underlying106 (by kernel_rfl) <|
 TabOk.nil _
noncomputable def Bcq:List (Nat×Frm):=[
 (3,{ fn:=Try.f3,n:=74,V:=13,cross:=[21],ord:=fun _=>([],[]) }),
 (4,{ fn:=Try.f4,n:=69,V:=8,cross:=[27,33,41],ord:=fun id=>match id with | 8=>([2,0,1,3,4,5,6,7,8,9],[0,1,3,7,8]) | 9=>([2,0,1,3,4,5,6,7,8,9],[0,1,3,7,8]) | _=>([],[]) }),
 (5,{ fn:=Try.f5,n:=14,V:=3,cross:=[4],ord:=fun _=>([],[]) }),
 (6,{ fn:=Try.f6,n:=34,V:=5,cross:=[],ord:=fun id=>match id with | 2=>([0,1,2,3,4,5,6,7,8,9],[1,2,3,7,8]) | 3=>([0,1,2,3,4,5,6,7,8,9,10,11,12,13,14,15,16],[6,7,8,12,13,14]) | _=>([],[]) }),
 (7,{ fn:=Try.f7,n:=18,V:=6,cross:=[12],ord:=fun _=>([],[]) }),
 (8,{ fn:=Try.f8,n:=47,V:=7,cross:=[8,15,25,26,27,28],ord:=fun id=>match id with | 4=>([0,1,2,3,4,5,6,7],[4,6,7]) | _=>([],[]) }),
 (9,{ fn:=Try.f9,n:=77,V:=11,cross:=[12,13,24,31,36,41,51,52,53,54,57,58,59],ord:=fun _=>([],[]) }),
 (10,{ fn:=Try.f10,n:=51,V:=7,cross:=[11,16,22,27,39,40,41],ord:=fun _=>([],[]) }),
 (11,{ fn:=Try.f11,n:=6,V:=1,cross:=[2],ord:=fun _=>([],[]) }),
 (12,{ fn:=Try.f12,n:=11,V:=3,cross:=[6],ord:=fun _=>([],[]) }),
 (13,{ fn:=Try.f13,n:=31,V:=5,cross:=[],ord:=fun _=>([],[]) }),
 (14,{ fn:=Try.f14,n:=33,V:=3,cross:=[4,5,10,29],ord:=fun _=>([],[]) }),
 (15,{ fn:=Try.f15,n:=80,V:=9,cross:=[10,11,13,18,23,35,42,43,44,45,58,59,60,62,63,64,65],ord:=fun id=>match id with | 21=>([0,1,2,3,4,5,6,7,8,9],[6,7,9]) | _=>([],[]) }),
 (16,{ fn:=Try.f16,n:=8,V:=1,cross:=[2],ord:=fun _=>([],[]) }),
 (17,{ fn:=Try.f17,n:=82,V:=13,cross:=[17,24,44,53,54,55,71],ord:=fun id=>match id with | 7=>([0,1,2,3,4,5,6,7,8,9,10,11,12,13,14,15,16,17,18],[]) | 14=>([0,1,2,3,4,5,6,7,8,9,10,11,12,13,14],[9]) | _=>([],[]) }),
 (18,{ fn:=Try.f18,n:=33,V:=5,cross:=[20],ord:=fun _=>([],[]) }),
 (19,{ fn:=Try.f19,n:=11,V:=5,cross:=[],ord:=fun _=>([],[]) }),
 (20,{ fn:=Try.f20,n:=36,V:=8,cross:=[11,21,22,23,24],ord:=fun _=>([],[]) }),
 (21,{ fn:=Try.f21,n:=25,V:=1,cross:=[2,3,5,10,11,12,13],ord:=fun _=>([],[]) }),
 (22,{ fn:=Try.f22,n:=67,V:=2,cross:=[4,5,6,7,10,36,45],ord:=fun id=>match id with | 3=>([0,1,2,3,4,5,7,8,9,10,11,12,6,13,14,15],[6,13]) | 6=>([0,1,2,3,4,5,6,7,8],[7]) | 7=>([0,1,2,3,6,7,4,5,8,9],[4,5]) | 8=>([0,1,2,3,6,7,4,5,8,9],[4,5]) | _=>([],[]) }),
 (23,{ fn:=Try.f23,n:=10,V:=5,cross:=[],ord:=fun _=>([],[]) }),
 (24,{ fn:=Try.f24,n:=16,V:=5,cross:=[12],ord:=fun _=>([],[]) }),
 (25,{ fn:=Try.f25,n:=8,V:=1,cross:=[2,4],ord:=fun _=>([],[]) }),
 (26,{ fn:=Try.f26,n:=10,V:=5,cross:=[],ord:=fun _=>([],[]) }),
 (27,{ fn:=Try.f27,n:=15,V:=4,cross:=[7],ord:=fun id=>match id with | 3=>([0,1,2,3,4,5,6,7,8],[]) | _=>([],[]) }),
 (28,{ fn:=Try.f28,n:=36,V:=1,cross:=[2,3,5,6,8,9,10,11,12,20,25,26,27,28],ord:=fun _=>([],[]) }),
 (29,{ fn:=Try.f29,n:=6,V:=1,cross:=[2],ord:=fun _=>([],[]) }),
 (30,{ fn:=Try.f30,n:=31,V:=1,cross:=[2,3,5,8,9,10,11,12,15,22,29],ord:=fun _=>([],[]) }),
 (31,{ fn:=Try.f31,n:=9,V:=2,cross:=[3,4],ord:=fun _=>([],[]) }),
 (32,{ fn:=Try.f32,n:=8,V:=1,cross:=[2,5],ord:=fun _=>([],[]) }),
 (33,{ fn:=Try.f33,n:=61,V:=4,cross:=[6,7,8,9,11,17,18,19,20,25,46],ord:=fun id=>match id with | 1=>([0,1,2,3,4,5,6],[3,5,6]) | 7=>([0,1,2,3,4,5,6,7,8,9,10],[7,8,10]) | 11=>([0,1,2,3,4,5,6,7,8,9,10,11],[7,8,9,11]) | _=>([],[]) }),
 (34,{ fn:=Try.f34,n:=6,V:=3,cross:=[],ord:=fun _=>([],[]) }),
 (35,{ fn:=Try.f35,n:=9,V:=2,cross:=[4],ord:=fun _=>([],[]) }),
 (36,{ fn:=Try.f36,n:=5,V:=1,cross:=[2],ord:=fun _=>([],[]) }),
 (37,{ fn:=Try.f37,n:=26,V:=2,cross:=[4,5,10,12,13,14,24],ord:=fun id=>match id with | 6=>([0,1,2,3,4,5,6,7,8],[]) | _=>([],[]) }),
 (38,{ fn:=Try.f38,n:=32,V:=3,cross:=[6,7,8,9,14,15,16,17,18,30],ord:=fun _=>([],[]) }),
 (39,{ fn:=Try.f39,n:=28,V:=6,cross:=[14,23],ord:=fun _=>([],[]) }),
 (40,{ fn:=Try.f40,n:=5,V:=1,cross:=[2],ord:=fun _=>([],[]) }),
 (41,{ fn:=Try.f41,n:=44,V:=2,cross:=[4,5,6,7,15,22],ord:=fun _=>([],[]) }),
 (42,{ fn:=Try.f42,n:=56,V:=5,cross:=[10,11,12,13,14,15,16,17,18,19,36,52],ord:=fun _=>([],[]) }),
 (43,{ fn:=Try.f43,n:=16,V:=3,cross:=[4,5,11],ord:=fun _=>([],[]) }),
 (44,{ fn:=Try.f44,n:=107,V:=11,cross:=[18,23,30,43,48,76,81,94,105],ord:=fun id=>match id with | 9=>([0,2,3,1,4,5,6,7,8,9],[1,4]) | _=>([],[]) }),
 (45,{ fn:=Try.f45,n:=16,V:=7,cross:=[],ord:=fun _=>([],[]) }),
 (46,{ fn:=Try.f46,n:=53,V:=3,cross:=[4,5,6,7,8,9,12,34,35,36],ord:=fun id=>match id with | 3=>([0,1,2,3,4,5,6,7,8,9],[7]) | 4=>([0,1,2,3,5,6,7,8,4,9,10,11],[4,9]) | 9=>([0,1,2,3,4,5,6,7,8,9,10,11,12,13],[10,11,12]) | _=>([],[]) }),
 (47,{ fn:=Try.f47,n:=27,V:=5,cross:=[],ord:=fun id=>match id with | 1=>([0,1,2,3,5,6,7,8,9,10,12,13,15,16,17,18,4,11,14,19,20,21,22],[4,11,14,19,20,21]) | _=>([],[]) }),
 (48,{ fn:=Try.f48,n:=27,V:=2,cross:=[4,6,16],ord:=fun _=>([],[]) }),
 (49,{ fn:=Try.f49,n:=9,V:=2,cross:=[4],ord:=fun _=>([],[]) }),
 (50,{ fn:=Try.f50,n:=6,V:=3,cross:=[],ord:=fun _=>([],[]) }),
 (51,{ fn:=Try.f51,n:=11,V:=2,cross:=[3],ord:=fun _=>([],[]) }),
 (52,{ fn:=Try.f52,n:=19,V:=1,cross:=[2,3,5,7,8,9,10,11],ord:=fun _=>([],[]) }),
 (53,{ fn:=Try.f53,n:=30,V:=4,cross:=[5,11,14,15,16,17,21],ord:=fun _=>([],[]) }),
 (54,{ fn:=Try.f54,n:=47,V:=6,cross:=[32,33,34,35],ord:=fun id=>match id with | 1=>([0,1,2,3,4,6,7,8,10,11,12,5,9,13,14,15,16],[5,9,13,15,16]) | 7=>([0,1,2,3,4,5,6],[4,6]) | _=>([],[]) }),
 (55,{ fn:=Try.f55,n:=19,V:=2,cross:=[4,5,7,8,9,16],ord:=fun _=>([],[]) }),
 (56,{ fn:=Try.f56,n:=18,V:=2,cross:=[4,5,6,7,8],ord:=fun _=>([],[]) }),
 (57,{ fn:=Try.f57,n:=18,V:=2,cross:=[4,5,6,7,8],ord:=fun _=>([],[]) }),
 (58,{ fn:=Try.f58,n:=18,V:=2,cross:=[4,5,6,11],ord:=fun _=>([],[]) }),
 (59,{ fn:=Try.f59,n:=19,V:=2,cross:=[4,5,6,11],ord:=fun _=>([],[]) }),
 (60,{ fn:=Try.f60,n:=21,V:=1,cross:=[2,3,6,10,17,20],ord:=fun _=>([],[]) }),
 (61,{ fn:=Try.f61,n:=17,V:=1,cross:=[2,3,7,14],ord:=fun _=>([],[]) }),
 (62,{ fn:=Try.f62,n:=9,V:=1,cross:=[2],ord:=fun _=>([],[]) }),
 (63,{ fn:=Try.f63,n:=17,V:=1,cross:=[2],ord:=fun _=>([],[]) }),
 (64,{ fn:=Try.f64,n:=87,V:=7,cross:=[8,9,10,12,13,14,15,19,22,23,24,25,45,55,56,57,58,69,84],ord:=fun id=>match id with | 10=>([0,1,2,3,4,5,6,7,8],[]) | _=>([],[]) }),
 (65,{ fn:=Try.f65,n:=44,V:=5,cross:=[12,13,16,20,25,29,34],ord:=fun id=>match id with | 1=>([0,1,2,3,4,5,6,7],[]) | _=>([],[]) }),
 (66,{ fn:=Try.f66,n:=9,V:=1,cross:=[2],ord:=fun _=>([],[]) }),
 (67,{ fn:=Try.f67,n:=17,V:=1,cross:=[2],ord:=fun _=>([],[]) }),
 (68,{ fn:=Try.f68,n:=18,V:=2,cross:=[4,8],ord:=fun _=>([],[]) }),
 (69,{ fn:=Try.f69,n:=38,V:=5,cross:=[8,9,10,21],ord:=fun id=>match id with | 1=>([0,1,2,3,4,5,6],[3,5,6]) | _=>([],[]) }),
 (70,{ fn:=Try.f70,n:=18,V:=1,cross:=[2,3,5,6,7,8,9,14],ord:=fun _=>([],[]) }),
 (71,{ fn:=Try.f71,n:=20,V:=2,cross:=[4,5,6,11,12,13,16,19],ord:=fun _=>([],[]) }),
 (72,{ fn:=Try.f72,n:=20,V:=2,cross:=[4,5,6,11,12,13,16,19],ord:=fun _=>([],[]) }),
 (73,{ fn:=Try.f73,n:=27,V:=7,cross:=[20],ord:=fun _=>([],[]) }),
 (74,{ fn:=Try.f74,n:=36,V:=2,cross:=[4,5,6,7,8,9,10,11,12,19,28,35],ord:=fun _=>([],[]) }),
 (75,{ fn:=Try.f75,n:=19,V:=2,cross:=[4,5,7,8,9,16],ord:=fun _=>([],[]) }),
 (76,{ fn:=Try.f76,n:=9,V:=2,cross:=[4],ord:=fun _=>([],[]) }),
 (77,{ fn:=Try.f77,n:=16,V:=3,cross:=[4,5,11],ord:=fun _=>([],[]) }),
 (78,{ fn:=Try.f78,n:=40,V:=2,cross:=[4,5,6,7,8,9,14,17,32],ord:=fun id=>match id with | 6=>([0,1,2,3,4,5,6,7],[]) | _=>([],[]) }),
 (79,{ fn:=Try.f79,n:=11,V:=2,cross:=[4,10],ord:=fun _=>([],[]) }),
 (80,{ fn:=Try.f80,n:=19,V:=2,cross:=[4,5,15],ord:=fun _=>([],[]) }),
 (81,{ fn:=Try.f81,n:=8,V:=1,cross:=[2,3,6],ord:=fun _=>([],[]) }),
 (82,{ fn:=Try.f82,n:=30,V:=1,cross:=[2,3,4,8,15,20,28],ord:=fun _=>([],[]) }),
 (83,{ fn:=Try.f83,n:=5,V:=1,cross:=[2],ord:=fun _=>([],[]) }),
 (84,{ fn:=Try.f84,n:=6,V:=1,cross:=[2],ord:=fun _=>([],[]) }),
 (85,{ fn:=Try.f85,n:=6,V:=1,cross:=[2],ord:=fun _=>([],[]) }),
 (86,{ fn:=Try.f86,n:=105,V:=7,cross:=[10,11,12,13,14,15,35,72,73,74,91],ord:=fun id=>match id with | 2=>([0,1,2,3,4,5,6,7,8,9,10,11],[10]) | 4=>([0,1,2,3,4,5,6,7,8,9,10,11],[10]) | 5=>([0,1,2,3,4,6,7,8,9,10,5,11,12,13],[5,11]) | 6=>([0,1,2,3,4,5,6,7,8,9,10,11],[]) | 13=>([0,1,2,3,4,5,6,7,8,9,10,11],[10]) | _=>([],[]) }),
 (87,{ fn:=Try.f87,n:=19,V:=2,cross:=[4,5,7,8,9,16],ord:=fun _=>([],[]) }),
 (88,{ fn:=Try.f88,n:=9,V:=1,cross:=[2],ord:=fun _=>([],[]) }),
 (89,{ fn:=Try.f89,n:=7,V:=1,cross:=[2],ord:=fun _=>([],[]) })]
abbrev eqs:List Nat:=[]
theorem Ba1:∀t,eqs.contains t=true->Try.prog.eqGuardType Try.prog.depth t=false/\Try.prog.stoodInHeld t=false:=by
 intro t h
 exact absurd h (by simp[eqs])
theorem R8:FrmOk Try.prog (G2 Bcq) :=
 FrmOk.cons Try.func3 rfl (by decide) <|
 FrmOk.cons Try.func4 rfl (by decide) <|
 FrmOk.cons Try.func5 rfl (by decide) <|
 FrmOk.cons Try.func6 rfl (by decide) <|
 FrmOk.cons Try.func7 rfl (by decide) <|
 FrmOk.cons Try.func8 rfl (by decide) <|
 FrmOk.cons Try.func9 rfl (by decide) <|
 FrmOk.cons Try.func10 rfl (by decide) <|
 FrmOk.cons Try.func11 rfl (by decide) <|
 FrmOk.cons Try.func12 rfl (by decide) <|
 FrmOk.cons Try.func13 rfl (by decide) <|
 FrmOk.cons Try.func14 rfl (by decide) <|
 FrmOk.cons Try.func15 rfl (by decide) <|
 FrmOk.cons Try.func16 rfl (by decide) <|
 FrmOk.cons Try.func17 rfl (by decide) <|
 FrmOk.cons Try.func18 rfl (by decide) <|
 FrmOk.cons Try.func19 rfl (by decide) <|
 FrmOk.cons Try.func20 rfl (by decide) <|
 FrmOk.cons Try.func21 rfl (by decide) <|
 FrmOk.cons Try.func22 rfl (by decide) <|
 FrmOk.cons Try.func23 rfl (by decide) <|
 FrmOk.cons Try.func24 rfl (by decide) <|
 FrmOk.cons Try.func25 rfl (by decide) <|
 FrmOk.cons Try.func26 rfl (by decide) <|
 FrmOk.cons Try.func27 rfl (by decide) <|
 FrmOk.cons Try.func28 rfl (by decide) <|
 FrmOk.cons Try.func29 rfl (by decide) <|
 FrmOk.cons Try.func30 rfl (by decide) <|
 FrmOk.cons Try.func31 rfl (by decide) <|
 FrmOk.cons Try.func32 rfl (by decide) <|
 FrmOk.cons Try.func33 rfl (by decide) <|
 FrmOk.cons Try.func34 rfl (by decide) <|
 FrmOk.cons Try.func35 rfl (by decide) <|
 FrmOk.cons Try.func36 rfl (by decide) <|
 FrmOk.cons Try.func37 rfl (by decide) <|
 FrmOk.cons Try.func38 rfl (by decide) <|
 FrmOk.cons Try.func39 rfl (by decide) <|
 FrmOk.cons Try.func40 rfl (by decide) <|
 FrmOk.cons Try.func41 rfl (by decide) <|
 FrmOk.cons Try.func42 rfl (by decide) <|
 FrmOk.cons Try.func43 rfl (by decide) <|
 FrmOk.cons Try.func44 rfl (by decide) <|
 FrmOk.cons Try.func45 rfl (by decide) <|
 FrmOk.cons Try.func46 rfl (by decide) <|
 FrmOk.cons Try.func47 rfl (by decide) <|
 FrmOk.cons Try.func48 rfl (by decide) <|
 FrmOk.cons Try.func49 rfl (by decide) <|
 FrmOk.cons Try.func50 rfl (by decide) <|
 FrmOk.cons Try.func51 rfl (by decide) <|
 FrmOk.cons Try.func52 rfl (by decide) <|
 FrmOk.cons Try.func53 rfl (by decide) <|
 FrmOk.cons Try.func54 rfl (by decide) <|
 FrmOk.cons Try.func55 rfl (by decide) <|
 FrmOk.cons Try.func56 rfl (by decide) <|
 FrmOk.cons Try.func57 rfl (by decide) <|
 FrmOk.cons Try.func58 rfl (by decide) <|
 FrmOk.cons Try.func59 rfl (by decide) <|
 FrmOk.cons Try.func60 rfl (by decide) <|
 FrmOk.cons Try.func61 rfl (by decide) <|
 FrmOk.cons Try.func62 rfl (by decide) <|
 FrmOk.cons Try.func63 rfl (by decide) <|
 FrmOk.cons Try.func64 rfl (by decide) <|
 FrmOk.cons Try.func65 rfl (by decide) <|
 FrmOk.cons Try.func66 rfl (by decide) <|
 FrmOk.cons Try.func67 rfl (by decide) <|
 FrmOk.cons Try.func68 rfl (by decide) <|
 FrmOk.cons Try.func69 rfl (by decide) <|
 FrmOk.cons Try.func70 rfl (by decide) <|
 FrmOk.cons Try.func71 rfl (by decide) <|
 FrmOk.cons Try.func72 rfl (by decide) <|
 FrmOk.cons Try.func73 rfl (by decide) <|
 FrmOk.cons Try.func74 rfl (by decide) <|
 FrmOk.cons Try.func75 rfl (by decide) <|
 FrmOk.cons Try.func76 rfl (by decide) <|
 FrmOk.cons Try.func77 rfl (by decide) <|
 FrmOk.cons Try.func78 rfl (by decide) <|
 FrmOk.cons Try.func79 rfl (by decide) <|
 FrmOk.cons Try.func80 rfl (by decide) <|
 FrmOk.cons Try.func81 rfl (by decide) <|
 FrmOk.cons Try.func82 rfl (by decide) <|
 FrmOk.cons Try.func83 rfl (by decide) <|
 FrmOk.cons Try.func84 rfl (by decide) <|
 FrmOk.cons Try.func85 rfl (by decide) <|
 FrmOk.cons Try.func86 rfl (by decide) <|
 FrmOk.cons Try.func87 rfl (by decide) <|
 FrmOk.cons Try.func88 rfl (by decide) <|
 FrmOk.cons Try.func89 rfl (by decide) <|
 FrmOk.nil _
theorem mix:Try.prog.follows .mixedOrders=true:=by kernel_rfl
def SM{α:Type}(x:α):Prop:=x=x
def Z0:Int:=0
def Z1:Int:=1
def N0:Nat:=0
def N1:Nat:=1
def N2:Nat:=2
def N4:Nat:=4
def LN{α:Type}(l:List α):Nat:=List.length l
def LI{α:Type}(l:List α):Int:=(↑(List.length l):Int)
def NI(x:Nat):Int:=(↑x:Int)
def TN(x:Nat):Nat:=Int.toNat (↑x:Int)
def TL{α:Type}(l:List α):Nat:=Int.toNat (↑(List.length l):Int)
def GI(l:List Int)(i:Nat):Int:=List.getD l i (0:Int)
def ZI(a:Int):D:=D.int IntKind.i64 a
def SI(l:List Int):D:=D.sl 1 (List.length l) (fun i=>[D.int IntKind.i64 (List.getD l i (0:Int))]) Mode.any
abbrev Con:=Nat->List D->St->Option FnSpec
noncomputable def E0(con:Con)(n V:Nat)(cross:List Nat)(ord:Nat->List Nat×List Nat):Senv where
 P:=Try.prog
 tt:=EQ tab
 n:=n
 dfs:=[]
 V:=V
 cross:=cross
 gh:=fun _=>[]
 gr:=[]
 unr:=fun _=>0
 cut:=fun _ _ _=>none
 ann:=fun _ _ _=>none
 ord:=ord
 con:=con
 eqs:=eqs
noncomputable def EC(con:Con)(n V:Nat)(cross:List Nat)(ord:Nat->List Nat×List Nat):Senv :=
 { E0 con n V cross ord with auto:=true,inl:=Uw { E0 con 0 0 [] (fun _=>([],[])) with auto:=true } (G2 Bcq) 9 }
abbrev CM:Con:=fun _ _ _=>none
theorem By:ConOk Try.prog CM:=fun _ _ _ _ h=>nomatch h
theorem eOk{con:Con}(hc:ConOk Try.prog con){E:Senv}(h:E={ EC con E.n E.V E.cross E.ord with gh:=E.gh,gr:=E.gr,unr:=E.unr,cut:=E.cut,ann:=E.ann,cut2:=E.cut2,ann2:=E.ann2,own:=E.own,gz:=E.gz,mg:=E.mg,pvt:=E.pvt,bcut:=E.bcut,bd:=E.bd }):EnvOk E:=by
 rw[h]
 exact⟨Bbz,hc,mix,fun k ds S R h=>Rq (E:={ E0 con 0 0 [] (fun _=>([],[])) with auto:=true }) Bbz hc mix R8 Ba1 9 k ds S R h,Ba1⟩
def pC(ds:List D)(d:D)(p:Prop):FnSpec where
 β:=Unit
 α:=Unit
 args:=fun _=>ds
 st:=fun _=>⟨[],[]⟩
 pre:=fun _=>p
 post:=fun _ _=>True
 res:=fun _ _=>.ret d
 out:=fun _ _=>⟨[],[]⟩
 fit:=some ()
theorem Ru(S:St):leS ⟨[],[]⟩ S:=by simp[leS,Ba,Go.Ab.nodupB,leO,leT]
theorem Ea{k : Nat}{ds : List D}{S : St}{us : List D}{d : D}{p : Prop}(h : p -> Bo ds us /\ ACalls Try.prog k us ⟨[], []⟩ (SpecR (sC us d) ())) :
  (∀x,(pC us d p).pre x->ACalls Try.prog k ((pC us d p).args x) ((pC us d p).st x) (SpecR (pC us d p) x))/\(∀x,(pC us d p).fit=some x->(pC us d p).pre x->Bo ds ((pC us d p).args x)/\leS ((pC us d p).st x) S)/\((pC us d p).all=true->∀x,(pC us d p).pre x->Bo ds ((pC us d p).args x)/\(pC us d p).st x=S) :=
 ⟨fun _ hp=>(h hp).2.mono fun _ _ ⟨_,_h1,h2,h3⟩=>⟨(),trivial,h2,h3⟩,fun _ _ hp=>⟨(h hp).1,Ru S⟩,fun e=>nomatch e⟩
theorem CV{α:Type}[Inhabited α]{l:List α}{i:Nat}(h:i<l.length):l.drop i=l.getD i default::l.drop (i+1):=by
 rw[List.drop_eq_getElem_cons h]
 simp[List.getD_eq_getElem?_getD,h]
theorem CR{α:Type}[Inhabited α]{l:List α}{i:Nat}(h:i<l.length):l.take (i+1)=l.take i++[l.getD i default]:=by
 rw[List.take_add_one]
 simp[List.getD_eq_getElem?_getD,h]
def RT(p:Prop):Prop:=True/\∃(y:Unit),True/\p/\True/\True
def isl(l:List Int)(m:Ab.Mode):D:=.sl 1 l.length (fun i=>[.int .i64 (l.getD i 0)]) m
inductive Arr where
 |mk (kind:Int) (shape nums:List Int) (items:List Arr)
def EY(z:Int):Prop:=-9223372036854775808<=z/\z<=9223372036854775807
mutual
def Arr.row:Arr->List D
 |.mk k s n is=>[.int .i64 k,isl s .any,isl n .any,.sl 4 (G9 is).length (fun i=>(G9 is).getD i []) .any]
def G9:List Arr->List (List D)
 | []=>[]
 |a::r=>a.row::G9 r
end
mutual
def Arr.ok:Arr->Prop
 |.mk k s n is=>EY k/\(∀z∈s,EY z)/\(∀z∈n,EY z)/\s.length<=maxLen/\n.length<=maxLen/\is.length<=maxLen/\okL is
def okL:List Arr->Prop
 | []=>True
 |a::r=>a.ok/\okL r
end
mutual
/-- Nothing in it is longer than a machine's memory. -/
def Arr.sm:Arr->Prop
 |.mk _ s n is=>s.length<=ER/\n.length<=ER/\is.length<=ER/\smL is
def smL:List Arr->Prop
 | []=>True
 |a::r=>a.sm/\smL r
end
theorem Rv:∀(l:List Arr),smL l↔∀a∈l,a.sm
 | []=>by simp[smL]
 |a::l=>by simp only[smL,List.forall_mem_cons,Rv l]
theorem TT{n:Nat}(h:n<=ER):n<=maxLen:=Nat.le_trans h (by decide)
theorem Cf:∀(l:List Arr),G9 l=l.map Arr.row
 | []=>rfl
 |a::l=>by simp only[G9,List.map_cons,Cf l]
theorem CA:∀(l:List Arr),okL l↔∀a∈l,a.ok
 | []=>by simp[okL]
 |a::l=>by simp only[okL,List.forall_mem_cons,CA l]
def RInts:List D->Prop:=fun ds=>∃l:List Int,(∀z∈l,EY z)/\l.length<=ER/\ds=[isl l .any]
def RArr:List D->Prop:=fun ds=>∃a:Arr,(a.ok/\a.sm)/\ds=a.row
theorem RZ:∀x,RInt .i64 x->∃z,EY z/\x=[.int .i64 z]:=by
 rintro x ⟨n,rfl,h1,h2⟩
 simp only[IntKind.min,IntKind.max,IntKind.signed,IntKind.bits] at h1 h2
 exact⟨n,⟨by simpa using h1,by simp at h2;omega⟩,rfl⟩
theorem OV(W:World)(n:Nat):ReadAt Try.prog W n 23 RInts:=by
 cases n with
 |zero=>exact .zero _ _
 |succ n =>
  refine (Mb (w:=1) Try.underlying23 (by kernel_rfl) (by decide) (by decide +kernel) (Uh Try.underlying3 W n)).weak ?_
  rintro _ ds vs ⟨l,h1,h2,rfl⟩ h
  obtain ⟨l',q,rfl⟩:=To RZ l h1
  refine⟨_,⟨l',q,by simpa using h2,rfl⟩,BM _ _ ?_ _ _ h⟩
  simp only[isl,Bo,Bp,Ba]
  refine⟨⟨by simp,by simp,fun i hi=>?_,by simp[BH]⟩,trivial⟩
  have hi:i<l'.length:=by simpa using hi
  simp[List.getD_eq_getElem?_getD,hi]
theorem UI(W:World):∀n,ReadAt Try.prog W n 26 RArr
 |0=>.zero _ _
 |n+1=>by
  have hi:ReadAt Try.prog W n 24 (RSliceA 4 RArr):=by
   cases n with
   |zero=>exact .zero _ _
   |succ m=>exact Mb (w:=4) Try.underlying24 (by kernel_rfl) (by decide) (by decide +kernel) (UI W m)
  refine (Uo Try.underlying26 (by kernel_rfl) (Rs:=[RInt .i64,RInts,RInts,RSliceA 4 RArr]) ⟨Uh (by kernel_rfl) W n,OV W n,OV W n,hi,trivial⟩).mono ?_
  rintro ds ⟨_,_,h1,⟨_,_,h2,⟨_,_,h3,⟨_,_,h4,h5,rfl⟩,rfl⟩,rfl⟩,rfl⟩
  obtain rfl:_=[]:=h5
  obtain ⟨k,hk,rfl⟩:=RZ _ h1
  obtain ⟨s,s1,s2,rfl⟩:=h2
  obtain ⟨m,m1,m2,rfl⟩:=h3
  obtain ⟨l,l1,l2,rfl⟩:=h4
  obtain ⟨is,q,rfl⟩:=To (g:=Arr.row) (Q:=fun a=>a.ok/\a.sm) (fun x hx=>hx) l l1
  have l2:is.length<=ER:=by simpa using l2
  refine⟨.mk k s m is,⟨?_,?_⟩,?_⟩
  ·simp only[Arr.ok]
   exact⟨hk,s1,m1,TT s2,TT m2,TT l2,(CA _).2 fun a ha=>(q a ha).1⟩
  ·simp only[Arr.sm]
   exact⟨s2,m2,l2,(Rv _).2 fun a ha=>(q a ha).2⟩
  ·simp only[Arr.row,Cf,List.cons_append,List.nil_append]
set_option maxRecDepth 100000
def Mz(P:Program)(TS:List Nat)(t:Nat):Bool :=
 match P.underlying t with
 |some (.slice e)=>TS.contains e&&decide (P.bytesOf e<=4096)
 |some (.struct fs)=>fs.toList.all fun f=>TS.contains f.type
 |some (.pointer e)=>TS.contains e
 |some (.array _ e)=>TS.contains e
 |some (.map k e)=>TS.contains e&&decide (P.bytesOf k+P.bytesOf e<=4096)
 |_=>true
theorem We{H:Type}(d:DataW H):1<=Rows.uptoBulk d:=by
 cases d with
 |lit l=>cases l<;>simp[Rows.uptoBulk]
 |nil=>simp[Rows.uptoBulk]
 |ptr d=>simp[Rows.uptoBulk]
 |slice elems spare=>simp[Rows.uptoBulk]
 |agg parts=>simp[Rows.uptoBulk]
 |iface t d=>simp[Rows.uptoBulk]
 |map entries=>simp[Rows.uptoBulk]
 |held h=>simp[Rows.uptoBulk]
theorem M7{H:Type}:∀l:List (DataW H),l.length<=Rows.uptoBulkAll l
 | []=>by simp[Rows.uptoBulkAll]
 |x::r=>by
  have:=We x
  have:=M7 r
  simp only[Rows.uptoBulkAll,List.length_cons]
  omega
theorem Wb{H:Type}:∀l:List (Go.Lit×DataW H),l.length<=Rows.uptoBulkEntries l
 | []=>by simp[Rows.uptoBulkEntries]
 |(k,d)::r=>by
  have:=We d
  have:=Wb r
  have h:1<=Rows.uptoBulkEntry (k,d):=by cases k<;>simp[Rows.uptoBulkEntry]
  simp only[Rows.uptoBulkEntries,List.length_cons]
  omega
theorem UV{a b c:Nat}(h1:a<=c)(h2:b<=4096):a*b<=8192*c:=by
 calc a*b<=c*4096:=Nat.mul_le_mul h1 h2
  _<=8192*c:=by omega
mutual
theorem BbY{P:Program}{TS:List Nat}(hT:∀t∈TS,Mz P TS t=true){H:Type}:∀(d:DataW H) (t:Nat),t∈TS->∀x∈d.weights P t,x<=8192*Rows.uptoBulk d
 |.lit l,t,_,x,hx=>by
  cases l with
  |string bytes =>
   simp only[DataW.weights,List.mem_singleton] at hx
   simp only[Rows.uptoBulk]
   omega
  |_=>simp[DataW.weights] at hx
 |.nil,t,_,x,hx=>by simp[DataW.weights] at hx
 |.ptr d,t,ht,x,hx=>by
  have ho:=hT t ht
  simp only[DataW.weights] at hx
  unfold Mz at ho
  split at hx
  ·rename_i e hu
   rw[hu] at ho
   have:=BbY hT d e (by simpa using ho) x hx
   simp only[Rows.uptoBulk]
   omega
  ·simp at hx
 |.slice elems spare,t,ht,x,hx=>by
  have ho:=hT t ht
  simp only[DataW.weights] at hx
  unfold Mz at ho
  split at hx
  ·rename_i e hu
   rw[hu] at ho
   simp only[Bool.and_eq_true,decide_eq_true_eq] at ho
   have he:e∈TS:=by simpa using ho.1
   simp only[Rows.uptoBulk]
   rcases List.mem_cons.1 hx with rfl | hx
   ·exact Nat.le_trans (UV (Nat.add_le_add (M7 elems) (M7 spare)) ho.2) (by omega)
   ·rcases List.mem_append.1 hx with hx | hx
    ·have:=Mj hT elems e he x hx
     omega
    ·have:=Mj hT spare e he x hx
     omega
  ·simp at hx
 |.agg parts,t,ht,x,hx=>by
  have ho:=hT t ht
  simp only[DataW.weights] at hx
  unfold Mz at ho
  split at hx
  ·rename_i fs hu
   rw[hu] at ho
   have:=M8 hT (fs.toList.map (·.type)) parts (fun t h=>by
    obtain ⟨f,hf,rfl⟩:=List.mem_map.1 h
    simpa using List.all_eq_true.1 ho f hf) x hx
   simp only[Rows.uptoBulk]
   omega
  ·rename_i e hu
   rw[hu] at ho
   have:=Mj hT parts e (by simpa using ho) x hx
   simp only[Rows.uptoBulk]
   omega
  ·simp at hx
 |.iface _ _,t,_,x,hx=>by simp[DataW.weights] at hx
 |.map entries,t,ht,x,hx=>by
  have ho:=hT t ht
  simp only[DataW.weights] at hx
  unfold Mz at ho
  split at hx
  ·rename_i k e hu
   rw[hu] at ho
   simp only[Bool.and_eq_true,decide_eq_true_eq] at ho
   simp only[Rows.uptoBulk]
   rcases List.mem_cons.1 hx with rfl | hx
   ·exact Nat.le_trans (UV (Wb entries) ho.2) (by omega)
   ·have:=RF hT entries e (by simpa using ho.1) x hx
    omega
  ·simp at hx
 |.held _,t,_,x,hx=>by simp[DataW.weights] at hx
theorem Mj{P:Program}{TS:List Nat}(hT:∀t∈TS,Mz P TS t=true){H:Type}:∀(l:List (DataW H)) (e:Nat),e∈TS->∀x∈DataW.weightsAll P e l,x<=8192*Rows.uptoBulkAll l
 | [],e,_,x,hx=>by simp[DataW.weightsAll] at hx
 |d::r,e,he,x,hx=>by
  simp only[DataW.weightsAll] at hx
  simp only[Rows.uptoBulkAll]
  rcases List.mem_append.1 hx with hx | hx
  ·have:=BbY hT d e he x hx;omega
  ·have:=Mj hT r e he x hx;omega
theorem M8{P:Program}{TS:List Nat}(hT:∀t∈TS,Mz P TS t=true){H:Type}:∀(ts:List Nat) (l:List (DataW H)),(∀t∈ts,t∈TS)->∀x∈DataW.weightsEach P ts l,x<=8192*Rows.uptoBulkAll l
 | [],l,_,x,hx=>by simp[DataW.weightsEach] at hx
 |t::ts,[],_,x,hx=>by simp[DataW.weightsEach] at hx
 |t::ts,d::r,ht,x,hx=>by
  simp only[DataW.weightsEach] at hx
  simp only[Rows.uptoBulkAll]
  rcases List.mem_append.1 hx with hx | hx
  ·have:=BbY hT d t (ht t (by simp)) x hx;omega
  ·have:=M8 hT ts r (fun u hu=>ht u (by simp[hu])) x hx;omega
theorem RF{P:Program}{TS:List Nat}(hT:∀t∈TS,Mz P TS t=true){H:Type}:∀(l:List (Go.Lit×DataW H)) (e:Nat),e∈TS->∀x∈DataW.weightsEntries P e l,x<=8192*Rows.uptoBulkEntries l
 | [],e,_,x,hx=>by simp[DataW.weightsEntries] at hx
 |(k,d)::r,e,he,x,hx=>by
  simp only[DataW.weightsEntries] at hx
  simp only[Rows.uptoBulkEntries]
  rcases List.mem_append.1 hx with hx | hx
  ·cases k with
   |string bytes =>
    simp only[DataW.weightsEntry] at hx
    simp only[Rows.uptoBulkEntry]
    rcases List.mem_cons.1 hx with rfl | hx
    ·omega
    ·have:=BbY hT d e he x hx;omega
   |_ =>
    simp only[DataW.weightsEntry] at hx
    simp only[Rows.uptoBulkEntry]
    have:=BbY hT d e he x hx;omega
  ·have:=RF hT r e he x hx;omega
end
theorem Bc7{P:Program}{TS:List Nat}(hT:∀t∈TS,Mz P TS t=true){H:Type}{ts:List Nat}(hts:∀t∈ts,t∈TS){ds:List (DataW H)}(hk:Rows.uptoSmall H ds=true):(DataW.weightsEach P ts ds).all (·<=ER)=true:=by
 have hb:Rows.uptoBulkAll ds<=1048576:=of_decide_eq_true hk
 refine List.all_eq_true.2 fun x hx=>?_
 have:=M8 hT ts ds hts x hx
 unfold ER
 simp only[decide_eq_true_eq]
 omega
open Go Go.Ab Go.RowKit
theorem own:ownKnob Try.prog.godebug=none:=by kernel_rfl
theorem laid:laidOutB Try.prog=true:=by kernel_rfl
def Rr:List (String×DataW Unit):=[]
theorem Bdz{W:World}(_:laidMetH Try.prog Rr W):G0 W:=trivial
noncomputable def IS(os:Os):World:=World.holding Try.prog os ⟨#[],#[],[]⟩
def TSl:List Nat:=[3,22,23,24,26,25]
theorem Be2:∀t∈TSl,Mz Try.prog TSl t=true:=List.all_eq_true.1 (show TSl.all (Mz Try.prog TSl)=true by kernel_rfl)
theorem BaA{α:Type}{o:Option α}{p:α->Bool}(h:(match o with | some x=>p x | none=>false)=true):∃x,o=some x/\p x=true:=by
 cases o with
 |none=>cases h
 |some x=>exact⟨x,rfl,h⟩
def prL:List Nat->Nat
 | []=>1
 |d::r=>d*prL r
def W6:List Nat->Nat->List Nat
 | [],_=>[]
 |d::r,m=>m / prL r % d::W6 r m
theorem Us(m:Nat):∀s,(W6 s m).length=s.length
 | []=>rfl
 |d::r=>by rw[W6,List.length_cons,List.length_cons,Us m r]
theorem U6:∀(s:List Nat) (m i:Nat),i<s.length->(W6 s m).getD i 0=m / prL (s.drop (i+1)) % s.getD i 0
 |d::r,m,0,_=>by simp[W6]
 |d::r,m,i+1,h=>by
  have:=U6 r m i (by simpa using h)
  simpa[W6] using this
theorem UM{s:List Nat}{i:Nat}(h:i<s.length):prL (s.drop i)=s.getD i 0*prL (s.drop (i+1)):=by
 rw[List.drop_eq_getElem_cons h,prL]
 simp[List.getD_eq_getElem?_getD,h]
structure Odo (s:List Nat) (m j:Nat) (cur:List Nat):Prop where
 len:cur.length=s.length
 le:j<=s.length
 low:∀i,i<j->cur.getD i 0=m / prL (s.drop (i+1)) % s.getD i 0
 high:∀i,j<=i->i<s.length->cur.getD i 0=0
 dvd:prL (s.drop j) ∣ m+1
theorem Odo.zero(s:List Nat)(m:Nat):Odo s m s.length (W6 s m) :=
 ⟨Us m s,Nat.le_refl _,fun i hi=>U6 s m i hi,fun i h1 h2=>by omega,by rw[List.drop_length];exact Nat.one_dvd _⟩
def gsl{α:Type}[Inhabited α](w:Nat)(g:α->List D)(l:List α):D:=.sl w l.length (fun i=>g (l.getD i default)) .any
instance:Inhabited Arr:=⟨.mk 0 [] [] []⟩
def DA:Arr:=Arr.mk (0:Int) [] [] []
def GA(l:List Arr)(i:Nat):Arr:=List.getD l i (Arr.mk (0:Int) [] [] [])
def U2:List D->Int
 | [.int _ z]=>z
 |_=>0
def BD(n:Nat)(f:Nat->List D):List Int:=(List.range n).map fun i=>U2 (f i)
theorem Cs(l:List Int):BD l.length (fun i=>[D.int .i64 (l.getD i 0)])=l:=by
 apply List.ext_getElem
 ·simp[BD]
 ·intro i h1 h2
  simp[BD,U2,List.getD_eq_getElem?_getD,h2]
def IntsP(n:Nat)(f:Nat->List D):Prop:=∀i,i<n->f i=[.int .i64 (U2 (f i))]
theorem Ca{n:Nat}{f:Nat->List D}{m:Ab.Mode}(h:IntsP n f):Bo [.sl 1 n f m] [isl (BD n f) .any]:=by
 simp only[isl,Bo,Bp,Ba]
 refine⟨⟨by simp,by simp[BD],fun i hi=>?_,by simp[BH]⟩,trivial⟩
 have e:(BD n f).getD i 0=U2 (f i):=by simp[BD,List.getD_eq_getElem?_getD,hi]
 rw[e]
 exact h i hi
def goO:List Int->Int->Option Int
 | [],p=>some p
 |d::r,p=>if d<0\/65536<d then none else if d=0 then goO r p else if 65536<p*d then none else goO r (p*d)
def Bt(s:List Int):Bool:=decide (s.length<=8)&&(goO s 1).isSome
def BW(s:List Int):Int:=if s.contains 0 then 0 else (goO s 1).getD 0
structure GoHead (l:List Int) (i:Nat) (p:Int):Prop where
 hi:i<=l.length
 h1:1<=p
 h2:p<=65536
 hg:goO (l.drop i) p=goO l 1
theorem GoHead.init(l:List Int):GoHead l 0 1:=⟨Nat.zero_le _,by omega,by omega,by simp⟩
theorem BY{l:List Int}{i:Nat}(h:i<l.length):l.drop i=l.getD i 0::l.drop (i+1):=CV h
theorem GoHead.step{l : List Int}{i : Nat}{p : Int}(h : GoHead l i p)(hlt : i<l.length) :
  (l.getD i 0<0->goO l 1=none)/\(65536<l.getD i 0->goO l 1=none)/\(l.getD i 0=0->GoHead l (i+1) p) /\
  (¬l.getD i 0<0->¬65536<l.getD i 0->0<=p*l.getD i 0/\p*l.getD i 0<=4294967296/\(65536<p*l.getD i 0->l.getD i 0≠0->goO l 1=none)/\(¬65536<p*l.getD i 0->l.getD i 0≠0->GoHead l (i+1) (p*l.getD i 0))):=by
 have hg:=h.hg
 rw[BY hlt,goO] at hg
 generalize l.getD i 0=d at *
 refine⟨fun h0=>?_,fun h0=>?_,fun h0=>?_,fun h0 h3=>?_⟩
 ·rw[if_pos (.inl h0)] at hg;exact hg.symm
 ·rw[if_pos (.inr h0)] at hg;exact hg.symm
 ·subst h0
  simp at hg
  exact⟨by omega,h.h1,h.h2,hg⟩
 ·have b1:0<=p*d:=Int.mul_nonneg (by have:=h.h1;omega) (by omega)
  have b2:p*d<=65536*65536:=Int.mul_le_mul h.h2 (by omega) (by omega) (by omega)
  refine⟨b1,by omega,fun h4 h5=>?_,fun h4 h5=>?_⟩
  ·rw[if_neg (by omega),if_neg h5,if_pos h4] at hg;exact hg.symm
  ·rw[if_neg (by omega),if_neg h5,if_neg h4] at hg
   refine⟨by omega,?_,by omega,hg⟩
   have:0<p*d:=Int.mul_pos (by have:=h.h1;omega) (by omega)
   omega
theorem GoHead.done{l:List Int}{i:Nat}{p:Int}(h:GoHead l i p)(hge:¬(i:Int)<l.length):goO l 1=some p:=by
 have hg:=h.hg
 have:i=l.length:=by have:=h.hi;omega
 rw[this,List.drop_length,goO] at hg
 exact hg.symm
noncomputable def Eright(l:List Int):Senv:={ EC CM 31 1 [2,3,5,8,9,10,11,12,15,22,29] (fun _=>([],[])) with
 ann:=fun b _ _=>match b with
  |0=>some { slots:=[11,3],keep:=[9,10],α:=Nat×Int,st:=fun y=>([.int .i64 y.1,.int .i64 y.2],⟨[],[]⟩),inv:=fun y=>GoHead l y.1 y.2,mu:=fun y=>l.length-y.1 }
  |_=>none }
def Xz(a:List Int):Prop:=True/\∃(_y:Unit),True/\false=Bt a/\True/\True
def Q3(a:List Int)(b:Nat):Int:=GI a (Int.toNat (↑b:Int))
def XA(a:List Int)(b:Nat):Bool:=bif decide (Q3 a b<Z0) then true else decide ((65536:Int)<Q3 a b)
def QgM(a:List Int):D:=SI a
def Hg(a:List Int):Prop:=SM (QgM a)/\SM (ZI (LI a))/\True
theorem Oj(l:List Int):ACalls Try.prog 30 [isl l .any] ⟨[],[]⟩ (SpecR (sC [isl l .any] (.bool (Bt l))) ()):=by
 refine Bg (A:=sC _ _) (x:=()) (E:=Eright l) (eOk By rfl) Try.func30 rfl (by kernel_rfl) rfl (by simp[sC,Eright,EC,E0]) ?_
 refine Bl (T :=
  ifB (decide ((8:Int)<(LI l))) (Xz l) ((∃(x:Nat×Int),GoHead l x.1 x.2/\(Z0=(NI x.1)/\Z1=x.2/\True)/\True/\True)/\∀(x:Nat×Int),GoHead l x.1 x.2->ifB (decide ((NI x.1)<(LI l))) (Bd (Z0<=(NI x.1)/\(NI x.1)<(LI l)) (ifB (decide (Q3 l x.1<Z0)) (true=XA l x.1/\True) (decide ((65536:Int)<Q3 l x.1)=XA l x.1/\True)/\ifB (XA l x.1) (Xz l) (ifB (Q3 l x.1==Z0) (Hg l/\∃(y:Nat×Int),GoHead l y.1 y.2/\LN l-y.1<LN l-x.1/\(IntKind.wrap IntKind.i64 ((NI x.1)+Z1)=(NI y.1)/\x.2=y.2/\True)/\True/\True) (ifB (decide ((65536:Int)<IntKind.wrap IntKind.i64 (x.2*Q3 l x.1))) (Xz l) (Hg l/\∃(y:Nat×Int),GoHead l y.1 y.2/\LN l-y.1<LN l-x.1/\(IntKind.wrap IntKind.i64 ((NI x.1)+Z1)=(NI y.1)/\IntKind.wrap IntKind.i64 (x.2*Q3 l x.1)=y.2/\True)/\True/\True))))) (RT (true=Bt l)))) (by kernel_rfl) ?_
 delta GI LI LN N1 NI SI SM Z0 Z1 ZI Xz Q3 XA QgM Hg RT
 simp only[Int.toNat_natCast,Bh,Bc,decide_eq_true_eq,decide_eq_false_iff_not,true_and,and_true,beq_iff_eq,Bool.cond_true_left,beq_eq_false_iff_ne,ne_eq,exists_const]
 have no:goO l 1=none->false=Bt l:=fun h=>by simp[Bt,h]
 refine⟨fun h=>?_,fun h8=>⟨⟨(0,1),GoHead.init l,rfl,rfl⟩,?_⟩⟩
 ·have:¬l.length<=8:=by omega
  simp[Bt,this]
 rintro ⟨i,p⟩ hh
 simp only at hh ⊢
 refine⟨fun hlt=>?_,fun hge=>?_⟩
 rotate_left
 ·have:l.length<=8:=by omega
  simp[Bt,hh.done hge,this]
 have hlt':i<l.length:=by omega
 obtain ⟨s1,s2,s3,s4⟩:=hh.step hlt'
 refine⟨by omega,⟨fun h=>by rw[decide_eq_true h];rfl,fun h=>by rw[decide_eq_false h];rfl⟩,fun h=>no ?_,fun h=>?_⟩
 ·rw[Bool.or_eq_true,decide_eq_true_eq,decide_eq_true_eq] at h
  exact h.elim s1 s2
 ·rw[Bool.or_eq_false_iff,decide_eq_false_iff_not,decide_eq_false_iff_not] at h
  obtain ⟨b1,b2,s5,s6⟩:=s4 h.1 h.2
  have hw:IntKind.i64.wrap (p*l.getD i 0)=p*l.getD i 0:=Bb (by omega) (by omega)
  rw[hw]
  exact⟨fun hd=>⟨(i+1,p),s3 hd,by simp only;omega,Bb (by omega) (by omega),rfl⟩,fun hd=>⟨fun h4=>no (s5 h4 hd),fun h4=>⟨(i+1,p*l.getD i 0),s6 h4 hd,by simp only;omega,Bb (by omega) (by omega),rfl⟩⟩⟩
noncomputable def Erprod(l:List Int):Senv:={ EC CM 30 1 [2,3,4,8,15,20,28] (fun _=>([],[])) with
 ann:=fun b _ _=>match b with
  |0=>some { slots:=[4,3],keep:=[0],α:=Nat×Int,st:=fun y=>([.int .i64 y.1,.int .i64 y.2],⟨[],[]⟩),inv:=fun y=>GoHead l y.1 y.2,mu:=fun y=>l.length-y.1 }
  |_=>none }
def XB(a:List Int):Prop:=True/\∃(_y:Unit),True/\(65537:Int)=Option.getD (goO a Z1) (65537:Int)/\True/\True
def QgN(a:List Int):D:=SI a
def Hh(a:List Int):Prop:=SM (QgN a)/\True
theorem BcG(l:List Int)(h0:∀z∈l,0<=z)(hl:l.length<=maxLen):ACalls Try.prog 82 [isl l .any] ⟨[],[]⟩ (SpecR (sC [isl l .any] (.int .i64 ((goO l 1).getD 65537))) ()):=by
 refine Bg (A:=sC _ _) (x:=()) (E:=Erprod l) (eOk By rfl) Try.func82 rfl (by kernel_rfl) rfl (by simp[sC,Erprod,EC,E0]) ?_
 refine Bl (T :=
  (∃(x:Nat×Int),GoHead l x.1 x.2/\(Z0=(NI x.1)/\Z1=x.2/\True)/\True/\True)/\∀(x:Nat×Int),GoHead l x.1 x.2->ifB (decide ((NI x.1)<(LI l))) (Bd (Z0<=(NI x.1)/\(NI x.1)<(LI l)) (ifB (decide ((65536:Int)<GI l (TN x.1))) (XB l) (Bd (Z0<=(NI x.1)/\(NI x.1)<(LI l)) (ifB (decide (Z0<GI l (TN x.1))) (Bd (Z0<=(NI x.1)/\(NI x.1)<(LI l)) (ifB (decide ((65536:Int)<IntKind.wrap IntKind.i64 (x.2*GI l (TN x.1)))) (XB l) (Hh l/\∃(y:Nat×Int),GoHead l y.1 y.2/\LN l-y.1<LN l-x.1/\(IntKind.wrap IntKind.i64 ((NI x.1)+Z1)=(NI y.1)/\IntKind.wrap IntKind.i64 (x.2*GI l (TN x.1))=y.2/\True)/\True/\True))) (ifB (decide ((65536:Int)<x.2)) (XB l) (Hh l/\∃(y:Nat×Int),GoHead l y.1 y.2/\LN l-y.1<LN l-x.1/\(IntKind.wrap IntKind.i64 ((NI x.1)+Z1)=(NI y.1)/\x.2=y.2/\True)/\True/\True)))))) (RT (x.2=Option.getD (goO l Z1) (65537:Int)))) (by kernel_rfl) ?_
 delta GI LI LN N1 NI SI SM TN Z0 Z1 ZI XB QgN Hh RT
 simp only[Int.toNat_natCast,Bh,Bc,decide_eq_true_eq,decide_eq_false_iff_not,true_and,and_true,exists_const]
 have no:goO l 1=none->(65537:Int)=(goO l 1).getD 65537:=fun h=>by simp[h]
 refine⟨⟨(0,1),GoHead.init l,rfl,rfl⟩,?_⟩
 rintro ⟨i,p⟩ hh
 simp only at hh ⊢
 refine⟨fun hlt=>?_,fun hge=>by simp[hh.done hge]⟩
 have hlt':i<l.length:=by omega
 obtain ⟨s1,s2,s3,s4⟩:=hh.step hlt'
 have hd0:0<=l.getD i 0:=h0 _ (by rw[List.getD_eq_getElem?_getD,List.getElem?_eq_getElem hlt'];exact List.getElem_mem hlt')
 simp only[maxLen] at hl
 refine⟨by omega,fun h=>no (s2 h),fun h=>⟨by omega,?_⟩⟩
 obtain ⟨b1,b2,s5,s6⟩:=s4 (by omega) h
 have hw:IntKind.i64.wrap (p*l.getD i 0)=p*l.getD i 0:=Bb (by omega) (by omega)
 rw[hw]
 refine⟨fun hd=>⟨by omega,fun h4=>no (s5 h4 (by omega)),fun h4=>⟨(i+1,p*l.getD i 0),s6 h4 (by omega),by simp only;omega,Bb (by omega) (by omega),rfl⟩⟩,fun hd=>⟨fun h4=>absurd h4 (by have:=hh.h2;omega),fun _=>⟨(i+1,p),s3 (by omega),by simp only;omega,Bb (by omega) (by omega),rfl⟩⟩⟩
def conR:Con:=CM
theorem Bda:ConOk Try.prog conR:=By
def Gg(p:Int->Bool):List Int->Nat->Int
 | [],_=>-1
 |d::r,i=>if p d then (i:Int) else Gg p r (i+1)
theorem Of(p:Int->Bool):∀(l:List Int) (i:Nat),decide (0<=Gg p l i)=l.any p
 | [],i=>rfl
 |d::r,i=>by
  rw[Gg,List.any_cons]
  split
  ·rename_i h;rw[h];simp
  ·rename_i h
   rw[Of p r (i+1)]
   simp[h]
structure IdxHead (p:Int->Bool) (l:List Int) (i:Nat):Prop where
 hi:i<=l.length
 hg:Gg p (l.drop i) i=Gg p l 0
theorem IdxHead.step{p:Int->Bool}{l:List Int}{i:Nat}(h:IdxHead p l i)(hlt:i<l.length):(p (l.getD i 0)=true->Gg p l 0=i)/\(p (l.getD i 0)=false->IdxHead p l (i+1)):=by
 have hg:=h.hg
 rw[BY hlt,Gg] at hg
 refine⟨fun e=>?_,fun e=>?_⟩
 ·rw[if_pos e] at hg;exact hg.symm
 ·rw[if_neg (by rw[e];exact Bool.false_ne_true)] at hg;exact⟨by omega,hg⟩
theorem IdxHead.done{p:Int->Bool}{l:List Int}{i:Nat}(h:IdxHead p l i)(hge:¬(i:Int)<l.length):Gg p l 0 = -1:=by
 have hg:=h.hg
 have:i=l.length:=by have:=h.hi;omega
 rw[this,List.drop_length,Gg] at hg
 exact hg.symm
def annI(p:Int->Bool)(l:List Int)(keep:List Nat):LoopAnn:={ slots:=[8],keep:=keep,α:=Nat,st:=fun i=>([.int .i64 i],⟨[],[]⟩),inv:=fun i=>IdxHead p l i,mu:=fun i=>l.length-i }
noncomputable def Eidx(l:List Int)(v:Int):Senv:={ EC CM 19 2 [4,5,7,8,9,16] (fun _=>([],[])) with
 ann:=fun b _ _=>match b with
  |0=>some (annI (fun d=>v==d) l [0,1,6,7])
  |_=>none }
def XC(a:Int)(b:List Int)(c:Nat):Prop:=IdxHead (fun (d:Int)=>a==d) b c
def QgO(a:List Int):D:=SI a
theorem Beq(l:List Int)(v:Int)(hl:l.length<=maxLen):ACalls Try.prog 87 [isl l .any,.int .i64 v] ⟨[],[]⟩ (SpecR (sC [isl l .any,.int .i64 v] (.int .i64 (Gg (fun d=>v==d) l 0))) ()):=by
 refine Bg (A:=sC _ _) (x:=()) (E:=Eidx l v) (eOk By rfl) Try.func87 rfl (by kernel_rfl) rfl (by simp[sC,Eidx,EC,E0]) ?_
 refine Bl (T :=
  (∃(x:Nat),XC v l x/\(Z0=(↑x:Int)/\True)/\True/\True)/\∀(x:Nat),XC v l x->ifB (decide ((↑x:Int)<(LI l))) (Bd (Z0<=(↑x:Int)/\(↑x:Int)<(LI l)) (ifB (v==GI l (Int.toNat (↑x:Int))) (RT ((↑x:Int)=Gg (fun (d:Int)=>v==d) l N0)) ((SM (QgO l)/\SM (ZI v)/\SM D.unk/\SM (ZI (LI l))/\True)/\∃(y:Nat),XC v l y/\LN l-y<LN l-x/\(IntKind.wrap IntKind.i64 ((↑x:Int)+Z1)=(↑y:Int)/\True)/\True/\True))) (RT ((-1:Int)=Gg (fun (d:Int)=>v==d) l N0))) (by kernel_rfl) ?_
 delta GI LI LN N0 N1 SI SM Z0 Z1 ZI XC QgO RT
 simp only[Int.toNat_natCast,Bh,Bc,decide_eq_true_eq,decide_eq_false_iff_not,true_and,and_true,exists_const]
 simp only[maxLen] at hl
 refine⟨⟨0,⟨Nat.zero_le _,by simp⟩,rfl⟩,fun i hh=>⟨fun hlt=>?_,fun hge=>(hh.done hge).symm⟩⟩
 have hlt':i<l.length:=by omega
 obtain ⟨s1,s2⟩:=hh.step hlt'
 exact⟨by omega,fun h=>(s1 h).symm,fun h=>⟨i+1,s2 h,by omega,Bb (by omega) (by omega)⟩⟩
noncomputable def Eneg(l:List Int):Senv:={ EC CM 19 2 [4,5,7,8,9,16] (fun _=>([],[])) with
 ann:=fun b _ _=>match b with
  |0=>some (annI (fun d=>decide (d<0)) l [0,1,6,7])
  |_=>none }
def XD(a:List Int)(b:Nat):Prop:=IdxHead (fun (d:Int)=>decide (d<Z0)) a b
def Hi(a:List Int):Int:=Gg (fun (d:Int)=>decide (d<Z0)) a N0
def QgP(a:List Int):D:=SI a
theorem BdT(l:List Int)(hl:l.length<=maxLen):ACalls Try.prog 55 [isl l .any,.fn (.func 83) [] []] ⟨[],[]⟩ (SpecR (sC [isl l .any,.fn (.func 83) [] []] (.int .i64 (Gg (fun d=>decide (d<0)) l 0))) ()):=by
 refine Bg (A:=sC _ _) (x:=()) (E:=Eneg l) (eOk By rfl) Try.func55 rfl (by kernel_rfl) rfl (by simp[sC,Eneg,EC,E0]) ?_
 refine Bl (T :=
  (∃(x:Nat),XD l x/\(Z0=(↑x:Int)/\True)/\True/\True)/\∀(x:Nat),XD l x->ifB (decide ((↑x:Int)<(LI l))) (Bd (Z0<=(↑x:Int)/\(↑x:Int)<(LI l)) (True/\ifB (decide (GI l (Int.toNat (↑x:Int))<Z0)) (RT ((↑x:Int)=Hi l)) ((SM (QgP l)/\SM (D.fn (Fn.func (83:Nat)) [] [])/\SM D.unk/\SM (ZI (LI l))/\True)/\∃(y:Nat),XD l y/\LN l-y<LN l-x/\(IntKind.wrap IntKind.i64 ((↑x:Int)+Z1)=(↑y:Int)/\True)/\True/\True))) (RT ((-1:Int)=Hi l))) (by kernel_rfl) ?_
 delta GI LI LN N0 N1 SI SM Z0 Z1 ZI XD Hi QgP RT
 simp only[Int.toNat_natCast,Bh,Bc,decide_eq_true_eq,decide_eq_false_iff_not,true_and,and_true,exists_const]
 simp only[maxLen] at hl
 refine⟨⟨0,⟨Nat.zero_le _,by simp⟩,rfl⟩,fun i hh=>⟨fun hlt=>?_,fun hge=>(hh.done hge).symm⟩⟩
 have hlt':i<l.length:=by omega
 obtain ⟨s1,s2⟩:=hh.step hlt'
 exact⟨by omega,fun h=>(s1 (decide_eq_true h)).symm,fun h=>⟨i+1,s2 (decide_eq_false h),by omega,Bb (by omega) (by omega)⟩⟩
theorem BK(l:List Int):IntsP l.length (fun i=>[D.int .i64 (l.getD i 0)]):=fun _ _=>rfl
def O6:Con:=fun k ds S=>match k with
 |87=>match ds with
  | [.sl 1 n f _,.int .i64 v]=>some (pC ds (.int .i64 (Gg (fun d=>v==d) (BD n f) 0)) (IntsP n f/\n<=maxLen))
  |_=>none
 |55=>match ds with
  | [.sl 1 n f _,.fn (.func 83) [] []]=>some (pC ds (.int .i64 (Gg (fun d=>decide (d<0)) (BD n f) 0)) (IntsP n f/\n<=maxLen))
  |_=>none
 |30=>match ds with
  | [.sl 1 n f _]=>some (pC ds (.bool (Bt (BD n f))) (IntsP n f))
  |_=>none
 |82=>match ds with
  | [.sl 1 n f _]=>some (pC ds (.int .i64 ((goO (BD n f) 1).getD 65537)) (IntsP n f/\(∀z∈BD n f,0<=z)/\n<=maxLen))
  |_=>none
 |k=>conR k ds S
theorem CY(n:Nat)(f:Nat->List D):(BD n f).length=n:=by simp[BD]
theorem Cm{k:Nat}{ds us:List D}{d:D}(hw:Bo ds us)(h:ACalls Try.prog k us ⟨[],[]⟩ (SpecR (sC us d) ())):ACalls Try.prog k ds ⟨[],[]⟩ (SpecR (sC ds d) ()) :=
 (ACalls.weakArgs h hw).mono fun _ _ ⟨_,_h1,h2,h3⟩=>⟨(),trivial,h2,h3⟩
theorem Ic:ConOk Try.prog O6:=by
 intro k ds S A h
 unfold O6 at h
 split at h
 ·split at h
  ·injection h with h;subst h
   exact Ea fun ⟨h1,h2⟩=>⟨Bq _,Cm (us:=[isl (BD _ _) .any,_]) ⟨(Ca h1).1,Eu _,trivial⟩ (Beq _ _ (by rw[CY];exact h2))⟩
  ·cases h
 ·split at h
  ·injection h with h;subst h
   exact Ea fun ⟨h1,h2⟩=>⟨Bq _,Cm (us:=[isl (BD _ _) .any,_]) ⟨(Ca h1).1,Eu _,trivial⟩ (BdT _ (by rw[CY];exact h2))⟩
  ·cases h
 ·split at h
  ·injection h with h;subst h
   exact Ea fun h1=>⟨Bq _,Cm (Ca h1) (Oj _)⟩
  ·cases h
 ·split at h
  ·injection h with h;subst h
   exact Ea fun ⟨h1,h2,h3⟩=>⟨Bq _,Cm (Ca h1) (BcG _ h2 (by rw[CY];exact h3))⟩
  ·cases h
 ·exact Bda _ _ _ _ h
noncomputable def Eprod(l:List Int):Senv:={ EC O6 19 1 [2,3,5,7,8,9,10,11] (fun _=>([],[])) with
 ann:=fun b _ _=>match b with
  |0=>some { slots:=[10,3],keep:=[8,9],α:=Nat×Int,st:=fun y=>([.int .i64 y.1,.int .i64 y.2],⟨[],[]⟩),inv:=fun y=>GoHead l y.1 y.2,mu:=fun y=>l.length-y.1 }
  |_=>none }
def QgQ(a:List Int):D:=SI a
theorem BcP(l:List Int)(h:Bt l=true):ACalls Try.prog 52 [isl l .any] ⟨[],[]⟩ (SpecR (sC [isl l .any] (.int .i64 (BW l))) ()):=by
 refine Bg (A:=sC _ _) (x:=()) (E:=Eprod l) (eOk Ic rfl) Try.func52 rfl (by kernel_rfl) rfl (by simp[sC,Eprod,EC,E0]) ?_
 refine Bl (T :=
  ((IntsP (LN l) fun i=>[ZI (GI l i)])/\LN l<=9223372036854775807)/\∀(y:Unit),True->True/\ifB (decide (Z0<=Gg (fun (d:Int)=>Z0==d) (BD (LN l) fun i=>[ZI (GI l i)]) N0)) (RT (Z0=BW l)) ((∃(x:Nat×Int),GoHead l x.1 x.2/\(Z0=(NI x.1)/\Z1=x.2/\True)/\True/\True)/\∀(x:Nat×Int),GoHead l x.1 x.2->ifB (decide ((NI x.1)<(LI l))) (Bd (Z0<=(NI x.1)/\(NI x.1)<(LI l)) ((SM (QgQ l)/\SM (ZI (LI l))/\True)/\∃(y:Nat×Int),GoHead l y.1 y.2/\LN l-y.1<LN l-x.1/\(IntKind.wrap IntKind.i64 ((NI x.1)+Z1)=(NI y.1)/\IntKind.wrap IntKind.i64 (x.2*GI l (TN x.1))=y.2/\True)/\True/\True)) (RT (x.2=BW l)))) (by kernel_rfl) ?_
 delta GI LI LN N0 N1 NI SI SM TN Z0 Z1 ZI QgQ RT
 simp only[Cs,Of,Int.toNat_natCast,Bh,Bc,decide_eq_true_eq,decide_eq_false_iff_not,true_and,and_true,exists_const]
 simp only[Bt,Bool.and_eq_true,decide_eq_true_eq] at h
 have hcon:(l.any fun d=>0==d)=l.contains 0:=by
  rw[Bool.eq_iff_iff,List.contains_iff_mem,List.any_eq_true]
  constructor
  ·rintro ⟨z,hz,e⟩
   have e:0=z:=by simpa using e
   rw[e];exact hz
  ·exact fun hm=>⟨0,hm,rfl⟩
 rw[hcon]
 refine⟨⟨BK l,by omega⟩,fun _ _=>⟨fun hz=>by rw[BW,if_pos hz],fun hz=>⟨⟨(0,1),GoHead.init l,rfl,rfl⟩,?_⟩⟩⟩
 rintro ⟨i,p⟩ hh
 simp only at hh ⊢
 refine⟨fun hlt=>?_,fun hge=>by rw[BW,if_neg (by rw[hz];exact Bool.false_ne_true),hh.done hge];rfl⟩
 have hlt':i<l.length:=by omega
 obtain ⟨s1,s2,s3,s4⟩:=hh.step hlt'
 have hne:l.getD i 0≠0:=by
  intro e
  have:l.contains 0=true:=by
   rw[List.contains_iff_mem,<- e,List.getD_eq_getElem?_getD,List.getElem?_eq_getElem hlt'];exact List.getElem_mem hlt'
  rw[this] at hz;cases hz
 have n1:¬l.getD i 0<0:=fun e=>by rw[s1 e] at h;exact absurd h.2 (by simp)
 have n2:¬65536<l.getD i 0:=fun e=>by rw[s2 e] at h;exact absurd h.2 (by simp)
 obtain ⟨b1,b2,s5,s6⟩:=s4 n1 n2
 have n3:¬65536<p*l.getD i 0:=fun e=>by rw[s5 e hne] at h;exact absurd h.2 (by simp)
 exact⟨by omega,(i+1,p*l.getD i 0),s6 n3 hne,by simp only;omega,Bb (by omega) (by omega),Bb (by omega) (by omega)⟩
noncomputable def Edims(l:List Int):Senv:={ EC O6 21 1 [2,3,6,10,17,20] (fun _=>([],[])) with
 ann:=fun b _ _=>match b with
  |0=>some { slots:=[3],keep:=[0],α:=Nat,st:=fun i=>([.int .i64 i],⟨[],[]⟩),inv:=fun i=>i<=l.length/\∀z∈l.take i,0<=z,mu:=fun i=>l.length-i }
  |_=>none }
theorem Tr:∀(l:List Int) (p:Int),p<=65536->∀q,goO l p=some q->q<=65536
 | [],p,hp,q,h=>by rw[goO] at h;injection h with h;omega
 |d::r,p,hp,q,h=>by
  rw[goO] at h
  split at h
  ·cases h
  ·split at h
   ·exact Tr r p hp q h
   ·split at h
    ·cases h
    ·exact Tr r _ (by omega) q h
def B1(s:List Int):Int:=if 8<s.length then 15 else if s.any (fun d=>decide (d<0)) then 16 else if (goO s 1).isSome then 0 else 21
def JA(a:List Int):Int:=B1 a
def XE(a:Nat)(b:List Int):Prop:=a<=LN b/\∀(z:Int),z∈List.take a b->Z0<=z
def QgR(a:List Int):D:=SI a
def Hj(a:List Int):List Int:=BD (LN a) fun i=>[ZI (GI a i)]
theorem Bdd(l:List Int):ACalls Try.prog 60 [isl l .any] ⟨[],[]⟩ (SpecR (sC [isl l .any] (.int .i64 (B1 l))) ()):=by
 refine Bg (A:=sC _ _) (x:=()) (E:=Edims l) (eOk Ic rfl) Try.func60 rfl (by kernel_rfl) rfl (by simp[sC,Edims,EC,E0]) ?_
 refine Bl (T :=
  ifB (decide ((8:Int)<(LI l))) (RT ((15:Int)=JA l)) ((∃(x:Nat),XE x l/\(Z0=(↑x:Int)/\True)/\True/\True)/\∀(x:Nat),XE x l->ifB (decide ((↑x:Int)<(LI l))) (Bd (Z0<=(↑x:Int)/\(↑x:Int)<(LI l)) (ifB (decide (GI l (Int.toNat (↑x:Int))<Z0)) (RT ((16:Int)=JA l)) ((SM (QgR l)/\True)/\∃(y:Nat),XE y l/\LN l-y<LN l-x/\(IntKind.wrap IntKind.i64 ((↑x:Int)+Z1)=(↑y:Int)/\True)/\True/\True))) (((IntsP (LN l) fun i=>[ZI (GI l i)])/\(∀(z:Int),z∈Hj l->Z0<=z)/\LN l<=9223372036854775807)/\∀(y:Unit),True->ifB (decide ((65536:Int)<Option.getD (goO (Hj l) Z1) (65537:Int))) (RT ((21:Int)=JA l)) (RT (Z0=JA l))))) (by kernel_rfl) ?_
 delta GI LI LN N1 SI SM Z0 Z1 ZI JA XE QgR Hj RT
 simp only[Cs,Int.toNat_natCast,Bh,Bc,decide_eq_true_eq,decide_eq_false_iff_not,true_and,and_true,exists_const]
 have tk:∀i,i<l.length->∀P:Int->Prop,(∀z∈l.take i,P z)->P (l.getD i 0)->∀z∈l.take (i+1),P z:=fun i hi P h1 h2 z hz=>by
  rw[List.take_add_one,List.mem_append] at hz
  rcases hz with hz | hz
  ·exact h1 z hz
  ·rw[List.getElem?_eq_getElem hi] at hz
   simp at hz
   rw[hz]
   simpa[List.getD_eq_getElem?_getD,hi] using h2
 refine⟨fun h=>?_,fun h8=>⟨⟨0,⟨Nat.zero_le _,by simp⟩,rfl⟩,fun i hh=>⟨fun hlt=>?_,fun hge=>?_⟩⟩⟩
 ·have:8<l.length:=by omega
  simp[B1,this]
 ·have hlt':i<l.length:=by omega
  have h8':¬8<l.length:=by omega
  refine⟨by omega,fun h=>?_,fun h=>⟨i+1,⟨by omega,tk i hlt' _ hh.2 (by omega)⟩,by omega,Bb (by omega) (by omega)⟩⟩
  have:l.any (fun d=>decide (d<0))=true:=by
   rw[List.any_eq_true]
   refine⟨l.getD i 0,?_,decide_eq_true h⟩
   rw[List.getD_eq_getElem?_getD,List.getElem?_eq_getElem hlt'];exact List.getElem_mem hlt'
  rw[B1,if_neg h8',if_pos this]
 ·have hi:i=l.length:=by omega
  rw[hi,List.take_length] at hh
  have h8':¬8<l.length:=by omega
  have hnn:¬l.any (fun d=>decide (d<0))=true:=by
   rw[List.any_eq_true]
   rintro ⟨z,hz,h⟩
   have:=hh.2 z hz
   simp at h
   omega
  refine⟨⟨BK l,hh.2,by omega⟩,fun _ _=>?_⟩
  rw[B1,if_neg h8',if_neg hnn]
  have hb:=Tr l 1 (by omega)
  cases hg:goO l 1 with
  |none=>simp
  |some p=>have:=hb p hg;simp;omega
noncomputable def Ecount(l:List Int):Senv:={ EC O6 17 1 [2,3,7,14] (fun _=>([],[])) with
 ann:=fun b _ _=>match b with
  |0=>some { slots:=[3],keep:=[0],α:=Nat,st:=fun i=>([.int .i64 i],⟨[],[]⟩),inv:=fun i=>i<=l.length/\∀z∈l.take i,z≠0,mu:=fun i=>l.length-i }
  |_=>none }
def XF(a:Nat)(b:List Int):Prop:=a<=LN b/\∀(z:Int),z∈List.take a b->z≠Z0
def QgS(a:List Int):D:=SI a
def Hk(a:List Int):List Int:=BD (LN a) fun i=>[ZI (GI a i)]
theorem BbA(l:List Int)(h:B1 l=0):ACalls Try.prog 61 [isl l .any] ⟨[],[]⟩ (SpecR (sC [isl l .any] (.int .i64 (BW l))) ()):=by
 refine Bg (A:=sC _ _) (x:=()) (E:=Ecount l) (eOk Ic rfl) Try.func61 rfl (by kernel_rfl) rfl (by simp[sC,Ecount,EC,E0]) ?_
 refine Bl (T :=
  (∃(x:Nat),XF x l/\(Z0=(↑x:Int)/\True)/\True/\True)/\∀(x:Nat),XF x l->ifB (decide ((↑x:Int)<(LI l))) (Bd (Z0<=(↑x:Int)/\(↑x:Int)<(LI l)) (ifB (GI l (Int.toNat (↑x:Int))==Z0) (RT (Z0=BW l)) ((SM (QgS l)/\True)/\∃(y:Nat),XF y l/\LN l-y<LN l-x/\(IntKind.wrap IntKind.i64 ((↑x:Int)+Z1)=(↑y:Int)/\True)/\True/\True))) (((IntsP (LN l) fun i=>[ZI (GI l i)])/\(∀(z:Int),z∈Hk l->Z0<=z)/\LN l<=9223372036854775807)/\∀(y:Unit),True->RT (Option.getD (goO (Hk l) Z1) (65537:Int)=BW l))) (by kernel_rfl) ?_
 delta GI LI LN N1 SI SM Z0 Z1 ZI XF QgS Hk RT
 simp only[Cs,Int.toNat_natCast,Bh,Bc,decide_eq_true_eq,decide_eq_false_iff_not,true_and,and_true,exists_const]
 have tk:∀i,i<l.length->∀P:Int->Prop,(∀z∈l.take i,P z)->P (l.getD i 0)->∀z∈l.take (i+1),P z:=fun i hi P h1 h2 z hz=>by
  rw[List.take_add_one,List.mem_append] at hz
  rcases hz with hz | hz
  ·exact h1 z hz
  ·rw[List.getElem?_eq_getElem hi] at hz
   simp at hz
   rw[hz]
   simpa[List.getD_eq_getElem?_getD,hi] using h2
 have hl8:l.length<=8:=by
  unfold B1 at h
  split at h
  ·cases h
  ·omega
 have hnn:∀z∈l,0<=z:=by
  intro z hz
  unfold B1 at h
  split at h
  ·cases h
  ·split at h
   ·cases h
   ·rename_i hn
    rw[List.any_eq_true] at hn
    by_cases h0:z<0
    ·exact (hn ⟨z,hz,decide_eq_true h0⟩).elim
    ·omega
 have hg:(goO l 1).isSome=true:=by
  unfold B1 at h
  (repeat' split at h)<;>first | assumption | (cases h;done)
 refine⟨⟨0,⟨Nat.zero_le _,by simp⟩,rfl⟩,fun i hh=>⟨fun hlt=>?_,fun hge=>?_⟩⟩
 ·have hlt':i<l.length:=by omega
  refine⟨by omega,fun h=>?_,fun h=>⟨i+1,⟨by omega,tk i hlt' _ hh.2 (by simpa using h)⟩,by omega,Bb (by omega) (by omega)⟩⟩
  have h0:l.getD i 0=0:=by simpa using h
  have:l.contains 0=true:=by
   rw[List.contains_iff_mem,<- h0,List.getD_eq_getElem?_getD,List.getElem?_eq_getElem hlt'];exact List.getElem_mem hlt'
  rw[BW,if_pos this]
 ·have hi:i=l.length:=by omega
  rw[hi,List.take_length] at hh
  refine⟨⟨BK l,hnn,by omega⟩,fun _ _=>?_⟩
  have:¬l.contains 0=true:=by
   rw[List.contains_iff_mem]
   exact fun hm=>hh.2 0 hm rfl
  rw[BW,if_neg this]
  cases hgo:goO l 1 with
  |none=>rw[hgo] at hg;cases hg
  |some p=>rfl
def Bz(k:Int)(s:List Int)(nn ni:Nat):Int :=
 if k=1\/k=2\/k=3 then
  if B1 s≠0 then B1 s
  else if ((if k=3 then (ni:Int) else nn)≠BW s)\/((if k=3 then (nn:Int) else ni)≠0) then 16 else 0
 else 14
def O1:Con:=fun k ds S=>match k with
 |52=>match ds with
  | [.sl 1 n f _]=>some (pC ds (.int .i64 (BW (BD n f))) (IntsP n f/\Bt (BD n f)=true))
  |_=>none
 |60=>match ds with
  | [.sl 1 n f _]=>some (pC ds (.int .i64 (B1 (BD n f))) (IntsP n f))
  |_=>none
 |61=>match ds with
  | [.sl 1 n f _]=>some (pC ds (.int .i64 (BW (BD n f))) (IntsP n f/\B1 (BD n f)=0))
  |_=>none
 |k=>O6 k ds S
theorem Is:ConOk Try.prog O1:=by
 intro k ds S A h
 unfold O1 at h
 split at h
 ·split at h
  ·injection h with h;subst h
   exact Ea fun ⟨h1,h2⟩=>⟨Bq _,Cm (Ca h1) (BcP _ h2)⟩
  ·cases h
 ·split at h
  ·injection h with h;subst h
   exact Ea fun h1=>⟨Bq _,Cm (Ca h1) (Bdd _)⟩
  ·cases h
 ·split at h
  ·injection h with h;subst h
   exact Ea fun ⟨h1,h2⟩=>⟨Bq _,Cm (Ca h1) (BbA _ h2)⟩
  ·cases h
 ·exact Ic _ _ _ _ h
noncomputable def Eform:Senv:=EC O1 44 5 [12,13,16,20,25,29,34] (fun id=>match id with | 1=>([0,1,2,3,4,5,6,7],[]) | _=>([],[]))
def Kt(a:List Int):Prop:=IntsP (LN a) fun i=>[ZI (GI a i)]
def Hl(a:List Int):Prop:=Kt a/\LN a<=9223372036854775807
def XG(a:List Int):List Int:=BD (LN a) fun i=>[ZI (GI a i)]
def Hm(a:List Int):Bool:=decide (Z0<=Gg (fun (d:Int)=>decide (d<Z0)) (XG a) N0)
def Q4(a:Int)(b:List Int)(c d:Nat):Prop:=True/\∃(_y:Unit),True/\(16:Int)=Bz a b c d/\True/\True
def Hn(a:List Int):Bool:=Bt (XG a)
def JB(a:List Int):Bool:=!Hn a
def Ho(a:Int)(b:List Int)(c d:Nat):Prop:=True/\Q4 a b c d
def Hp(a:List Int):Prop:=Kt a/\Hn a=true
def Hq(a:Nat)(b:List Int):Bool:=(↑a:Int) != BW (XG b)
def Hr(a:Nat)(b:List Int)(c:Int)(d e:Nat):Prop:=SM a/\ifB (decide ((8:Int)<(LI b))) (True/\∃(_y:Unit),True/\(15:Int)=Bz c b d e/\True/\True) (SM a/\Hl b/\∀(_y:Unit),True->True/\ifB (Hm b) (Q4 c b d e) (SM a/\Kt b/\∀(_y:Unit),True->ifB (JB b) (True/\∃(_y:Unit),True/\(21:Int)=Bz c b d e/\True/\True) (SM a/\Kt b/\∀(_y:Unit),True->ifB (JB b) (Ho c b d e) (Hp b/\∀(_y:Unit),True->True/\ifB (Hq d b) (Q4 c b d e) (ifB ((↑e:Int) != Z0) (Q4 c b d e) (True/\∃(_y:Unit),True/\Z0=Bz c b d e/\True/\True))))))
def Hs(a:Int)(b:Nat)(c:List Int)(d e:Nat):Prop:=ifB (a==3) (SM b/\ifB (decide ((8:Int)<(LI c))) (True/\∃(_y:Unit),True/\(15:Int)=Bz a c d e/\True/\True) (SM b/\Hl c/\∀(_y:Unit),True->True/\ifB (Hm c) (Q4 a c d e) (SM b/\Kt c/\∀(_y:Unit),True->ifB (JB c) (True/\∃(_y:Unit),True/\(21:Int)=Bz a c d e/\True/\True) (SM b/\Kt c/\∀(_y:Unit),True->ifB (JB c) (Ho a c d e) (Hp c/\∀(_y:Unit),True->True/\ifB (Hq e c) (Q4 a c d e) (ifB ((↑d:Int) != Z0) (Q4 a c d e) (True/\∃(_y:Unit),True/\Z0=Bz a c d e/\True/\True))))))) (True/\∃(_y:Unit),True/\(14:Int)=Bz a c d e/\True/\True)
theorem Bc5(k : Int)(s : List Int)(nn ni : Nat)(g h : Nat -> List D)(hs : s.length<=maxLen)(hn : nn<=maxLen)(hi : ni<=maxLen) :
  ACalls Try.prog 65 [.agg [.int .i64 k,isl s .any,.sl 1 nn g .any,.sl 4 ni h .any]] ⟨[],[]⟩ (SpecR (sC [.agg [.int .i64 k,isl s .any,.sl 1 nn g .any,.sl 4 ni h .any]] (.int .i64 (Bz k s nn ni))) ()):=by
 refine Bg (A:=sC _ _) (x:=()) (E:=Eform) (eOk Is rfl) Try.func65 rfl (by kernel_rfl) rfl (by simp[sC,Eform,EC,E0]) ?_
 refine Bl (T :=
  ∀(x:Nat),True->SM x/\SM x/\SM x/\ifB (k==Z1) (ifB (k==Z1) (Hr x s k nn ni) (Hs k x s nn ni)) (ifB (k==2) (Hr x s k nn ni) (Hs k x s nn ni))) (by kernel_rfl) ?_
 delta GI LI LN N0 SM Z0 Z1 ZI Kt Hl Hr Hs XG Hm Q4 Hn JB Ho Hp Hq
 simp only[Cs,Of,Bh,decide_eq_true_eq,decide_eq_false_iff_not,true_and,and_true,beq_iff_eq,bne_iff_ne,beq_eq_false_iff_ne,ne_eq,exists_const,forall_const]
 simp only[maxLen] at hs hn hi
 have n8:(8<(s.length:Int))↔8<s.length:=by omega
 simp only[n8]
 repeat' (first
  |exact BK s
  |refine And.intro ?_ ?_
  |intro _)
 all_goals first
  |omega
  |(simp_all[Bz,B1,Bt];done)
  |grind [Bz,B1,Bt]
  |skip
 all_goals trace_state
def Arr.k:Arr->Int | .mk k _ _ _=>k
def Arr.sh:Arr->List Int | .mk _ s _ _=>s
def Arr.nu:Arr->List Int | .mk _ _ n _=>n
def Arr.it:Arr->List Arr | .mk _ _ _ i=>i
def Arr.row1(a:Arr):List D:=[.int .i64 a.k,isl a.sh .any,isl a.nu .any,gsl 4 Arr.row a.it]
def Arr.row2(a:Arr):List D:=[.int .i64 a.k,isl a.sh .any,isl a.nu .any,gsl 4 Arr.row1 a.it]
theorem Rf(l:List Arr):(G9 l).length=l.length:=by rw[Cf];simp
theorem Bd3(a:Arr):wkL a.row a.row1:=by
 cases a with
 |mk k s n is =>
  simp only[Arr.row,Arr.row1,Arr.k,Arr.sh,Arr.nu,Arr.it,gsl,isl,wkL,wkD,Bp,Ba]
  refine⟨⟨by simp[kEq],trivial⟩,⟨by simp,trivial,fun i _=>by simp[kEq],by simp[BH]⟩,⟨by simp,trivial,fun i _=>by simp[kEq],by simp[BH]⟩,⟨by simp,Rf is,fun i hi=>?_,by simp[BH]⟩,trivial⟩
  rw[Rf] at hi
  have:(G9 is).getD i []=(is.getD i default).row:=by
   rw[Cf];simp[List.getD_eq_getElem?_getD,hi]
  rw[this]
  exact Be _
theorem CF(a:Arr):wkL a.row1 a.row2:=by
 simp only[Arr.row1,Arr.row2,gsl,isl,wkL,wkD,Bp,Ba]
 exact⟨⟨by simp[kEq],trivial⟩,⟨by simp,trivial,fun i _=>by simp[kEq],by simp[BH]⟩,⟨by simp,trivial,fun i _=>by simp[kEq],by simp[BH]⟩,⟨by simp,trivial,fun i _=>Bd3 _,by simp[BH]⟩,trivial⟩
def M9(z:Int):Bool:=decide (-4611686018427387903<=z)&&decide (z<=4611686018427387903)
def T7(z:Int):Bool:=decide (0<=z)&&decide (z<=1114111)&&(decide (z<55296)||decide (57343<z))
def CJ(k z:Int):Bool:=(k==1&&!M9 z)||(k==2&&!T7 z)
mutual
def Bj:Arr->Int×Int×Int
 |.mk k s n is =>
  if Bz k s n.length is.length≠0 then (Bz k s n.length is.length,0,0)
  else if n.any (CJ k) then (17,0,0)
  else match BS is 0 ((n.length:Int)+is.length) with
   |none=>(17,0,0)
   |some r=>if 16<r.1\/262144<r.2 then (21,0,0) else (0,r.1,r.2)
def BS:List Arr->Int->Int->Option (Int×Int)
 | [],d,w=>some (d,w)
 |x::r,d,w=>if (Bj x).1≠0 then none else BS r (if d<(Bj x).2.1+1 then (Bj x).2.1+1 else d) (if 262145<w+(Bj x).2.2 then 262145 else w+(Bj x).2.2)
end
theorem Um:∀(l:List Arr) (d w d' w':Int),BS l d w=some (d',w')->0<=d->0<=w->(∀x∈l,(Bj x).1=0->0<=(Bj x).2.1/\0<=(Bj x).2.2)->0<=d'/\0<=w'
 | [],d,w,d',w',h,h1,h2,_=>by
  rw[BS] at h;injection h with h;injection h with e1 e2;omega
 |x::r,d,w,d',w',h,h1,h2,h3=>by
  rw[BS] at h
  split at h
  ·cases h
  ·rename_i hx
   have hx:(Bj x).1=0:=by simpa using hx
   have:=h3 x (by simp) hx
   refine Um r _ _ d' w' h ?_ ?_ fun y hy=>h3 y (by simp[hy])
   ·split<;>omega
   ·split<;>omega
theorem B6:∀(a:Arr),(0<=(Bj a).2.1/\(Bj a).2.1<=16)/\0<=(Bj a).2.2/\(Bj a).2.2<=262144
 |.mk k s n is=>by
  rw[Bj]
  split
  ·simp
  ·split
   ·simp
   ·split
    ·simp
    ·rename_i r hr
     split
     ·simp
     ·rename_i hb
      have:=Um is 0 _ r.1 r.2 hr (by omega) (by omega) fun x hx _=>by
       have:=B6 x
       omega
      simp only
      omega
termination_by a=>SizeOf.sizeOf a
decreasing_by
 have:=List.sizeOf_lt_of_mem hx
 simp;omega
noncomputable def Enum:Senv:=EC CM 9 1 [2] (fun _=>([],[]))
def XH(a:Int):Bool:=bif decide ((-4611686018427387903:Int)<=a) then decide (a<=4611686018427387903) else false
theorem Beh(z:Int):ACalls Try.prog 66 [.int .i64 z] ⟨[],[]⟩ (SpecR (sC [.int .i64 z] (.bool (M9 z))) ()):=by
 refine Bg (A:=sC _ _) (x:=()) (E:=Enum) (eOk By rfl) Try.func66 rfl (by kernel_rfl) rfl (by simp[sC,Enum,EC,E0]) ?_
 refine Bl (T :=
  ifB (decide ((-4611686018427387903:Int)<=z)) (decide (z<=4611686018427387903)=XH z/\True) (false=XH z/\True)/\RT (XH z=M9 z)) (by kernel_rfl) ?_
 delta XH RT
 simp only[Bh,decide_eq_true_eq,decide_eq_false_iff_not,true_and,and_true,Bool.cond_false_right,exists_const]
 refine⟨⟨fun h=>by rw[decide_eq_true h];rfl,fun h=>by rw[decide_eq_false h];rfl⟩,rfl⟩
noncomputable def Echr:Senv:=EC CM 17 1 [2] (fun _=>([],[]))
def JC(a:Int):Bool:=bif bif decide (Z0<=a) then decide (a<=1114111) else false then bif decide (a<55296) then true else decide ((57343:Int)<a) else false
def Ht(a:Int):Prop:=false=JC a/\True
theorem Bd9(z:Int):ACalls Try.prog 67 [.int .i64 z] ⟨[],[]⟩ (SpecR (sC [.int .i64 z] (.bool (T7 z))) ()):=by
 refine Bg (A:=sC _ _) (x:=()) (E:=Echr) (eOk By rfl) Try.func67 rfl (by kernel_rfl) rfl (by simp[sC,Echr,EC,E0]) ?_
 refine Bl (T :=
  ifB (decide (Z0<=z)) (ifB (decide (z<=1114111)) (ifB (decide (z<55296)) (true=JC z/\True) (decide ((57343:Int)<z)=JC z/\True)) (Ht z)) (Ht z)/\RT (JC z=T7 z)) (by kernel_rfl) ?_
 delta Z0 JC Ht RT
 simp only[Bh,decide_eq_true_eq,decide_eq_false_iff_not,true_and,and_true,Bool.cond_false_right,Bool.cond_true_left,exists_const]
 refine⟨⟨fun h1=>⟨fun h2=>⟨fun h3=>by simp[h1,h2,h3],fun h3=>by simp[h1,h2,h3]⟩,fun h2=>by simp[h1,h2]⟩,fun h1=>by simp[h1]⟩,rfl⟩
def EO(row:Arr->List D)(xb:Nat)(q:Arr->Prop):FnSpec where
 β:=Arr
 α:=Unit
 args:=fun a=>[.agg (row a),.ref 1 xb 0]
 st:=fun _=>⟨[(1,xb,.cells [.fn (.func 64) [] [.ref 1 xb 0]])],[]⟩
 pre:=q
 post:=fun _ _=>True
 res:=fun a _=>.ret (.tup [.int .i64 (Bj a).1,.int .i64 (Bj a).2.1,.int .i64 (Bj a).2.2])
 out:=fun _ _=>⟨[(1,xb,.cells [.fn (.func 64) [] [.ref 1 xb 0]])],[]⟩
def Wi(xb:Nat)(its:List Arr):Con:=fun k ds S=>match k with
 |64=>some (EO Arr.row1 xb (fun b=>b∈its))
 |65=>match ds with
  | [.agg [.int .i64 k,.sl 1 n f _,.sl 1 nn _g _,.sl 4 ni _h _]]=>some (pC ds (.int .i64 (Bz k (BD n f) nn ni)) (IntsP n f/\n<=maxLen/\nn<=maxLen/\ni<=maxLen))
  |_=>none
 |66=>match ds with
  | [.int .i64 z]=>some (pC [.int .i64 z] (.bool (M9 z)) True)
  |_=>none
 |67=>match ds with
  | [.int .i64 z]=>some (pC [.int .i64 z] (.bool (T7 z)) True)
  |_=>none
 |k=>O1 k ds S
theorem Bae{xb:Nat}{its:List Arr}(ih:∀b∈its,ACalls Try.prog 64 ((EO Arr.row2 xb (fun _=>True)).args b) ((EO Arr.row2 xb (fun _=>True)).st b) (SpecR (EO Arr.row2 xb (fun _=>True)) b)):ConOk Try.prog (Wi xb its):=by
 intro k ds S A h
 unfold Wi at h
 split at h
 ·injection h with h;subst h
  refine ConOk.plain (fun b hb=>?_) rfl rfl
  refine ((ih b hb).wkArgs ?_).mono fun _ _ ⟨y,h1,h2,h3⟩=>⟨y,h1,h2,h3⟩
  simp only[EO,wkL,wkD]
  exact⟨CF b,by simp[Bp,Ba]⟩
 ·split at h
  ·rename_i k n f _ nn g _ ni g' _
   injection h with h;subst h
   refine Ea fun ⟨h1,h2,h3,h4⟩=>⟨Bq _,Cm (us:=[.agg [.int .i64 k,isl (BD n f) .any,.sl 1 nn g .any,.sl 4 ni g' .any]]) ?_ (Bc5 _ _ _ _ _ _ (by rw[CY];exact h2) h3 h4)⟩
   refine⟨?_,trivial⟩
   simp only[Bp,Bo]
   refine⟨by simp[Ba,kEq],(Ca h1).1,?_,?_,trivial⟩
   ·simp[Ba,BH]
   ·simp[Ba,BH]
  ·cases h
 ·split at h
  ·injection h with h;subst h
   exact Ea fun _=>⟨Bq _,Beh _⟩
  ·cases h
 ·split at h
  ·injection h with h;subst h
   exact Ea fun _=>⟨Bq _,Bd9 _⟩
  ·cases h
 ·exact Is _ _ _ _ h
theorem TQ(a : Arr) : Bj a=if Bz a.k a.sh a.nu.length a.it.length≠0 then (Bz a.k a.sh a.nu.length a.it.length, 0, 0)
  else if a.nu.any (CJ a.k) then (17,0,0)
  else match BS a.it 0 ((a.nu.length:Int)+a.it.length) with
   |none=>(17,0,0)
   |some r=>if 16<r.1\/262144<r.2 then (21,0,0) else (0,r.1,r.2):=by
 cases a with
 |mk k s n is=>rw[Bj];rfl
theorem Bbp{s:List Int}:BW s<=65536:=by
 unfold BW
 split
 ·omega
 ·cases hg:goO s 1 with
  |none=>simp
  |some p=>have:=Tr s 1 (by omega) p hg;simpa using this
theorem Er{k:Int}{s:List Int}{nn ni:Nat}(h:Bz k s nn ni=0):nn<=65536/\ni<=65536:=by
 have hs:=Bbp (s:=s)
 unfold Bz at h
 by_cases hk:k=1\/k=2\/k=3
 ·rw[if_pos hk] at h
  by_cases hd:B1 s≠0
  ·rw[if_pos hd] at h;exact (hd h).elim
  ·rw[if_neg hd] at h
   by_cases hc:((if k=3 then (ni:Int) else nn)≠BW s)\/((if k=3 then (nn:Int) else ni)≠0)
   ·rw[if_pos hc] at h;omega
   ·simp only[not_or,ne_eq,Decidable.not_not] at hc
    obtain ⟨c1,c2⟩:=hc
    by_cases k3:k=3<;>simp only[k3,if_true,if_false] at c1 c2<;>omega
 ·rw[if_neg hk] at h;omega
theorem CC{α:Type}[Inhabited α]{l:List α}{i:Nat}(h:i<l.length):l.getD i default∈l:=by
 rw[List.getD_eq_getElem?_getD,List.getElem?_eq_getElem h];exact List.getElem_mem h
def cutV(k:Int)(d8:D)(S:St):Option LoopAnn :=
 match d8 with
 |.int _ z=>some { slots:=[45],keep:=[],α:=Unit,st:=fun _=>([.bool (CJ k z)],S),inv:=fun _=>True,mu:=fun _=>0 }
 |_=>none
noncomputable def Evis(xb:Nat)(a:Arr):Senv:={ EC (Wi xb a.it) 87 7 [8,9,10,12,13,14,15,19,22,23,24,25,45,55,56,57,58,69,84] (fun id=>match id with | 10=>([0,1,2,3,4,5,6,7,8],[]) | _=>([],[])) with
 cut:=fun id env S=>match id with
  |7=>cutV a.k (Ab.look env 8) S
  |_=>none
 ann:=fun b _ S=>match b with
  |0=>some { slots:=[24],keep:=[0,1,2,22,23],α:=Nat,st:=fun i=>([.int .i64 i],S),inv:=fun i=>i<=a.nu.length/\∀z∈a.nu.take i,CJ a.k z=false,mu:=fun i=>a.nu.length-i }
  |2=>some { slots:=[57,9,10],keep:=[0,1,2,55,56],α:=Nat×Int×Int,st:=fun y=>([.int .i64 y.1,.int .i64 y.2.1,.int .i64 y.2.2],S),inv:=fun y=>y.1<=a.it.length/\0<=y.2.1/\y.2.1<=17/\0<=y.2.2/\y.2.2<=262145/\BS (a.it.drop y.1) y.2.1 y.2.2=BS a.it 0 ((a.nu.length:Int)+a.it.length),mu:=fun y=>a.it.length-y.1 }
  |_=>none }
def Q5(a:Arr):Nat:=LN (Arr.sh a)
def KO(a:Arr)(b:Nat):List D:=[ZI (GI (Arr.sh a) b)]
def JD(a:Arr):List Int:=Arr.nu a
def QB(a:Arr):Nat:=LN (JD a)
def Ku(a:Arr):List Arr:=Arr.it a
def QC(a:Arr):Nat:=LN (Ku a)
def QO(a:Arr):Int:=Arr.k a
def Hu(a:Arr):Int:=Bz (QO a) (BD (Q5 a) fun i=>KO a i) (QB a) (QC a)
def KP(a:Arr):Int:=Prod.fst (Bj a)
def XI(a:Arr):Prop:=Z0=Prod.fst (Prod.snd (Bj a))/\Z0=Prod.snd (Prod.snd (Bj a))/\True
def Hv(a:Nat):Prop:=SM a/\(SM (D.fn (Fn.func (64:Nat)) [] [D.ref N1 a N0])/\True)/\True
def KQ(a:Nat):Prop:=Hv a/\True
def XJ(a:Nat)(b:Arr):Prop:=a<=QB b/\∀(z:Int),z∈List.take a (JD b)->CJ (QO b) z=false
def XK(a:Arr)(b:Nat):List D:=[ZI (GI (JD a) b)]
def JE:Arr:=DA
def KR(a:Arr)(b:Nat):Arr:=List.getD (Ku a) b JE
def QgT(a:Arr)(b:Nat):List Int:=Arr.sh (KR a b)
def QgU(a:Arr)(b:Nat):List Int:=Arr.nu (KR a b)
def Hw(a:Arr)(b:Nat):List Arr:=Arr.it (KR a b)
def Hx(a:Arr)(b:Nat):List D:=[ZI (Arr.k (KR a b)),SI (QgT a b),SI (QgU a b),D.sl N4 (LN (Hw a b)) (fun i=>Arr.row (List.getD (Hw a b) i JE)) Mode.any]
def Q6(a:Nat)(b:Arr)(c:Nat):Prop:=(SM a/\(SM (QO b)/\(SM (Q5 b)/\(∀(i:Nat),i<Q5 b->SM (KO b i))/\True)/\(SM (QB b)/\(∀(i:Nat),i<QB b->SM (XK b i))/\True)/\(SM (QC b)/\(∀(i:Nat),i<QC b->SM (Hx b i))/\True)/\True)/\Hv c)/\True
def JF(a:Arr):Int:=(NI (QB a))
def XL(a:Arr)(b:Nat):Int:=GI (JD a) (Int.toNat (↑b:Int))
def JG(a:Arr)(b:Nat):Bool:=CJ (QO a) (XL a b)
def Hy(a:Nat)(b:Arr)(c d:Nat):Prop:=SM a/\ifB (QO b==2) (True/\∀(_y:Unit),True->∃(_x:Unit),True/\((!T7 (XL b c))=JG b c/\True)/\Q6 a b d) (∃(_x:Unit),True/\(false=JG b c/\True)/\Q6 a b d)
def Hz(a:Arr)(b:Nat):Prop:=True/\∃(_y:Unit),True/\((17:Int)=KP a/\XI a)/\KQ b
def HA(a:Arr):D:=D.sl N1 (QB a) (fun i=>XK a i) Mode.any
def HB(a:Arr):D:=D.sl N4 (QC a) (fun i=>Hx a i) Mode.any
def QgV(a:Arr):D:=D.agg [ZI (QO a),D.sl N1 (Q5 a) (fun i=>KO a i) Mode.any,HA a,HB a]
def HC(a:Arr):Prop:=SM (QgV a)
def JH(a:Arr):Int:=(NI (QC a))
def HD(a:Arr):Int:=JF a+JH a
def XM(a:Nat)(b:Arr)(c d:Int):Prop:=a<=QC b/\Z0<=c/\c<=17/\Z0<=d/\d<=262145/\BS (List.drop a (Ku b)) c d=BS (Ku b) Z0 (HD b)
def JI(a:Arr)(b:Nat):Arr:=List.getD (Ku a) (Int.toNat (↑b:Int)) JE
def HE(a:Arr)(b:Nat):List Int:=Arr.sh (JI a b)
def HF(a:Arr)(b:Nat):Nat:=LN (HE a b)
def HG(a:Arr)(b:Nat):List Int:=Arr.nu (JI a b)
def HH(a:Arr)(b:Nat):Nat:=LN (HG a b)
def HI(a:Arr)(b:Nat):List Arr:=Arr.it (JI a b)
def HJ(a:Arr)(b:Nat):Nat:=LN (HI a b)
def XN(a b:Int):Bool:=bif decide ((16:Int)<a) then true else decide ((262144:Int)<b)
theorem Bb3(xb : Nat)(a : Arr)(ha : a.nu.length<=maxLen /\ a.it.length<=maxLen /\ a.sh.length<=maxLen)(ih : ∀b∈a.it, ACalls Try.prog 64 ((EO Arr.row2 xb (fun _=>True)).args b) ((EO Arr.row2 xb (fun _=>True)).st b) (SpecR (EO Arr.row2 xb (fun _=>True)) b)) :
  ACalls Try.prog 64 ((EO Arr.row2 xb (fun _=>True)).args a) ((EO Arr.row2 xb (fun _=>True)).st a) (SpecR (EO Arr.row2 xb (fun _=>True)) a):=by
 refine Bg (A:=EO Arr.row2 xb (fun _=>True)) (x:=a) (E:=Evis xb a) (eOk (Bae ih) rfl) Try.func64 rfl (by kernel_rfl) rfl (by simp[EO,Evis,EC,E0]) ?_
 refine Bl (T :=
  ∀(x:Nat),xb≠x/\True->SM x/\((IntsP (Q5 a) fun i=>KO a i)/\Q5 a<=9223372036854775807/\QB a<=9223372036854775807/\QC a<=9223372036854775807)/\∀(y:Unit),True->ifB (Hu a != Z0) (True/\∃(y:Unit),True/\(Hu a=KP a/\XI a)/\KQ xb) (SM x/\(∃(x_1:Nat),XJ x_1 a/\(Z0=(↑x_1:Int)/\True)/\Q6 x a xb)/\∀(x_1:Nat),XJ x_1 a->ifB (decide ((↑x_1:Int)<JF a)) (Bd (Z0<=(↑x_1:Int)/\(↑x_1:Int)<JF a) ((SM x/\ifB (QO a==Z1) (True/\∀(y:Unit),True->ifB (!M9 (XL a x_1)) (∃(x_2:Unit),True/\(true=JG a x_1/\True)/\Q6 x a xb) (Hy x a x_1 xb)) (Hy x a x_1 xb))/\∀(x_2:Unit),True->ifB (JG a x_1) (Hz a xb) ((HC a/\SM (D.ref N1 xb N0)/\SM (D.ref N2 x N0)/\SM (HA a)/\SM (ZI (JF a))/\True)/\∃(y:Nat),XJ y a/\QB a-y<QB a-x_1/\(IntKind.wrap IntKind.i64 ((↑x_1:Int)+Z1)=(↑y:Int)/\True)/\Q6 x a xb))) (SM x/\SM x/\SM x/\(∃(x_2:Nat×Int×Int),XM x_2.1 a x_2.2.1 x_2.2.2/\(Z0=(NI x_2.1)/\Z0=x_2.2.1/\IntKind.wrap IntKind.i64 (HD a)=x_2.2.2/\True)/\Q6 x a xb)/\∀(x_2:Nat×Int×Int),XM x_2.1 a x_2.2.1 x_2.2.2->ifB (decide ((NI x_2.1)<JH a)) (Bd (Z0<=(NI x_2.1)/\(NI x_2.1)<JH a) (∀(x_3:Nat),x≠x_3/\xb≠x_3/\True->SM x_3/\SM xb/\SM x_3/\∃(x_4:Arr),((Arr.k (JI a x_2.1)=QO x_4/\(HF a x_2.1=Q5 x_4/\(∀(i:Nat),i<HF a x_2.1->[ZI (GI (HE a x_2.1) i)]=KO x_4 i)/\True)/\(HH a x_2.1=QB x_4/\(∀(i:Nat),i<HH a x_2.1->[ZI (GI (HG a x_2.1) i)]=XK x_4 i)/\True)/\(HJ a x_2.1=QC x_4/\(∀(i:Nat),i<HJ a x_2.1->Arr.row (List.getD (HI a x_2.1) i JE)=Arr.row (KR x_4 i))/\True)/\True)/\SM xb/\True)/\KQ xb/\x_4∈Ku a/\∀(y:Unit),True->ifB (KP x_4 != Z0) (Hz a xb) ((HC a/\SM (D.ref N1 xb N0)/\SM (D.ref N2 x N0)/\SM (HB a)/\SM (ZI (JH a))/\True)/\∃(y:Nat×Int×Int),XM y.1 a y.2.1 y.2.2/\QC a-y.1<QC a-x_2.1/\(IntKind.wrap IntKind.i64 ((NI x_2.1)+Z1)=(NI y.1)/\(if x_2.2.1<IntKind.wrap IntKind.i64 (Prod.fst (Prod.snd (Bj x_4))+Z1) then IntKind.wrap IntKind.i64 (Prod.fst (Prod.snd (Bj x_4))+Z1) else x_2.2.1)=y.2.1/\(if (262145:Int)<IntKind.wrap IntKind.i64 (x_2.2.2+Prod.snd (Prod.snd (Bj x_4))) then (262145:Int) else IntKind.wrap IntKind.i64 (x_2.2.2+Prod.snd (Prod.snd (Bj x_4))))=y.2.2/\True)/\Q6 x a xb))) (ifB (decide ((16:Int)<x_2.2.1)) (true=XN x_2.2.1 x_2.2.2/\True) (decide ((262144:Int)<x_2.2.2)=XN x_2.2.1 x_2.2.2/\True)/\ifB (XN x_2.2.1 x_2.2.2) (True/\∃(y:Unit),True/\((21:Int)=KP a/\XI a)/\KQ xb) (True/\∃(y:Unit),True/\(Z0=KP a/\x_2.2.1=Prod.fst (Prod.snd (Bj a))/\x_2.2.2=Prod.snd (Prod.snd (Bj a))/\True)/\KQ xb))))) (by kernel_rfl) ?_
 delta DA GI LN N0 N1 N2 N4 NI SI SM Z0 Z1 ZI Hu KP XI Hv KQ XJ XK JE KR QgT QgU Hw Hx Q6 JF XL JG Hy Hz HA Q5 HB QgV HC JH HD XM JI HE HF HG KO HH HI HJ XN JD QB Ku QC QO
 have da:(default:Arr)=Arr.mk 0 [] [] []:=rfl
 simp only[<- da,Cs,Int.toNat_natCast,Bh,Bc,decide_eq_true_eq,decide_eq_false_iff_not,true_and,and_true,beq_iff_eq,bne_iff_ne,Bool.cond_true_left,beq_eq_false_iff_ne,ne_eq,exists_const,forall_const]
 intro x _
 have hA:=TQ a
 obtain ⟨l1,l2,l3⟩:=ha
 have tt:(∀i:Nat,i<a.sh.length->True)/\(∀i:Nat,i<a.nu.length->True)/\∀i:Nat,i<a.it.length->True:=⟨fun _ _=>trivial,fun _ _=>trivial,fun _ _=>trivial⟩
 refine⟨⟨BK _,l3,l1,l2⟩,fun h=>?_,fun h=>⟨⟨0,⟨Nat.zero_le _,by simp⟩,rfl,tt⟩,fun i hi=>⟨fun hlt=>?_,fun hge=>?_⟩⟩⟩
 ·rw[hA,if_pos h];exact⟨rfl,rfl,rfl⟩
 ·have h0:Bz a.k a.sh a.nu.length a.it.length=0:=by simpa using h
  have hsm:=Er h0
  have hlt':i<a.nu.length:=by omega
  have hmem:a.nu.getD i 0∈a.nu:=by rw[List.getD_eq_getElem?_getD,List.getElem?_eq_getElem hlt'];exact List.getElem_mem hlt'
  have htk:a.nu.take (i+1)=a.nu.take i++[a.nu.getD i 0]:=by
   rw[List.take_add_one];simp[List.getD_eq_getElem?_getD,hlt']
  generalize a.nu.getD i 0=z at *
  refine⟨by omega,?_,fun hb=>?_,fun hb=>⟨i+1,⟨by omega,fun y hy=>?_⟩,by omega,Bb (by omega) (by omega),tt⟩⟩
  ·refine⟨fun k1=>⟨fun hn=>⟨by simp at hn;simp[CJ,k1,hn],tt⟩,fun hn=>⟨fun k2=>by omega,fun k2=>⟨by simp at hn;simp[CJ,k1,hn],tt⟩⟩⟩,fun k1=>⟨fun k2=>⟨by simp[CJ,k2],tt⟩,fun k2=>⟨by simp[CJ,k1,k2],tt⟩⟩⟩
  ·have:a.nu.any (CJ a.k)=true:=List.any_eq_true.2 ⟨z,hmem,hb⟩
   rw[hA,if_neg (by simp[h0]),if_pos this]
   exact⟨rfl,rfl,rfl⟩
  ·rw[htk,List.mem_append] at hy
   rcases hy with hy | hy
   ·exact hi.2 y hy
   ·simp at hy;rw[hy];exact hb
 ·have h0:Bz a.k a.sh a.nu.length a.it.length=0:=by simpa using h
  have hsm:=Er h0
  have hii:i=a.nu.length:=by omega
  rw[hii,List.take_length] at hi
  have hany:¬a.nu.any (CJ a.k)=true:=by
   rw[List.any_eq_true]
   rintro ⟨z,hz,hb⟩
   rw[hi.2 z hz] at hb
   cases hb
  rw[if_neg (by simp[h0]),if_neg hany] at hA
  refine⟨⟨(0,0,(a.nu.length:Int)+a.it.length),⟨Nat.zero_le _,Int.le_refl _,by simp,by simp only;omega,by simp only;omega,by simp⟩,⟨rfl,rfl,Bb (by omega) (by omega)⟩,tt⟩,?_⟩
  rintro ⟨j,d,w⟩ ⟨b1,b2,b3,b4,b5,hch⟩
  simp only at b1 b2 b3 b4 b5 hch ⊢
  refine⟨fun hlt=>⟨by omega,fun x3 _=>?_⟩,fun hge=>?_⟩
  ·have hlt':j<a.it.length:=by omega
   have hbd:=B6 (a.it.getD j default)
   rw[CV hlt',BS] at hch
   refine⟨a.it.getD j default,⟨rfl,⟨rfl,fun _ _=>rfl⟩,⟨rfl,fun _ _=>rfl⟩,rfl,fun _ _=>rfl⟩,CC hlt',fun herr=>?_,fun hok=>?_⟩
   ·rw[if_pos herr] at hch
    rw[<- hch] at hA
    rw[hA]
    exact⟨rfl,rfl,rfl⟩
   ·have hok:(Bj (a.it.getD j default)).1=0:=by simpa using hok
    rw[if_neg (fun hne=>hne hok)] at hch
    have w1:IntKind.i64.wrap ((Bj (a.it.getD j default)).2.1+1)=(Bj (a.it.getD j default)).2.1+1:=Bb (by omega) (by omega)
    have w2:IntKind.i64.wrap (w+(Bj (a.it.getD j default)).2.2)=w+(Bj (a.it.getD j default)).2.2:=Bb (by omega) (by omega)
    rw[w1,w2]
    refine⟨(j+1,(if d<(Bj (a.it.getD j default)).2.1+1 then (Bj (a.it.getD j default)).2.1+1 else d),(if 262145<w+(Bj (a.it.getD j default)).2.2 then 262145 else w+(Bj (a.it.getD j default)).2.2)),⟨by simp only;omega,?_,?_,?_,?_,hch⟩,by simp only;omega,⟨Bb (by omega) (by omega),rfl,rfl⟩,tt⟩
    ·simp only;split<;>omega
    ·simp only;split<;>omega
    ·simp only;split<;>omega
    ·simp only;split<;>omega
  ·have hj:j=a.it.length:=by omega
   rw[hj,List.drop_length,BS] at hch
   rw[<- hch] at hA
   simp only at hA
   refine⟨⟨fun h1=>by rw[decide_eq_true h1];rfl,fun h1=>by rw[decide_eq_false h1];rfl⟩,fun hc=>?_,fun hc=>?_⟩
   ·rw[Bool.or_eq_true,decide_eq_true_eq,decide_eq_true_eq] at hc
    rw[if_pos hc] at hA
    rw[hA];exact⟨rfl,rfl,rfl⟩
   ·rw[Bool.or_eq_false_iff,decide_eq_false_iff_not,decide_eq_false_iff_not] at hc
    rw[if_neg (by omega)] at hA
    rw[hA];exact⟨rfl,rfl,rfl⟩
theorem Ra:∀(a:Arr),a.ok->∀xb,ACalls Try.prog 64 ((EO Arr.row2 xb (fun _=>True)).args a) ((EO Arr.row2 xb (fun _=>True)).st a) (SpecR (EO Arr.row2 xb (fun _=>True)) a)
 |.mk k s n is,h,xb=>by
  have h':=h
  simp only[Arr.ok] at h'
  obtain ⟨_,_,_,h1,h2,h3,h4⟩:=h'
  refine Bb3 xb (.mk k s n is) ⟨h2,h3,h1⟩ fun b hb=>?_
  have hb':b∈is:=hb
  exact Ra b ((CA _).1 h4 b hb') xb
termination_by a=>SizeOf.sizeOf a
decreasing_by
 have:=List.sizeOf_lt_of_mem hb'
 simp;omega
theorem Bba(a:Arr)(ha:a.ok)(xb:Nat)(q:Arr->Prop):ACalls Try.prog 64 ((EO Arr.row1 xb q).args a) ((EO Arr.row1 xb q).st a) (SpecR (EO Arr.row1 xb q) a):=by
 refine ((Ra a ha xb).wkArgs ?_).mono fun _ _ ⟨y,h1,h2,h3⟩=>⟨y,h1,h2,h3⟩
 simp only[EO,wkL,wkD]
 exact⟨CF a,by simp[Bp,Ba]⟩
def BbW(a:Arr):Con:=fun k ds _=>match k with
 |64=>match ds with
  | [_,.ref _ xb _]=>some (EO Arr.row1 xb (fun b=>b=a))
  |_=>none
 |_=>none
theorem Ba9{a:Arr}(ha:a.ok):ConOk Try.prog (BbW a):=by
 intro k ds S A h
 unfold BbW at h
 split at h
 ·split at h
  ·injection h with h;subst h
   refine ConOk.plain (fun b hb=>?_) rfl rfl
   have hb:b=a:=hb
   rw[hb]
   exact Bba a ha _ _
  ·cases h
 ·cases h
noncomputable def Eri(a:Arr):Senv:=EC (BbW a) 16 7 [] (fun _=>([],[]))
def HK(a:Arr)(b:Nat):List D:=Arr.row (GA (Arr.it a) b)
theorem GU(a:Arr)(ha:a.ok):ACalls Try.prog 45 [.agg a.row1] ⟨[],[]⟩ (SpecR (sC [.agg a.row1] (.int .i64 (Bj a).1)) ()):=by
 refine Bg (A:=sC _ _) (x:=()) (E:=Eri a) (eOk (Ba9 ha) rfl) Try.func45 rfl (by kernel_rfl) rfl (by simp[sC,Eri,EC,E0]) ?_
 refine Bl (T :=
  ∀(x:Nat),True->∀(x_1:Nat),x≠x_1/\True->SM x_1/\SM x_1/\SM x/\∃(x:Arr),((Arr.k a=Arr.k x/\(LN (Arr.sh a)=LN (Arr.sh x)/\(∀(i:Nat),i<LN (Arr.sh a)->[ZI (GI (Arr.sh a) i)]=[ZI (GI (Arr.sh x) i)])/\True)/\(LN (Arr.nu a)=LN (Arr.nu x)/\(∀(i:Nat),i<LN (Arr.nu a)->[ZI (GI (Arr.nu a) i)]=[ZI (GI (Arr.nu x) i)])/\True)/\(LN (Arr.it a)=LN (Arr.it x)/\(∀(i:Nat),i<LN (Arr.it a)->HK a i=HK x i)/\True)/\True)/\SM x_1/\True)/\((SM x_1/\(D.fn (Fn.func (64:Nat)) [] [D.ref (max (N0+N1) N0) x_1 N0]=D.fn (Fn.func (64:Nat)) [] [D.ref N1 x_1 N0]/\True)/\True)/\True)/\x=a/\∀(y:Unit),True->RT (Prod.fst (Bj x)=Prod.fst (Bj a))) (by kernel_rfl) ?_
 delta DA GA GI LN N0 N1 SM Z0 ZI HK RT
 intro x _ x1 hx
 exact⟨rfl,rfl,rfl,a,⟨⟨rfl,⟨rfl,fun _ _=>rfl,trivial⟩,⟨rfl,fun _ _=>rfl,trivial⟩,⟨rfl,fun _ _=>rfl,trivial⟩,trivial⟩,rfl,trivial⟩,⟨⟨rfl,⟨rfl,trivial⟩,trivial⟩,trivial⟩,rfl,fun _ _=>⟨trivial,(),trivial,rfl,trivial,trivial⟩⟩
noncomputable def Ernum:Senv:=EC CM 9 1 [2] (fun _=>([],[]))
def XO(a:Int):Bool:=bif decide ((-4611686018427387903:Int)<=a) then decide (a<=4611686018427387903) else false
theorem BcZ(z:Int):ACalls Try.prog 62 [.int .i64 z] ⟨[],[]⟩ (SpecR (sC [.int .i64 z] (.bool (M9 z))) ()):=by
 refine Bg (A:=sC _ _) (x:=()) (E:=Ernum) (eOk By rfl) Try.func62 rfl (by kernel_rfl) rfl (by simp[sC,Ernum,EC,E0]) ?_
 refine Bl (T :=
  ifB (decide ((-4611686018427387903:Int)<=z)) (decide (z<=4611686018427387903)=XO z/\True) (false=XO z/\True)/\RT (XO z=M9 z)) (by kernel_rfl) ?_
 delta XO RT
 simp only[Bh,decide_eq_true_eq,decide_eq_false_iff_not,true_and,and_true,Bool.cond_false_right,exists_const]
 refine⟨⟨fun h=>by rw[decide_eq_true h];rfl,fun h=>by rw[decide_eq_false h];rfl⟩,rfl⟩
noncomputable def Erchr:Senv:=EC CM 17 1 [2] (fun _=>([],[]))
def JJ(a:Int):Bool:=bif bif decide (Z0<=a) then decide (a<=1114111) else false then bif decide (a<55296) then true else decide ((57343:Int)<a) else false
def HL(a:Int):Prop:=false=JJ a/\True
theorem BcO(z:Int):ACalls Try.prog 63 [.int .i64 z] ⟨[],[]⟩ (SpecR (sC [.int .i64 z] (.bool (T7 z))) ()):=by
 refine Bg (A:=sC _ _) (x:=()) (E:=Erchr) (eOk By rfl) Try.func63 rfl (by kernel_rfl) rfl (by simp[sC,Erchr,EC,E0]) ?_
 refine Bl (T :=
  ifB (decide (Z0<=z)) (ifB (decide (z<=1114111)) (ifB (decide (z<55296)) (true=JJ z/\True) (decide ((57343:Int)<z)=JJ z/\True)) (HL z)) (HL z)/\RT (JJ z=T7 z)) (by kernel_rfl) ?_
 delta Z0 JJ HL RT
 simp only[Bh,decide_eq_true_eq,decide_eq_false_iff_not,true_and,and_true,Bool.cond_false_right,Bool.cond_true_left,exists_const]
 refine⟨⟨fun h1=>⟨fun h2=>⟨fun h3=>by simp[h1,h2,h3],fun h3=>by simp[h1,h2,h3]⟩,fun h2=>by simp[h1,h2]⟩,fun h1=>by simp[h1]⟩,rfl⟩
def BA(k:Int)(nn ni:Nat):Int:=if k=1\/k=2 then nn else if k=3 then ni else 0
noncomputable def Esz:Senv:=EC CM 16 3 [4,5,11] (fun _=>([],[]))
def HM(a b:Nat)(c:Int)(d:Nat):Prop:=SM a/\True/\∃(_y:Unit),True/\(↑b:Int)=BA c b d/\True/\True
def HN(a:Int)(b c d:Nat):Prop:=ifB (a==3) (SM b/\True/\∃(_y:Unit),True/\(↑c:Int)=BA a d c/\True/\True) (True/\∃(_y:Unit),True/\Z0=BA a d c/\True/\True)
theorem BeT(k : Int)(ns nn ni : Nat)(f g h : Nat -> List D) :
  ACalls Try.prog 43 [.agg [.int .i64 k,.sl 1 ns f .any,.sl 1 nn g .any,.sl 4 ni h .any]] ⟨[],[]⟩ (SpecR (sC [.agg [.int .i64 k,.sl 1 ns f .any,.sl 1 nn g .any,.sl 4 ni h .any]] (.int .i64 (BA k nn ni))) ()):=by
 refine Bg (A:=sC _ _) (x:=()) (E:=Esz) (eOk By rfl) Try.func43 rfl (by kernel_rfl) rfl (by simp[sC,Esz,EC,E0]) ?_
 refine Bl (T :=
  ∀(x:Nat),True->SM x/\ifB (k==Z1) (ifB (k==Z1) (HM x nn k ni) (HN k x ni nn)) (ifB (k==2) (HM x nn k ni) (HN k x ni nn))) (by kernel_rfl) ?_
 delta SM Z0 Z1 HM HN
 simp only[Bh,true_and,and_true,beq_iff_eq,beq_eq_false_iff_ne,ne_eq,exists_const,forall_const]
 repeat' (first
  |refine And.intro ?_ ?_
  |intro _)
 all_goals first
  |(simp_all[BA];done)
  |grind [BA]
  |trace_state
def RI:Con:=fun k ds S=>match k with
 |43=>match ds with
  | [.agg [.int .i64 k,.sl 1 _ _ _,.sl 1 nn _ _,.sl 4 ni _ _]]=>some (pC ds (.int .i64 (BA k nn ni)) True)
  |_=>none
 |62=>match ds with
  | [.int .i64 z]=>some (pC [.int .i64 z] (.bool (M9 z)) True)
  |_=>none
 |63=>match ds with
  | [.int .i64 z]=>some (pC [.int .i64 z] (.bool (T7 z)) True)
  |_=>none
 |k=>O1 k ds S
theorem UH:ConOk Try.prog RI:=by
 intro k ds S A h
 unfold RI at h
 split at h
 ·split at h
  ·rename_i k ns f _ nn g _ ni g' _
   injection h with h;subst h
   refine Ea fun _=>⟨Bq _,Cm (us:=[.agg [.int .i64 k,.sl 1 ns f .any,.sl 1 nn g .any,.sl 4 ni g' .any]]) ?_ (BeT _ _ _ _ _ _ _)⟩
   refine⟨?_,trivial⟩
   simp only[Bp,Bo]
   refine⟨by simp[Ba,kEq],?_,?_,?_,trivial⟩
   ·simp[Ba,BH]
   ·simp[Ba,BH]
   ·simp[Ba,BH]
  ·cases h
 ·split at h
  ·injection h with h;subst h
   exact Ea fun _=>⟨Bq _,BcZ _⟩
  ·cases h
 ·split at h
  ·injection h with h;subst h
   exact Ea fun _=>⟨Bq _,BcO _⟩
  ·cases h
 ·exact Is _ _ _ _ h
mutual
def wtA:Arr->Int
 |.mk k _ n is=>min (wtL k is (BA k n.length is.length)) 262145
def wtL(k:Int):List Arr->Int->Int
 | [],n=>n
 |x::r,n=>if k=3/\n<=262144 then wtL k r (n+wtA x) else n
end
theorem MF(a:Arr):wtA a=min (wtL a.k a.it (BA a.k a.nu.length a.it.length)) 262145:=by
 cases a with
 |mk k s n is=>rw[wtA];rfl
theorem Ri(k:Int):∀(l:List Arr) (n:Int),0<=n->(∀x∈l,0<=wtA x)->0<=wtL k l n
 | [],n,h,_=>by rw[wtL];exact h
 |x::r,n,h,h2=>by
  rw[wtL]
  have:=h2 x (by simp)
  split
  ·exact Ri k r _ (by omega) fun y hy=>h2 y (by simp[hy])
  ·exact h
theorem Ey:∀(a:Arr),0<=wtA a/\wtA a<=262145
 |.mk k s n is=>by
  rw[wtA]
  have hs:0<=BA k n.length is.length:=by unfold BA;split<;>(try split)<;>omega
  have:=Ri k is _ hs fun x hx=>(Ey x).1
  omega
termination_by a=>SizeOf.sizeOf a
decreasing_by
 have:=List.sizeOf_lt_of_mem hx
 simp;omega
def sRc(row:Arr->List D)(q:Arr->Prop)(r:Arr->D):FnSpec where
 β:=Arr
 α:=Unit
 args:=fun a=>[.agg (row a)]
 st:=fun _=>⟨[],[]⟩
 pre:=q
 post:=fun _ _=>True
 res:=fun a _=>.ret (r a)
 out:=fun _ _=>⟨[],[]⟩
def BbG(its:List Arr):Con:=fun k ds S=>match k with
 |18=>some (sRc Arr.row1 (fun b=>b∈its) (fun b=>.int .i64 (wtA b)))
 |k=>RI k ds S
theorem Rx{k:Nat}{q q':Arr->Prop}{r:Arr->D}{b:Arr}(h:ACalls Try.prog k ((sRc Arr.row2 q r).args b) ⟨[],[]⟩ (SpecR (sRc Arr.row2 q r) b)):ACalls Try.prog k ((sRc Arr.row1 q' r).args b) ⟨[],[]⟩ (SpecR (sRc Arr.row1 q' r) b):=by
 refine (h.wkArgs ?_).mono fun _ _ ⟨y,h1,h2,h3⟩=>⟨y,h1,h2,h3⟩
 simp only[sRc,wkL,wkD]
 exact⟨CF b,trivial⟩
theorem Bci{its:List Arr}(ih:∀b∈its,ACalls Try.prog 18 ((sRc Arr.row2 (fun _=>True) (fun b=>.int .i64 (wtA b))).args b) ⟨[],[]⟩ (SpecR (sRc Arr.row2 (fun _=>True) (fun b=>.int .i64 (wtA b))) b)):ConOk Try.prog (BbG its):=by
 intro k ds S A h
 unfold BbG at h
 split at h
 ·injection h with h;subst h
  exact ConOk.plain (fun b hb=>Rx (ih b hb)) rfl rfl
 ·exact UH _ _ _ _ h
noncomputable def Ewt(a:Arr):Senv:={ EC (BbG a.it) 33 5 [20] (fun _=>([],[])) with
 ann:=fun b _ S=>match b with
  |0=>some { slots:=[3,4],keep:=[0,1,2],α:=Nat×Int,st:=fun y=>([.int .i64 y.2,.int .i64 y.1],S),inv:=fun y=>y.1<=a.it.length/\0<=y.2/\y.2<=maxLen/\wtL a.k (a.it.drop y.1) y.2=wtL a.k a.it (BA a.k a.nu.length a.it.length),mu:=fun y=>a.it.length-y.1 }
  |_=>none }
def Kv(a:Arr):List Arr:=Arr.it a
def Qx(a:Arr):Nat:=LN (Kv a)
def QP(a:Arr):Int:=Arr.k a
def KS(a:Arr):Nat:=LN (Arr.nu a)
def HO(a:Arr):Int:=BA (QP a) (KS a) (Qx a)
def XP(a:Nat)(b:Arr)(c:Int):Prop:=a<=Qx b/\Z0<=c/\c<=9223372036854775807/\wtL (QP b) (List.drop a (Kv b)) c=wtL (QP b) (Kv b) (HO b)
def JK(a:Arr):Nat:=LN (Arr.sh a)
def XQ(a:Arr)(b:Nat):List D:=[ZI (GI (Arr.sh a) b)]
def XR(a:Arr)(b:Nat):List D:=[ZI (GI (Arr.nu a) b)]
def JL:Arr:=DA
def KT(a:Arr)(b:Nat):Arr:=List.getD (Kv a) b JL
def QgW(a:Arr)(b:Nat):List Int:=Arr.sh (KT a b)
def QgX(a:Arr)(b:Nat):List Int:=Arr.nu (KT a b)
def HP(a:Arr)(b:Nat):List Arr:=Arr.it (KT a b)
def HQ(a:Arr)(b:Nat):List D:=[ZI (Arr.k (KT a b)),SI (QgW a b),SI (QgX a b),D.sl N4 (LN (HP a b)) (fun i=>Arr.row (List.getD (HP a b) i JL)) Mode.any]
def HR(a:Nat)(b:Arr):Prop:=(SM a/\(SM (QP b)/\(SM (JK b)/\(∀(i:Nat),i<JK b->SM (XQ b i))/\True)/\(SM (KS b)/\(∀(i:Nat),i<KS b->SM (XR b i))/\True)/\(SM (Qx b)/\(∀(i:Nat),i<Qx b->SM (HQ b i))/\True)/\True)/\True)/\True
def XS(a:Nat)(b:Arr)(c:Int):Bool:=bif bif decide ((↑a:Int)<(NI (Qx b))) then QP b==3 else false then decide (c<=262144) else false
def HS(a:Nat)(b:Arr)(c:Int):Prop:=false=XS a b c/\True
def JM(a:Arr)(b:Nat):Arr:=List.getD (Kv a) (Int.toNat (↑b:Int)) JL
def HT(a:Arr)(b:Nat):List Int:=Arr.sh (JM a b)
def HU(a:Arr)(b:Nat):Nat:=LN (HT a b)
def HV(a:Arr)(b:Nat):List Int:=Arr.nu (JM a b)
def HW(a:Arr)(b:Nat):Nat:=LN (HV a b)
def HX(a:Arr)(b:Nat):List Arr:=Arr.it (JM a b)
def HY(a:Arr)(b:Nat):Nat:=LN (HX a b)
def QgY(a:Arr):D:=D.agg [ZI (QP a),D.sl N1 (JK a) (fun i=>XQ a i) Mode.any,D.sl N1 (KS a) (fun i=>XR a i) Mode.any,D.sl N4 (Qx a) (fun i=>HQ a i) Mode.any]
theorem Bdt(a : Arr)(ha : a.nu.length<=maxLen /\ a.it.length<=maxLen /\ a.sh.length<=maxLen)(ih : ∀b∈a.it, ACalls Try.prog 18 ((sRc Arr.row2 (fun _=>True) (fun b=>.int .i64 (wtA b))).args b) ⟨[], []⟩ (SpecR (sRc Arr.row2 (fun _=>True) (fun b=>.int .i64 (wtA b))) b)) :
  ACalls Try.prog 18 ((sRc Arr.row2 (fun _=>True) (fun b=>.int .i64 (wtA b))).args a) ⟨[],[]⟩ (SpecR (sRc Arr.row2 (fun _=>True) (fun b=>.int .i64 (wtA b))) a):=by
 refine Bg (A:=sRc Arr.row2 (fun _=>True) (fun b=>.int .i64 (wtA b))) (x:=a) (E:=Ewt a) (eOk (Bci ih) rfl) Try.func18 rfl (by kernel_rfl) rfl (by simp[sRc,Ewt,EC,E0]) ?_
 refine Bl (T :=
  ∀(x:Nat),True->SM x/\True/\∀(y:Unit),True->(∃(x_1:Nat×Int),XP x_1.1 a x_1.2/\(HO a=x_1.2/\Z0=(NI x_1.1)/\True)/\HR x a)/\∀(x_1:Nat×Int),XP x_1.1 a x_1.2->(SM x/\ifB (decide ((NI x_1.1)<(NI (Qx a)))) (SM x/\ifB (QP a==3) (decide (x_1.2<=262144)=XS x_1.1 a x_1.2/\True) (HS x_1.1 a x_1.2)) (HS x_1.1 a x_1.2))/\ifB (XS x_1.1 a x_1.2) (SM x/\Bd (Z0<=(NI x_1.1)/\(NI x_1.1)<(NI (Qx a))) (∃(x_2:Arr),((Arr.k (JM a x_1.1)=QP x_2/\(HU a x_1.1=JK x_2/\(∀(i:Nat),i<HU a x_1.1->[ZI (GI (HT a x_1.1) i)]=XQ x_2 i)/\True)/\(HW a x_1.1=KS x_2/\(∀(i:Nat),i<HW a x_1.1->[ZI (GI (HV a x_1.1) i)]=XR x_2 i)/\True)/\(HY a x_1.1=Qx x_2/\(∀(i:Nat),i<HY a x_1.1->Arr.row (List.getD (HX a x_1.1) i JL)=Arr.row (KT x_2 i))/\True)/\True)/\True)/\(True/\True)/\x_2∈Kv a/\∀(y:Unit),True->(SM (QgY a)/\SM (D.ref N0 x N0)/\SM (ZI Z0)/\True)/\∃(y:Nat×Int),XP y.1 a y.2/\Qx a-y.1<Qx a-x_1.1/\(IntKind.wrap IntKind.i64 (x_1.2+wtA x_2)=y.2/\IntKind.wrap IntKind.i64 ((NI x_1.1)+Z1)=(NI y.1)/\True)/\HR x a)) (RT ((if (262145:Int)<x_1.2 then (262145:Int) else x_1.2)=wtA a))) (by kernel_rfl) ?_
 delta DA GI LN N0 N1 N4 NI SI SM Z0 Z1 ZI XP JK XQ XR JL KT QgW QgX HP HQ HR XS HS JM HT HU HV HW HX HY QgY Kv Qx QP KS HO RT
 have da:(default:Arr)=Arr.mk 0 [] [] []:=rfl
 simp only[<- da,Int.toNat_natCast,Bh,Bc,decide_eq_true_eq,decide_eq_false_iff_not,true_and,and_true,beq_iff_eq,Bool.cond_false_right,Bool.and_eq_true,Bool.and_eq_false_iff,beq_eq_false_iff_ne,ne_eq,exists_const,forall_const]
 obtain ⟨l1,l2,l3⟩:=ha
 simp only[maxLen] at l1 l2 l3
 have tt:(∀i:Nat,i<a.sh.length->True)/\(∀i:Nat,i<a.nu.length->True)/\∀i:Nat,i<a.it.length->True:=⟨fun _ _=>trivial,fun _ _=>trivial,fun _ _=>trivial⟩
 have hsz:0<=BA a.k a.nu.length a.it.length/\BA a.k a.nu.length a.it.length<=9223372036854775807:=by
  unfold BA;split<;>(try split)<;>omega
 refine⟨⟨(0,BA a.k a.nu.length a.it.length),⟨Nat.zero_le _,hsz.1,hsz.2,rfl⟩,⟨rfl,rfl⟩,tt⟩,?_⟩
 rintro ⟨j,n⟩ ⟨b1,b2,b3,hch⟩
 simp only at b1 b2 b3 hch ⊢
 refine⟨⟨fun h1=>⟨fun h2=>by simp[h1,h2],fun h2=>by simp[h2]⟩,fun h1=>by simp[h1]⟩,fun ⟨⟨h1,h2⟩,h3⟩=>⟨by omega,?_⟩,fun hc=>?_⟩
 ·have hlt':j<a.it.length:=by omega
  have hbd:=Ey (a.it.getD j default)
  rw[CV hlt',wtL,if_pos ⟨h2,h3⟩] at hch
  refine⟨a.it.getD j default,⟨rfl,⟨rfl,fun _ _=>rfl⟩,⟨rfl,fun _ _=>rfl⟩,rfl,fun _ _=>rfl⟩,CC hlt',(j+1,n+wtA (a.it.getD j default)),⟨by simp only;omega,by simp only;omega,by simp only;omega,hch⟩,by simp only;omega,⟨Bb (by omega) (by omega),Bb (by omega) (by omega)⟩,tt⟩
 ·have he:wtL a.k (a.it.drop j) n=n:=by
   by_cases hj:j<a.it.length
   ·rw[CV hj,wtL,if_neg (by rintro ⟨h2,h3⟩;rcases hc with (h | h) | h<;>omega)]
   ·rw[List.drop_eq_nil_of_le (by omega),wtL]
  rw[he] at hch
  rw[MF,<- hch]
  split<;>omega
theorem Wl:∀(a:Arr),a.ok->ACalls Try.prog 18 ((sRc Arr.row2 (fun _=>True) (fun b=>.int .i64 (wtA b))).args a) ⟨[],[]⟩ (SpecR (sRc Arr.row2 (fun _=>True) (fun b=>.int .i64 (wtA b))) a)
 |.mk k s n is,h=>by
  have h':=h
  simp only[Arr.ok] at h'
  obtain ⟨_,_,_,h1,h2,h3,h4⟩:=h'
  refine Bdt (.mk k s n is) ⟨h2,h3,h1⟩ fun b hb=>?_
  have hb':b∈is:=hb
  exact Wl b ((CA _).1 h4 b hb')
termination_by a=>SizeOf.sizeOf a
decreasing_by
 have:=List.sizeOf_lt_of_mem hb'
 simp;omega
theorem UX:∀(l:List Arr) (d d' w':Int),BS l d 262145=some (d',w')->w'=262145
 | [],d,d',w',h=>by rw[BS] at h;injection h with h;injection h with e1 e2;omega
 |x::r,d,d',w',h=>by
  rw[BS] at h
  have:=B6 x
  split at h
  ·cases h
  ·have e:(if (262145:Int)<262145+(Bj x).2.2 then 262145 else 262145+(Bj x).2.2)=262145:=by split<;>omega
   rw[e] at h;exact UX r _ d' w' h
theorem RK(k:Int):∀(l:List Arr) (d w d' w':Int),BS l d w=some (d',w')->(k=3\/l=[])->(∀x∈l,(Bj x).1=0->wtA x=(Bj x).2.2)->∀n,min n 262145=w->min (wtL k l n) 262145=w'
 | [],d,w,d',w',h,_,_,n,hn=>by
  rw[BS] at h;injection h with h;injection h with e1 e2;rw[wtL];omega
 |x::r,d,w,d',w',h,hk,h3,n,hn=>by
  have hk:k=3:=hk.resolve_right (by simp)
  rw[BS] at h
  have hb:=B6 x
  split at h
  ·cases h
  ·rename_i hx
   have hx:(Bj x).1=0:=by simpa using hx
   have hwx:=h3 x (by simp) hx
   rw[wtL]
   by_cases hn2:n<=262144
   ·rw[if_pos ⟨hk,hn2⟩]
    refine RK k r _ _ d' w' h (.inl hk) (fun y hy=>h3 y (by simp[hy])) _ ?_
    split<;>omega
   ·rw[if_neg (fun e=>hn2 e.2)]
    have hw:w=262145:=by omega
    rw[hw] at h
    have:(if (262145:Int)<262145+(Bj x).2.2 then 262145 else 262145+(Bj x).2.2)=262145:=by split<;>omega
    rw[this] at h
    have:=UX r _ _ _ h
    omega
theorem Ban{k:Int}{s:List Int}{nn ni:Nat}(h:Bz k s nn ni=0):(k=3/\nn=0)\/((k=1\/k=2)/\ni=0):=by
 unfold Bz at h
 by_cases hk:k=1\/k=2\/k=3
 ·rw[if_pos hk] at h
  by_cases hd:B1 s≠0
  ·rw[if_pos hd] at h;exact (hd h).elim
  ·rw[if_neg hd] at h
   by_cases hc:((if k=3 then (ni:Int) else nn)≠BW s)\/((if k=3 then (nn:Int) else ni)≠0)
   ·rw[if_pos hc] at h;omega
   ·simp only[not_or,ne_eq,Decidable.not_not] at hc
    obtain ⟨c1,c2⟩:=hc
    by_cases k3:k=3
    ·simp only[k3,if_true] at c2;left;omega
    ·simp only[k3,if_false] at c2;right;omega
 ·rw[if_neg hk] at h;omega
theorem BdJ{a:Arr}{r:Int×Int}(h0:Bz a.k a.sh a.nu.length a.it.length=0)(hr:BS a.it 0 ((a.nu.length:Int)+a.it.length)=some r)(h3:∀x∈a.it,(Bj x).1=0->wtA x=(Bj x).2.2):wtA a=r.2:=by
 have hz:=Ban h0
 have hs:=Er h0
 rw[MF]
 refine RK a.k a.it 0 _ r.1 r.2 hr ?_ h3 _ ?_
 ·rcases hz with ⟨h1,_⟩ | ⟨_,h2⟩
  ·exact .inl h1
  ·exact .inr (List.length_eq_zero_iff.1 h2)
 ·unfold BA
  rcases hz with ⟨h1,h2⟩ | ⟨h1,h2⟩
  ·rw[if_neg (by omega),if_pos h1];omega
  ·rw[if_pos h1];omega
theorem Ub:∀(a:Arr),(Bj a).1=0->wtA a=(Bj a).2.2
 |.mk k s n is,h=>by
  have ih:∀x∈(Arr.mk k s n is).it,(Bj x).1=0->wtA x=(Bj x).2.2:=fun x hx=>by
   have hx':x∈is:=hx
   exact Ub x
  have hA:=TQ (Arr.mk k s n is)
  generalize Arr.mk k s n is=a at *
  by_cases h0:Bz a.k a.sh a.nu.length a.it.length=0
  ·rw[if_neg (fun e=>e h0)] at hA
   by_cases h1:a.nu.any (CJ a.k)=true
   ·rw[if_pos h1] at hA;rw[hA] at h;cases h
   ·rw[if_neg h1] at hA
    cases hr:BS a.it 0 ((a.nu.length:Int)+a.it.length) with
    |none=>rw[hr] at hA;simp only at hA;rw[hA] at h;cases h
    |some r =>
     rw[hr] at hA
     simp only at hA
     split at hA
     ·rw[hA] at h;cases h
     ·rw[hA];exact BdJ h0 hr ih
  ·rw[if_pos h0] at hA;rw[hA] at h;exact (h0 h).elim
termination_by a=>SizeOf.sizeOf a
decreasing_by
 have:=List.sizeOf_lt_of_mem hx'
 simp;omega
def Mf(b:Arr):D:=.tup [.int .i64 (Bj b).1,.int .i64 (Bj b).2.1]
def BbO(a:Arr):Con:=fun k ds S=>match k with
 |44=>some (sRc Arr.row1 (fun b=>b∈a.it) (fun b=>.tup [.int .i64 (Bj b).1,.int .i64 (Bj b).2.1]))
 |18=>some (sRc Arr.row2 (fun b=>b=a) (fun b=>.int .i64 (wtA b)))
 |k=>RI k ds S
theorem Bb2{a:Arr}(ha:a.ok)(ih:∀b∈a.it,ACalls Try.prog 44 ((sRc Arr.row2 (fun _=>True) Mf).args b) ⟨[],[]⟩ (SpecR (sRc Arr.row2 (fun _=>True) Mf) b)):ConOk Try.prog (BbO a):=by
 intro k ds S A h
 unfold BbO at h
 split at h
 ·injection h with h;subst h
  exact ConOk.plain (fun b hb=>Rx (r:=Mf) (ih b hb)) rfl rfl
 ·injection h with h;subst h
  refine ConOk.plain (fun b hb=>?_) rfl rfl
  have hb:b=a:=hb
  rw[hb]
  exact (Wl a ha).mono fun _ _ ⟨y,h1,h2,h3⟩=>⟨y,h1,h2,h3⟩
 ·exact UH _ _ _ _ h
def cutW(a:Arr)(d:D)(S:St):Option LoopAnn :=
 match d with
 |.int _ i=>some { slots:=[76],keep:=[],α:=Unit,st:=fun _=>([.bool (CJ a.k (a.nu.getD i.toNat 0))],S),inv:=fun _=>True,mu:=fun _=>0 }
 |_=>none
noncomputable def Eck(a:Arr):Senv:={ EC (BbO a) 107 11 [18,23,30,43,48,76,81,94,105] (fun id=>match id with | 9=>([0,2,3,1,4,5,6,7,8,9],[1,4]) | _=>([],[])) with
 cut:=fun id env S=>match id with
  |14=>cutW a (Ab.look env 6) S
  |_=>none
 ann:=fun b _ S=>match b with
  |0=>some { slots:=[6],keep:=[0,1,2,3],α:=Nat,st:=fun i=>([.int .i64 i],S),inv:=fun i=>i<=a.nu.length/\∀z∈a.nu.take i,CJ a.k z=false,mu:=fun i=>a.nu.length-i }
  |2=>some { slots:=[8,7],keep:=[0,1,2,3],α:=Nat×Int×Int,st:=fun y=>([.int .i64 y.1,.int .i64 y.2.1],S),inv:=fun y=>y.1<=a.it.length/\0<=y.2.1/\y.2.1<=17/\0<=y.2.2/\y.2.2<=262145/\BS (a.it.drop y.1) y.2.1 y.2.2=BS a.it 0 ((a.nu.length:Int)+a.it.length),mu:=fun y=>a.it.length-y.1 }
  |_=>none }
def Qm(a:Arr):Int:=Arr.k a
def XT(a:Arr):Bool:=bif decide (Qm a<Z1) then true else decide ((3:Int)<Qm a)
def Q7(a:Arr):Int:=Prod.fst (Bj a)
def KU(a:Arr):Prop:=Z0=Prod.fst (Prod.snd (Bj a))/\True
def QK(a:Arr):Nat:=LN (Arr.sh a)
def Q8(a:Arr)(b:Nat):List D:=[ZI (GI (Arr.sh a) b)]
def HZ(a:Arr):Prop:=IntsP (QK a) fun i=>Q8 a i
def H1(a:Arr):List Int:=BD (QK a) fun i=>Q8 a i
def XU(a:Arr):Int:=B1 (H1 a)
def H2(a:Arr):D:=D.sl N1 (QK a) (fun i=>Q8 a i) Mode.any
def H3(a:Nat)(b:Arr):Prop:=SM a/\SM (H2 b)
def H4(a:Arr):Prop:=HZ a/\XU a=Z0
def JN(a:Arr):List Int:=Arr.nu a
def Qt(a:Arr):Nat:=LN (JN a)
def Kw(a:Arr):List Arr:=Arr.it a
def Qu(a:Arr):Nat:=LN (Kw a)
def H5(a:Arr):Bool:=BA (Qm a) (Qt a) (Qu a) != BW (H1 a)
def JO(a:Arr):Prop:=True/\∃(_y:Unit),True/\((16:Int)=Q7 a/\KU a)/\True/\True
def KV(a:Arr):Int:=(NI (Qt a))
def XV(a:Nat)(b:Arr):Prop:=a<=Qt b/\∀(z:Int),z∈List.take a (JN b)->CJ (Qm b) z=false
def KW(a:Arr)(b:Nat):List D:=[ZI (GI (JN a) b)]
def JP:Arr:=DA
def KX(a:Arr)(b:Nat):Arr:=List.getD (Kw a) b JP
def QgZ(a:Arr)(b:Nat):List Int:=Arr.sh (KX a b)
def Qg0(a:Arr)(b:Nat):List Int:=Arr.nu (KX a b)
def H6(a:Arr)(b:Nat):List Arr:=Arr.it (KX a b)
def JQ(a:Arr)(b:Nat):List D:=[ZI (Arr.k (KX a b)),SI (QgZ a b),SI (Qg0 a b),D.sl N4 (LN (H6 a b)) (fun i=>Arr.row (List.getD (H6 a b) i JP)) Mode.any]
def Q9(a:Nat)(b:Arr):Prop:=(SM a/\(SM (Qm b)/\(SM (QK b)/\(∀(i:Nat),i<QK b->SM (Q8 b i))/\True)/\(SM (Qt b)/\(∀(i:Nat),i<Qt b->SM (KW b i))/\True)/\(SM (Qu b)/\(∀(i:Nat),i<Qu b->SM (JQ b i))/\True)/\True)/\True)/\True
def XW(a:Arr)(b:Nat):Int:=GI (JN a) (Int.toNat (↑b:Int))
def JR(a:Arr)(b:Nat):Bool:=CJ (Qm a) (XW a b)
def H7(a:Nat)(b:Arr)(c:Nat):Prop:=SM a/\ifB (Qm b==2) (SM a/\Bd (Z0<=(↑c:Int)/\(↑c:Int)<KV b) (True/\∀(_y:Unit),True->∃(_x:Unit),True/\((!T7 (XW b c))=JR b c/\True)/\Q9 a b)) (∃(_x:Unit),True/\(false=JR b c/\True)/\Q9 a b)
def H8(a:Arr):Prop:=True/\∃(_y:Unit),True/\((17:Int)=Q7 a/\KU a)/\True/\True
def Qg1(a:Arr):D:=D.agg [ZI (Qm a),H2 a,D.sl N1 (Qt a) (fun i=>KW a i) Mode.any,D.sl N4 (Qu a) (fun i=>JQ a i) Mode.any]
def H9(a:Arr)(b:Nat):Prop:=SM (Qg1 a)/\SM (D.ref N0 b N0)/\SM (ZI Z0)/\SM (ZI Z0)/\True
def JS(a:Arr):Int:=(NI (Qu a))
def XX(a:Nat)(b:Arr)(c d:Int):Prop:=a<=Qu b/\Z0<=c/\c<=17/\Z0<=d/\d<=262145/\BS (List.drop a (Kw b)) c d=BS (Kw b) Z0 (KV b+JS b)
def JT(a:Arr)(b:Nat):Arr:=List.getD (Kw a) (Int.toNat (↑b:Int)) JP
def Qaa(a:Arr)(b:Nat):List Int:=Arr.sh (JT a b)
def Qab(a:Arr)(b:Nat):Nat:=LN (Qaa a b)
def Qac(a:Arr)(b:Nat):List Int:=Arr.nu (JT a b)
def Qad(a:Arr)(b:Nat):Nat:=LN (Qac a b)
def Qae(a:Arr)(b:Nat):List Arr:=Arr.it (JT a b)
def Qaf(a:Arr)(b:Nat):Nat:=LN (Qae a b)
def Qag(a:Arr):Prop:=True/\∃(_y:Unit),True/\((21:Int)=Q7 a/\KU a)/\True/\True
def Qah(a:Arr)(b:Nat):Prop:=(∃(x:Nat),XV x a/\(Z0=(↑x:Int)/\True)/\Q9 b a)/\∀(x:Nat),XV x a->SM b/\ifB (decide ((↑x:Int)<KV a)) ((SM b/\ifB (Qm a==Z1) (SM b/\Bd (Z0<=(↑x:Int)/\(↑x:Int)<KV a) (True/\∀(_y:Unit),True->ifB (!M9 (XW a x)) (∃(_x_1:Unit),True/\(true=JR a x/\True)/\Q9 b a) (H7 b a x))) (H7 b a x))/\∀(_x_1:Unit),True->ifB (JR a x) (H8 a) (H9 a b/\∃(y:Nat),XV y a/\Qt a-y<Qt a-x/\(IntKind.wrap IntKind.i64 ((↑x:Int)+Z1)=(↑y:Int)/\True)/\Q9 b a)) ((∃(x:Nat×Int×Int),XX x.1 a x.2.1 x.2.2/\(Z0=(NI x.1)/\Z0=x.2.1/\True)/\Q9 b a)/\∀(x:Nat×Int×Int),XX x.1 a x.2.1 x.2.2->SM b/\ifB (decide ((NI x.1)<JS a)) (SM b/\Bd (Z0<=(NI x.1)/\(NI x.1)<JS a) (∃(x_1:Arr),((Arr.k (JT a x.1)=Qm x_1/\(Qab a x.1=QK x_1/\(∀(i:Nat),i<Qab a x.1->[ZI (GI (Qaa a x.1) i)]=Q8 x_1 i)/\True)/\(Qad a x.1=Qt x_1/\(∀(i:Nat),i<Qad a x.1->[ZI (GI (Qac a x.1) i)]=KW x_1 i)/\True)/\(Qaf a x.1=Qu x_1/\(∀(i:Nat),i<Qaf a x.1->Arr.row (List.getD (Qae a x.1) i JP)=Arr.row (KX x_1 i))/\True)/\True)/\True)/\(True/\True)/\x_1∈Kw a/\∀(_y:Unit),True->ifB (Q7 x_1 != Z0) (H8 a) (H9 a b/\∃(y:Nat×Int×Int),XX y.1 a y.2.1 y.2.2/\Qu a-y.1<Qu a-x.1/\(IntKind.wrap IntKind.i64 ((NI x.1)+Z1)=(NI y.1)/\(if x.2.1<IntKind.wrap IntKind.i64 (Prod.fst (Prod.snd (Bj x_1))+Z1) then IntKind.wrap IntKind.i64 (Prod.fst (Prod.snd (Bj x_1))+Z1) else x.2.1)=y.2.1/\True)/\Q9 b a))) (ifB (decide ((16:Int)<x.2.1)) (Qag a) (SM b/\∃(x_1:Arr),((Qm a=Qm x_1/\(QK a=QK x_1/\(∀(i:Nat),i<QK a->Q8 a i=Q8 x_1 i)/\True)/\(Qt a=Qt x_1/\(∀(i:Nat),i<Qt a->KW a i=KW x_1 i)/\True)/\(Qu a=Qu x_1/\(∀(i:Nat),i<Qu a->JQ a i=JQ x_1 i)/\True)/\True)/\True)/\(True/\True)/\x_1=a/\∀(_y:Unit),True->ifB (decide ((262144:Int)<wtA x_1)) (Qag a) (True/\∃(_y:Unit),True/\(Z0=Q7 a/\x.2.1=Prod.fst (Prod.snd (Bj a))/\True)/\True/\True))))
theorem Bdm(a : Arr)(hok : a.ok)(ha : a.nu.length<=maxLen /\ a.it.length<=maxLen /\ a.sh.length<=maxLen)(ih : ∀b∈a.it, ACalls Try.prog 44 ((sRc Arr.row2 (fun _=>True) Mf).args b) ⟨[], []⟩ (SpecR (sRc Arr.row2 (fun _=>True) Mf) b)) :
  ACalls Try.prog 44 ((sRc Arr.row2 (fun _=>True) Mf).args a) ⟨[],[]⟩ (SpecR (sRc Arr.row2 (fun _=>True) Mf) a):=by
 refine Bg (A:=sRc Arr.row2 (fun _=>True) Mf) (x:=a) (E:=Eck a) (eOk (Bb2 hok ih) rfl) Try.func44 rfl (by kernel_rfl) rfl (by simp[sRc,Eck,EC,E0]) ?_
 simp only[sRc,Mf]
 refine Bl (T :=
  ∀(x:Nat),True->(SM x/\ifB (decide (Qm a<Z1)) (true=XT a/\True) (SM x/\decide ((3:Int)<Qm a)=XT a/\True))/\ifB (XT a) (True/\∃(y:Unit),True/\((14:Int)=Q7 a/\KU a)/\True/\True) (SM x/\HZ a/\∀(y:Unit),True->ifB (XU a != Z0) (True/\∃(y:Unit),True/\(XU a=Q7 a/\KU a)/\True/\True) (SM x/\SM x/\ifB (Qm a==3) (SM x/\SM x/\SM x/\True/\∀(y:Unit),True->H3 x a/\H4 a/\∀(y:Unit),True->ifB (H5 a) (JO a) (ifB (decide (Z0<KV a)) (JO a) (Qah a x))) (SM x/\SM x/\True/\∀(y:Unit),True->H3 x a/\H4 a/\∀(y:Unit),True->ifB (H5 a) (JO a) (ifB (decide (Z0<JS a)) (JO a) (Qah a x)))))) (by kernel_rfl) ?_
 delta DA GI LN N0 N1 N4 NI SI SM Z0 Z1 ZI Qm XT H3 H4 JN Qt Kw Qu H5 JO KV XV Q7 KW JP KX QgZ Qg0 H6 JQ Q9 XW JR KU H7 H8 Qg1 H9 JS XX JT Qaa Qab Qac QK Qad Qae Qaf Qag Qah Q8 HZ H1 XU H2
 have da:(default:Arr)=Arr.mk 0 [] [] []:=rfl
 simp only[<- da,Cs,Int.toNat_natCast,Bh,Bc,decide_eq_true_eq,decide_eq_false_iff_not,true_and,and_true,beq_iff_eq,bne_iff_ne,Bool.cond_true_left,beq_eq_false_iff_ne,ne_eq,exists_const,forall_const]
 have hA:=TQ a
 obtain ⟨l1,l2,l3⟩:=ha
 simp only[maxLen] at l1 l2 l3
 have tt:(∀i:Nat,i<a.sh.length->True)/\(∀i:Nat,i<a.nu.length->True)/\∀i:Nat,i<a.it.length->True:=⟨fun _ _=>trivial,fun _ _=>trivial,fun _ _=>trivial⟩
 have bad:∀e,Bz a.k a.sh a.nu.length a.it.length=e->e≠0->e=(Bj a).1/\0=(Bj a).2.1:=fun e h1 h2=>by
  rw[if_pos (by rw[h1];exact h2),h1] at hA
  rw[hA];exact⟨rfl,rfl⟩
 refine⟨⟨fun h=>by simp[h],fun h=>by simp[h]⟩,fun h=>bad 14 ?_ (by decide),fun h=>⟨BK _,fun hd=>bad _ ?_ hd,fun hd=>?_⟩⟩
 ·rw[Bool.or_eq_true,decide_eq_true_eq,decide_eq_true_eq] at h
  unfold Bz;rw[if_neg (by omega)]
 ·rw[Bool.or_eq_false_iff,decide_eq_false_iff_not,decide_eq_false_iff_not] at h
  unfold Bz;rw[if_pos (by omega),if_pos hd]
 rw[Bool.or_eq_false_iff,decide_eq_false_iff_not,decide_eq_false_iff_not] at h
 have hd0:B1 a.sh=0:=by simpa using hd
 have hk:a.k=1\/a.k=2\/a.k=3:=by omega
 have hf:Bz a.k a.sh a.nu.length a.it.length=if ((if a.k=3 then (a.it.length:Int) else a.nu.length)≠BW a.sh)\/((if a.k=3 then (a.nu.length:Int) else a.it.length)≠0) then 16 else 0:=by
  unfold Bz;rw[if_pos hk,if_neg (fun e=>e hd0)]
 have hsz:BA a.k a.nu.length a.it.length=if a.k=3 then (a.it.length:Int) else a.nu.length:=by
  unfold BA
  by_cases k3:a.k=3
  ·rw[if_neg (by omega),if_pos k3,if_pos k3]
  ·rw[if_pos (by omega),if_neg k3]
 rw[<- hsz] at hf
 refine⟨fun k3=>⟨⟨BK _,hd0⟩,fun hs=>bad 16 (by rw[hf,if_pos (.inl hs)]) (by decide),fun hs=>⟨fun ho=>bad 16 (by rw[hf,if_pos (.inr (by rw[if_pos k3];omega))]) (by decide),fun ho=>?_⟩⟩,
  fun k3=>⟨⟨BK _,hd0⟩,fun hs=>bad 16 (by rw[hf,if_pos (.inl hs)]) (by decide),fun hs=>⟨fun ho=>bad 16 (by rw[hf,if_pos (.inr (by rw[if_neg k3];omega))]) (by decide),fun ho=>?_⟩⟩⟩
 all_goals
  have hs':BA a.k a.nu.length a.it.length=BW a.sh:=by simpa using hs
  have h0:Bz a.k a.sh a.nu.length a.it.length=0:=by
   rw[hf,if_neg]
   rintro (h1 | h1)
   ·exact h1 hs'
   ·simp only[k3,if_true,if_false] at h1;omega
  clear hf hs hsz
  have hsm:=Er h0
  refine⟨⟨0,⟨Nat.zero_le _,by simp⟩,rfl,tt⟩,fun i hi=>⟨fun hlt=>?_,fun hge=>?_⟩⟩
  ·have hlt':i<a.nu.length:=by omega
   have hmem:a.nu.getD i 0∈a.nu:=by rw[List.getD_eq_getElem?_getD,List.getElem?_eq_getElem hlt'];exact List.getElem_mem hlt'
   have htk:a.nu.take (i+1)=a.nu.take i++[a.nu.getD i 0]:=by
    rw[List.take_add_one];simp[List.getD_eq_getElem?_getD,hlt']
   generalize a.nu.getD i 0=z at *
   refine⟨⟨fun k1=>⟨⟨by omega,hlt⟩,fun hn=>⟨by simp at hn;simp[CJ,k1,hn],tt⟩,fun hn=>⟨fun k2=>by omega,fun k2=>⟨by simp at hn;simp[CJ,k1,hn],tt⟩⟩⟩,fun k1=>⟨fun k2=>⟨⟨by omega,hlt⟩,by simp[CJ,k2],tt⟩,fun k2=>⟨by simp[CJ,k1,k2],tt⟩⟩⟩,fun hb=>?_,fun hb=>⟨i+1,⟨by omega,fun y hy=>?_⟩,by omega,Bb (by omega) (by omega),tt⟩⟩
   ·have:a.nu.any (CJ a.k)=true:=List.any_eq_true.2 ⟨z,hmem,hb⟩
    rw[if_neg (fun e=>e h0),if_pos this] at hA
    rw[hA]
    exact⟨rfl,rfl⟩
   ·rw[htk,List.mem_append] at hy
    rcases hy with hy | hy
    ·exact hi.2 y hy
    ·simp at hy;rw[hy];exact hb
  ·have hii:i=a.nu.length:=by omega
   rw[hii,List.take_length] at hi
   have hany:¬a.nu.any (CJ a.k)=true:=by
    rw[List.any_eq_true]
    rintro ⟨z,hz,hb⟩
    rw[hi.2 z hz] at hb
    cases hb
   rw[if_neg (fun e=>e h0),if_neg hany] at hA
   refine⟨⟨(0,0,(a.nu.length:Int)+a.it.length),⟨Nat.zero_le _,Int.le_refl _,by simp,by simp only;omega,by simp only;omega,by simp⟩,⟨rfl,rfl⟩,tt⟩,?_⟩
   rintro ⟨j,d,w⟩ ⟨b1,b2,b3,b4,b5,hch⟩
   simp only at b1 b2 b3 b4 b5 hch ⊢
   refine⟨fun hlt=>⟨⟨by omega,hlt⟩,?_⟩,fun hge=>?_⟩
   ·have hlt':j<a.it.length:=by omega
    have hbd:=B6 (a.it.getD j default)
    rw[CV hlt',BS] at hch
    refine⟨a.it.getD j default,⟨rfl,⟨rfl,fun _ _=>rfl⟩,⟨rfl,fun _ _=>rfl⟩,rfl,fun _ _=>rfl⟩,CC hlt',fun herr=>?_,fun hok=>?_⟩
    ·rw[if_pos herr] at hch
     rw[<- hch] at hA
     rw[hA]
     exact⟨rfl,rfl⟩
    ·have hok:(Bj (a.it.getD j default)).1=0:=by simpa using hok
     rw[if_neg (fun hne=>hne hok)] at hch
     have w1:IntKind.i64.wrap ((Bj (a.it.getD j default)).2.1+1)=(Bj (a.it.getD j default)).2.1+1:=Bb (by omega) (by omega)
     rw[w1]
     refine⟨(j+1,(if d<(Bj (a.it.getD j default)).2.1+1 then (Bj (a.it.getD j default)).2.1+1 else d),(if 262145<w+(Bj (a.it.getD j default)).2.2 then 262145 else w+(Bj (a.it.getD j default)).2.2)),⟨by simp only;omega,?_,?_,?_,?_,hch⟩,by simp only;omega,⟨Bb (by omega) (by omega),rfl⟩,tt⟩
     ·simp only;split<;>omega
     ·simp only;split<;>omega
     ·simp only;split<;>omega
     ·simp only;split<;>omega
   ·have hj:j=a.it.length:=by omega
    rw[hj,List.drop_length,BS] at hch
    have hw:=BdJ h0 hch.symm fun x _ hx=>Ub x hx
    rw[<- hch] at hA
    simp only at hA hw
    refine⟨fun hc=>?_,fun hc=>⟨a,⟨rfl,⟨rfl,fun _ _=>rfl⟩,⟨rfl,fun _ _=>rfl⟩,rfl,fun _ _=>rfl⟩,rfl,fun hq=>?_,fun hq=>?_⟩⟩
    ·rw[if_pos (.inl hc)] at hA
     rw[hA];exact⟨rfl,rfl⟩
    ·rw[if_pos (.inr (by omega))] at hA
     rw[hA];exact⟨rfl,rfl⟩
    ·rw[if_neg (by omega)] at hA
     rw[hA];exact⟨rfl,rfl⟩
theorem Bbw:∀(a:Arr),a.ok->ACalls Try.prog 44 ((sRc Arr.row2 (fun _=>True) Mf).args a) ⟨[],[]⟩ (SpecR (sRc Arr.row2 (fun _=>True) Mf) a)
 |.mk k s n is,h=>by
  have h':=h
  simp only[Arr.ok] at h'
  obtain ⟨_,_,_,h1,h2,h3,h4⟩:=h'
  refine Bdm (.mk k s n is) h ⟨h2,h3,h1⟩ fun b hb=>?_
  have hb':b∈is:=hb
  exact Bbw b ((CA _).1 h4 b hb')
termination_by a=>SizeOf.sizeOf a
decreasing_by
 have:=List.sizeOf_lt_of_mem hb'
 simp;omega
theorem BeK{k:Nat}{row:Arr->List D}{q q':Arr->Prop}{r:Arr->D}{b:Arr}(h:ACalls Try.prog k ((sRc row q r).args b) ⟨[],[]⟩ (SpecR (sRc row q r) b)):ACalls Try.prog k ((sRc row q' r).args b) ⟨[],[]⟩ (SpecR (sRc row q' r) b) :=
 h.mono fun _ _ ⟨y,h1,h2,h3⟩=>⟨y,h1,h2,h3⟩
def BcT(a:Arr):D:=.int .i64 (Bj a).1
def Bbm(a:Arr):Con:=fun k _ _=>match k with
 |44=>some (sRc Arr.row2 (fun b=>b=a) (fun b=>.tup [.int .i64 (Bj b).1,.int .i64 (Bj b).2.1]))
 |45=>some (sRc Arr.row1 (fun b=>b=a) (fun b=>.int .i64 (Bj b).1))
 |_=>none
theorem BcF{a:Arr}(ha:a.ok):ConOk Try.prog (Bbm a):=by
 intro k ds S A h
 unfold Bbm at h
 split at h
 ·injection h with h;subst h
  refine ConOk.plain (fun b hb=>?_) rfl rfl
  have hb:b=a:=hb
  rw[hb]
  exact BeK (r:=Mf) (Bbw a ha)
 ·injection h with h;subst h
  refine ConOk.plain (fun b hb=>?_) rfl rfl
  have hb:b=a:=hb
  rw[hb]
  exact (GU a ha).mono fun _ _ ⟨y,h1,h2,h3⟩=>⟨(),trivial,h2,h3⟩
 ·cases h
noncomputable def Err(a:Arr):Senv:=EC (Bbm a) 11 5 [] (fun _=>([],[]))
def Qai:Arr:=DA
def JU(a:Arr)(b:Nat):Arr:=List.getD (Arr.it a) b Qai
def Qg2(a:Arr)(b:Nat):List Int:=Arr.sh (JU a b)
def Qg3(a:Arr)(b:Nat):List Int:=Arr.nu (JU a b)
def Qaj(a:Arr)(b:Nat):List Arr:=Arr.it (JU a b)
def Qak(a:Arr)(b:Nat):List D:=[ZI (Arr.k (JU a b)),SI (Qg2 a b),SI (Qg3 a b),D.sl N4 (LN (Qaj a b)) (fun i=>Arr.row (List.getD (Qaj a b) i Qai)) Mode.any]
theorem Bel(a:Arr)(ha:a.ok):ACalls Try.prog 19 ((sRc Arr.row2 (fun _=>True) BcT).args a) ⟨[],[]⟩ (SpecR (sRc Arr.row2 (fun _=>True) BcT) a):=by
 refine Bg (A:=sRc Arr.row2 (fun _=>True) BcT) (x:=a) (E:=Err a) (eOk (BcF ha) rfl) Try.func19 rfl (by kernel_rfl) rfl (by simp[sRc,Err,EC,E0]) ?_
 simp only[sRc,BcT]
 refine Bl (T :=
  ∀(x:Nat),True->SM x/\∃(x:Arr),((Arr.k a=Arr.k x/\(LN (Arr.sh a)=LN (Arr.sh x)/\(∀(i:Nat),i<LN (Arr.sh a)->[ZI (GI (Arr.sh a) i)]=[ZI (GI (Arr.sh x) i)])/\True)/\(LN (Arr.nu a)=LN (Arr.nu x)/\(∀(i:Nat),i<LN (Arr.nu a)->[ZI (GI (Arr.nu a) i)]=[ZI (GI (Arr.nu x) i)])/\True)/\(LN (Arr.it a)=LN (Arr.it x)/\(∀(i:Nat),i<LN (Arr.it a)->Qak a i=Qak x i)/\True)/\True)/\True)/\(True/\True)/\x=a/\∀(y:Unit),True->RT (Prod.fst (Bj x)=Prod.fst (Bj a))) (by kernel_rfl) ?_
 delta DA GI LN N1 N4 SI SM Z0 ZI Qai JU Qg2 Qg3 Qaj Qak RT
 simp only[and_true,exists_const]
 intro x _
 exact⟨trivial,a,⟨rfl,⟨rfl,fun _ _=>rfl⟩,⟨rfl,fun _ _=>rfl⟩,rfl,fun _ _=>rfl⟩,trivial,rfl,fun _ _=>⟨trivial,trivial,rfl⟩⟩
def _root_.Go.Ab.cellsO(os:List (Nat×Nat×AObj))(k:Nat):List D:=match Bx os k with
 |some (_,.cells ds)=>ds
 |_=>[]
theorem ACalls.wkEnd{P:Program}{k:FuncId}{ds:List D}{S:St}{R R':AEnd->St->Prop}(h:ACalls P k ds S R)(hr:∀r S',R r S'->∃r',(∀C e,RepEnd C r e->RepEnd C r' e)/\R' r' S'):ACalls P k ds S R' :=
 ⟨h.1,fun C F args w ha hs=>(h.2 C F args w ha hs).mono fun _ _ ⟨C',_r,S',h1,h2,h3,h4⟩=>let ⟨r',q0,q2⟩:=hr _ _ h4;⟨C',r',S',h1,h2,q0 _ _ h3,q2⟩⟩
theorem BcJ(a:Arr):wkL a.row1 a.row:=by
 cases a with
 |mk k s n is =>
  simp only[Arr.row,Arr.row1,Arr.k,Arr.sh,Arr.nu,Arr.it,gsl,isl,wkL,wkD,Bp,Ba]
  refine⟨⟨by simp[kEq],trivial⟩,⟨by simp,trivial,fun i _=>by simp[kEq],by simp[BH]⟩,⟨by simp,trivial,fun i _=>by simp[kEq],by simp[BH]⟩,⟨by simp,by simp[Cf],fun i hi=>?_,by simp[BH]⟩,trivial⟩
  have:(G9 is).getD i []=(is.getD i default).row:=by
   rw[Cf];simp[List.getD_eq_getElem?_getD,hi]
  rw[this]
  exact Be _
theorem Bcw{k:Int}{s:List Int}{nn ni:Nat}(h:Bz k s nn ni=0):s.length<=8:=by
 unfold Bz at h
 by_cases hk:k=1\/k=2\/k=3
 ·rw[if_pos hk] at h
  by_cases hd:B1 s≠0
  ·rw[if_pos hd] at h;exact (hd h).elim
  ·have hd:B1 s=0:=by simpa using hd
   unfold B1 at hd
   by_cases h8:8<s.length
   ·rw[if_pos h8] at hd;omega
   ·omega
 ·rw[if_neg hk] at h;omega
def _root_.Go.Ab.refKey:D->Nat
 |.ref k _ _=>k
 |_=>0
def _root_.Go.Ab.vkey(os:List (Nat×Nat×AObj))(k:Nat):Nat:=match cellsO os k with
 | [_,_,_,.vs kv _ _ _ _]=>kv
 |_=>0
def zrow:List D:=[.int .i64 0,.sl 1 0 (fun _=>[]) .nil,.sl 1 0 (fun _=>[]) .nil,.sl 1 0 (fun _=>[]) .nil]
def clR(its:List Arr)(i j:Nat):List D:=match Nat.blt j i with
 |true=>(its.getD j default).row1
 |false=>zrow
def sCl(row row':Arr->List D)(q:Arr->Prop):FnSpec where
 β:=Arr
 α:=Unit
 args:=fun a=>[.agg (row a)]
 st:=fun _=>⟨[],[]⟩
 pre:=q
 post:=fun _ _=>True
 res:=fun a _=>.ret (.agg (row' a))
 out:=fun _ _=>⟨[],[]⟩
def RA(its:List Arr):Con:=fun k _ _=>match k with
 |54=>some (sCl Arr.row1 Arr.row1 (fun b=>b∈its))
 |_=>none
theorem Og{its:List Arr}{i j:Nat}(h:j<i):clR its i j=(its.getD j default).row1:=by
 unfold clR
 have:Nat.blt j i=true:=by simpa using h
 rw[this]
theorem Bbi{its:List Arr}{i j:Nat}(h:¬j<i):clR its i j=zrow:=by
 unfold clR
 cases hb:Nat.blt j i with
 |false=>rfl
 |true=>exact (h (by simpa using hb)).elim
noncomputable def Ecl(a:Arr):Senv:={ EC (RA a.it) 47 6 [32,33,34,35] (fun id=>match id with | 1=>([0,1,2,3,4,6,7,8,10,11,12,5,9,13,14,15,16],[5,9,13,15,16]) | 7=>([0,1,2,3,4,5,6],[4,6]) | _=>([],[])) with
 gz:=fun r=>match r with
  |9=>[.cell 17 1,.cell 17 2,.cell 17 3]
  |_=>[]
 cut:=fun id _ S=>match id with
  |1=>some { slots:=[3],keep:=[],α:=(Nat×Nat)×Nat×Nat,st:=fun y=>([.ref 17 y.2.2 0],⟨[(17,y.2.2,.cells [.int .i64 a.k,.vs 7 y.1.1 a.sh.length a.sh.length 1,.vs 11 y.1.2 a.nu.length a.nu.length 1,.vs 15 y.2.1 a.it.length a.it.length 4]),(15,y.2.1,.vec 4 a.it.length a.it.length (clR a.it 0)),(11,y.1.2,.vec 1 a.nu.length a.nu.length (fun _=>[.int .i64 0])),(7,y.1.1,.vec 1 a.sh.length a.sh.length (fun _=>[.int .i64 0]))]++S.objs,[]⟩),inv:=fun _=>True,mu:=fun _=>0 }
  |_=>none
 ann:=fun b env S=>match b with
  |0=>some { slots:=[34],keep:=[1,2,3,32,33],α:=Nat,st:=fun i=>([.int .i64 i],⟨Et S.objs (vkey S.objs (refKey (Ab.look env 3))) (.vec 4 a.it.length a.it.length (clR a.it i)),S.toks⟩),inv:=fun i=>i<=a.it.length,mu:=fun i=>a.it.length-i }
  |_=>none }
def Qy(a:Arr):Nat:=LN (Arr.sh a)
def Qb(a:Arr):Int:=(NI (Qy a))
def Qj(a:Arr):Int:=(8:Int)*Qb a
def QQ(a:Arr):List Arr:=Arr.it a
def Qi(a:Arr):Nat:=LN (QQ a)
def JV:Arr:=DA
def KY(a:Arr)(b:Nat):Arr:=List.getD (QQ a) b JV
def Qg4(a:Arr)(b:Nat):List Int:=Arr.sh (KY a b)
def Qg5(a:Arr)(b:Nat):List Int:=Arr.nu (KY a b)
def Qal(a:Arr)(b:Nat):List Arr:=Arr.it (KY a b)
def XY(a:Arr)(b:Nat):List D:=[ZI (Arr.k (KY a b)),SI (Qg4 a b),SI (Qg5 a b),D.sl N4 (LN (Qal a b)) (fun i=>Arr.row (List.getD (Qal a b) i JV)) Mode.any]
def Qg6(a:Arr):D:=D.sl N4 (Qi a) (fun i=>XY a i) Mode.any
def Qam(a:Arr):Prop:=SM (Qg6 a)
def Qn(a:Nat)(b:Arr):Prop:=SM a/\Qam b
def Qz(a:Arr):Nat:=LN (Arr.nu a)
def JW(a:Arr)(b:Nat):List D:=[ZI (GI (Arr.nu a) b)]
def Qan(a:Arr):D:=D.sl N1 (Qz a) (fun i=>JW a i) Mode.any
def Qo(a:Nat)(b:Arr):Prop:=SM a/\SM (Qan b)
def XZ(a:Arr):Int:=Arr.k a
def Qao(a:Arr):D:=ZI (XZ a)
def Qe(a:Nat)(b:Arr):Prop:=SM a/\SM (Qao b)
def Qd(a:Arr):Int:=(NI (Qz a))
def Qk(a:Arr):Int:=(8:Int)*Qd a
def Qr(a b c d:Nat):Prop:=a≠b/\c≠b/\d≠b/\True
def Qa(a:Arr):Int:=(NI (Qi a))
def Ql(a:Arr):Int:=(80:Int)*Qa a
def Qf(a b c d e:Nat):Prop:=a≠b/\Qr c b d e
def Qg(a b c d e f:Nat):Prop:=a≠b/\Qf c b d e f
def JX(a:Arr):Prop:=SM (XZ a)
def JY(a:Arr):Prop:=Int.toNat (Qb a)=Qy a
def JZ(a:Arr):Prop:=Int.toNat (Qd a)=Qz a
def J0(a:Arr):Prop:=Int.toNat (Qa a)=Qi a
def X0:D:=D.sl N1 N0 (fun _x=>[]) Mode.nil
def Qap:Prop:=SM [ZI Z0]
def X1:Prop:=SM N0/\(∀(i:Nat),i<N0->C8 (List D) [] [])/\True
def Ka(a:Arr):Prop:=SM (Qy a)
def J1(a:Arr)(b:Nat):List D:=[ZI (GI (Arr.sh a) b)]
def Qaq(a:Arr):Prop:=∀(i:Nat),i<Qy a->SM (J1 a i)
def Qar(a:Arr):Prop:=Ka a/\Qaq a/\True
def Kb(a:Arr):Prop:=SM (Qz a)
def Qas(a:Arr):Prop:=∀(i:Nat),i<Qz a->SM (JW a i)
def Qat(a:Arr):Prop:=Kb a/\Qas a/\True
def QL(a:Arr):Prop:=SM (Qi a)
def KZ(a:Nat)(b:Arr):Prop:=a<Qi b
def Qau(a b:Nat)(c:Arr):Prop:=SM a/\(SM Z0/\X1/\X1/\X1/\True)/\SM b/\(JX c/\Qar c/\Qat c/\(QL c/\(∀(i:Nat),KZ i c->SM (XY c i))/\True)/\True)/\True
def Qh(a:Nat)(b:Arr)(c d e f g:Nat):Prop:=Qe a b/\SM c/\∃(x:(Nat×Nat)×Nat×Nat),True/\(c=x.2.2/\True)/\(c=x.2.2/\(JX b/\(d=x.1.1/\JY b/\JY b)/\(e=x.1.2/\JZ b/\JZ b)/\(f=x.2.1/\J0 b/\J0 b)/\True)/\f=x.2.1/\(J0 b/\J0 b/\∀(i:Nat),i<Int.toNat (Qa b)->[ZI Z0,X0,X0,X0]=clR (QQ b) N0 i)/\e=x.1.2/\(JZ b/\JZ b/\∀(i:Nat),i<Int.toNat (Qd b)->Qap)/\d=x.1.1/\(JY b/\JY b/\∀(i:Nat),i<Int.toNat (Qb b)->Qap)/\Qau g a b)/\True
def Qav(a:Arr):D:=D.sl N1 (Qy a) (fun i=>J1 a i) Mode.any
def Qp(a:Nat)(b:Arr):Prop:=SM a/\SM (Qav b)
def Qaw(a:Arr)(b c d:Nat):Prop:=JX a/\(SM b/\Ka a/\Ka a)/\(SM c/\Kb a/\Kb a)/\(SM d/\QL a/\QL a)/\True
def J2(a:Arr)(b c:Nat):List D:=clR (QQ a) b c
def Qax(a:Nat)(b:Arr)(c d e:Nat):Prop:=SM a/\(Kb b/\Kb b/\Qas b)/\SM c/\(Ka b/\Ka b/\Qaq b)/\Qau d e b
def J3(a:Arr)(b:Nat):Arr:=List.getD (QQ a) (Int.toNat (↑b:Int)) JV
def Qay(a:Arr)(b:Nat):List Int:=Arr.sh (J3 a b)
def Qaz(a:Arr)(b:Nat):Nat:=LN (Qay a b)
def QaA(a:Arr)(b:Nat):List Int:=Arr.nu (J3 a b)
def QaB(a:Arr)(b:Nat):Nat:=LN (QaA a b)
def QaC(a:Arr)(b:Nat):List Arr:=Arr.it (J3 a b)
def QaD(a:Arr)(b:Nat):Nat:=LN (QaC a b)
def QaE(a:Arr)(b:Nat):List D:=Arr.row (KY a b)
def Qg7(a:Nat)(b:Arr):D:=D.vs (15:Nat) a (Qi b) (Qi b) N4
def X2(a:D):Bool:=match a with | D.unk=>false | D.agg _cs=>false | D.tup _ds=>false | _x=>true
theorem Bc9(a : Arr)(ha : a.nu.length<=1000000 /\ a.it.length<=1000000 /\ a.sh.length<=1000000)(hc : ConOk Try.prog (RA a.it)) :
  ACalls Try.prog 54 ((sCl Arr.row2 Arr.row2 (fun _=>True)).args a) ⟨[],[]⟩ (SpecR (sCl Arr.row2 Arr.row2 (fun _=>True)) a):=by
 refine Bg (A:=sCl Arr.row2 Arr.row2 (fun _=>True)) (x:=a) (E:=Ecl a) (eOk hc rfl) Try.func54 rfl (by kernel_rfl) rfl (by simp[sCl,Ecl,EC,E0]) ?_
 refine Bl (T :=
  ∀(x:Nat),True->∀(x_1:Nat),x≠x_1/\True->(SM x/\SM x/\SM x/\SM x/\Bd (Z0<=Qb a/\Qb a<=Qb a/\Qj a<=281474976710656/\Qb a<=9223372036854775807) (∀(x_2:Nat),x_1≠x_2/\x≠x_2/\True->Qn x a/\Qo x a/\Qe x a/\Bd (Z0<=Qd a/\Qd a<=Qd a/\Qk a<=281474976710656/\Qd a<=9223372036854775807) (∀(x_3:Nat),Qr x_2 x_3 x_1 x->Qn x a/\Qe x a/\Bd (Z0<=Qa a/\Qa a<=Qa a/\Ql a<=281474976710656/\Qa a<=9223372036854775807) (∀(x_4:Nat),Qf x_3 x_4 x_2 x_1 x->Qe x a/\∀(x_5:Nat),Qg x_4 x_5 x_3 x_2 x_1 x->Qh x a x_5 x_2 x_3 x_4 x_1)/\∀(x_4:Nat),Qf x_3 x_4 x_2 x_1 x->Qn x a/\Qe x a/\Bd (Z0<=Qa a/\Qa a<=Qa a/\Ql a<=281474976710656/\Qa a<=9223372036854775807) (∀(x_5:Nat),Qg x_4 x_5 x_3 x_2 x_1 x->Qh x a x_4 x_2 x_3 x_5 x_1))/\Bd (Z0<=Qa a/\Qa a<=Qa a/\Ql a<=281474976710656/\Qa a<=9223372036854775807) (∀(x_3:Nat),Qr x_2 x_3 x_1 x->Qo x a/\Qe x a/\Bd (Z0<=Qd a/\Qd a<=Qd a/\Qk a<=281474976710656/\Qd a<=9223372036854775807) (∀(x_4:Nat),Qf x_3 x_4 x_2 x_1 x->Qe x a/\∀(x_5:Nat),Qg x_4 x_5 x_3 x_2 x_1 x->Qh x a x_5 x_2 x_4 x_3 x_1)/\∀(x_4:Nat),Qf x_3 x_4 x_2 x_1 x->Qo x a/\Qe x a/\Bd (Z0<=Qd a/\Qd a<=Qd a/\Qk a<=281474976710656/\Qd a<=9223372036854775807) (∀(x_5:Nat),Qg x_4 x_5 x_3 x_2 x_1 x->Qh x a x_4 x_2 x_5 x_3 x_1))/\∀(x_3:Nat),Qr x_2 x_3 x_1 x->Qn x a/\Qo x a/\Qe x a/\Bd (Z0<=Qd a/\Qd a<=Qd a/\Qk a<=281474976710656/\Qd a<=9223372036854775807) (∀(x_4:Nat),Qf x_3 x_4 x_2 x_1 x->Qn x a/\Qe x a/\Bd (Z0<=Qa a/\Qa a<=Qa a/\Ql a<=281474976710656/\Qa a<=9223372036854775807) (∀(x_5:Nat),Qg x_4 x_5 x_3 x_2 x_1 x->Qh x a x_3 x_2 x_4 x_5 x_1))/\Bd (Z0<=Qa a/\Qa a<=Qa a/\Ql a<=281474976710656/\Qa a<=9223372036854775807) (∀(x_4:Nat),Qf x_3 x_4 x_2 x_1 x->Qo x a/\Qe x a/\Bd (Z0<=Qd a/\Qd a<=Qd a/\Qk a<=281474976710656/\Qd a<=9223372036854775807) (∀(x_5:Nat),Qg x_4 x_5 x_3 x_2 x_1 x->Qh x a x_3 x_2 x_5 x_4 x_1)))/\Bd (Z0<=Qd a/\Qd a<=Qd a/\Qk a<=281474976710656/\Qd a<=9223372036854775807) (∀(x_2:Nat),x_1≠x_2/\x≠x_2/\True->Qn x a/\Qp x a/\Qe x a/\Bd (Z0<=Qb a/\Qb a<=Qb a/\Qj a<=281474976710656/\Qb a<=9223372036854775807) (∀(x_3:Nat),Qr x_2 x_3 x_1 x->Qn x a/\Qe x a/\Bd (Z0<=Qa a/\Qa a<=Qa a/\Ql a<=281474976710656/\Qa a<=9223372036854775807) (∀(x_4:Nat),Qf x_3 x_4 x_2 x_1 x->Qe x a/\∀(x_5:Nat),Qg x_4 x_5 x_3 x_2 x_1 x->Qh x a x_5 x_3 x_2 x_4 x_1)/\∀(x_4:Nat),Qf x_3 x_4 x_2 x_1 x->Qn x a/\Qe x a/\Bd (Z0<=Qa a/\Qa a<=Qa a/\Ql a<=281474976710656/\Qa a<=9223372036854775807) (∀(x_5:Nat),Qg x_4 x_5 x_3 x_2 x_1 x->Qh x a x_4 x_3 x_2 x_5 x_1))/\Bd (Z0<=Qa a/\Qa a<=Qa a/\Ql a<=281474976710656/\Qa a<=9223372036854775807) (∀(x_3:Nat),Qr x_2 x_3 x_1 x->Qp x a/\Qe x a/\Bd (Z0<=Qb a/\Qb a<=Qb a/\Qj a<=281474976710656/\Qb a<=9223372036854775807) (∀(x_4:Nat),Qf x_3 x_4 x_2 x_1 x->Qe x a/\∀(x_5:Nat),Qg x_4 x_5 x_3 x_2 x_1 x->Qh x a x_5 x_4 x_2 x_3 x_1)/\∀(x_4:Nat),Qf x_3 x_4 x_2 x_1 x->Qp x a/\Qe x a/\Bd (Z0<=Qb a/\Qb a<=Qb a/\Qj a<=281474976710656/\Qb a<=9223372036854775807) (∀(x_5:Nat),Qg x_4 x_5 x_3 x_2 x_1 x->Qh x a x_4 x_5 x_2 x_3 x_1))/\∀(x_3:Nat),Qr x_2 x_3 x_1 x->Qn x a/\Qp x a/\Qe x a/\Bd (Z0<=Qb a/\Qb a<=Qb a/\Qj a<=281474976710656/\Qb a<=9223372036854775807) (∀(x_4:Nat),Qf x_3 x_4 x_2 x_1 x->Qn x a/\Qe x a/\Bd (Z0<=Qa a/\Qa a<=Qa a/\Ql a<=281474976710656/\Qa a<=9223372036854775807) (∀(x_5:Nat),Qg x_4 x_5 x_3 x_2 x_1 x->Qh x a x_3 x_4 x_2 x_5 x_1))/\Bd (Z0<=Qa a/\Qa a<=Qa a/\Ql a<=281474976710656/\Qa a<=9223372036854775807) (∀(x_4:Nat),Qf x_3 x_4 x_2 x_1 x->Qp x a/\Qe x a/\Bd (Z0<=Qb a/\Qb a<=Qb a/\Qj a<=281474976710656/\Qb a<=9223372036854775807) (∀(x_5:Nat),Qg x_4 x_5 x_3 x_2 x_1 x->Qh x a x_3 x_5 x_2 x_4 x_1)))/\Bd (Z0<=Qa a/\Qa a<=Qa a/\Ql a<=281474976710656/\Qa a<=9223372036854775807) (∀(x_2:Nat),x_1≠x_2/\x≠x_2/\True->Qo x a/\Qp x a/\Qe x a/\Bd (Z0<=Qb a/\Qb a<=Qb a/\Qj a<=281474976710656/\Qb a<=9223372036854775807) (∀(x_3:Nat),Qr x_2 x_3 x_1 x->Qo x a/\Qe x a/\Bd (Z0<=Qd a/\Qd a<=Qd a/\Qk a<=281474976710656/\Qd a<=9223372036854775807) (∀(x_4:Nat),Qf x_3 x_4 x_2 x_1 x->Qe x a/\∀(x_5:Nat),Qg x_4 x_5 x_3 x_2 x_1 x->Qh x a x_5 x_3 x_4 x_2 x_1)/\∀(x_4:Nat),Qf x_3 x_4 x_2 x_1 x->Qo x a/\Qe x a/\Bd (Z0<=Qd a/\Qd a<=Qd a/\Qk a<=281474976710656/\Qd a<=9223372036854775807) (∀(x_5:Nat),Qg x_4 x_5 x_3 x_2 x_1 x->Qh x a x_4 x_3 x_5 x_2 x_1))/\Bd (Z0<=Qd a/\Qd a<=Qd a/\Qk a<=281474976710656/\Qd a<=9223372036854775807) (∀(x_3:Nat),Qr x_2 x_3 x_1 x->Qp x a/\Qe x a/\Bd (Z0<=Qb a/\Qb a<=Qb a/\Qj a<=281474976710656/\Qb a<=9223372036854775807) (∀(x_4:Nat),Qf x_3 x_4 x_2 x_1 x->Qe x a/\∀(x_5:Nat),Qg x_4 x_5 x_3 x_2 x_1 x->Qh x a x_5 x_4 x_3 x_2 x_1)/\∀(x_4:Nat),Qf x_3 x_4 x_2 x_1 x->Qp x a/\Qe x a/\Bd (Z0<=Qb a/\Qb a<=Qb a/\Qj a<=281474976710656/\Qb a<=9223372036854775807) (∀(x_5:Nat),Qg x_4 x_5 x_3 x_2 x_1 x->Qh x a x_4 x_5 x_3 x_2 x_1))/\∀(x_3:Nat),Qr x_2 x_3 x_1 x->Qo x a/\Qp x a/\Qe x a/\Bd (Z0<=Qb a/\Qb a<=Qb a/\Qj a<=281474976710656/\Qb a<=9223372036854775807) (∀(x_4:Nat),Qf x_3 x_4 x_2 x_1 x->Qo x a/\Qe x a/\Bd (Z0<=Qd a/\Qd a<=Qd a/\Qk a<=281474976710656/\Qd a<=9223372036854775807) (∀(x_5:Nat),Qg x_4 x_5 x_3 x_2 x_1 x->Qh x a x_3 x_4 x_5 x_2 x_1))/\Bd (Z0<=Qd a/\Qd a<=Qd a/\Qk a<=281474976710656/\Qd a<=9223372036854775807) (∀(x_4:Nat),Qf x_3 x_4 x_2 x_1 x->Qp x a/\Qe x a/\Bd (Z0<=Qb a/\Qb a<=Qb a/\Qj a<=281474976710656/\Qb a<=9223372036854775807) (∀(x_5:Nat),Qg x_4 x_5 x_3 x_2 x_1 x->Qh x a x_3 x_5 x_4 x_2 x_1)))/\∀(x_2:Nat),x_1≠x_2/\x≠x_2/\True->Qn x a/\Qo x a/\Qp x a/\Qe x a/\Bd (Z0<=Qb a/\Qb a<=Qb a/\Qj a<=281474976710656/\Qb a<=9223372036854775807) (∀(x_3:Nat),Qr x_2 x_3 x_1 x->Qn x a/\Qo x a/\Qe x a/\Bd (Z0<=Qd a/\Qd a<=Qd a/\Qk a<=281474976710656/\Qd a<=9223372036854775807) (∀(x_4:Nat),Qf x_3 x_4 x_2 x_1 x->Qn x a/\Qe x a/\Bd (Z0<=Qa a/\Qa a<=Qa a/\Ql a<=281474976710656/\Qa a<=9223372036854775807) (∀(x_5:Nat),Qg x_4 x_5 x_3 x_2 x_1 x->Qh x a x_2 x_3 x_4 x_5 x_1))/\Bd (Z0<=Qa a/\Qa a<=Qa a/\Ql a<=281474976710656/\Qa a<=9223372036854775807) (∀(x_4:Nat),Qf x_3 x_4 x_2 x_1 x->Qo x a/\Qe x a/\Bd (Z0<=Qd a/\Qd a<=Qd a/\Qk a<=281474976710656/\Qd a<=9223372036854775807) (∀(x_5:Nat),Qg x_4 x_5 x_3 x_2 x_1 x->Qh x a x_2 x_3 x_5 x_4 x_1)))/\Bd (Z0<=Qd a/\Qd a<=Qd a/\Qk a<=281474976710656/\Qd a<=9223372036854775807) (∀(x_3:Nat),Qr x_2 x_3 x_1 x->Qn x a/\Qp x a/\Qe x a/\Bd (Z0<=Qb a/\Qb a<=Qb a/\Qj a<=281474976710656/\Qb a<=9223372036854775807) (∀(x_4:Nat),Qf x_3 x_4 x_2 x_1 x->Qn x a/\Qe x a/\Bd (Z0<=Qa a/\Qa a<=Qa a/\Ql a<=281474976710656/\Qa a<=9223372036854775807) (∀(x_5:Nat),Qg x_4 x_5 x_3 x_2 x_1 x->Qh x a x_2 x_4 x_3 x_5 x_1))/\Bd (Z0<=Qa a/\Qa a<=Qa a/\Ql a<=281474976710656/\Qa a<=9223372036854775807) (∀(x_4:Nat),Qf x_3 x_4 x_2 x_1 x->Qp x a/\Qe x a/\Bd (Z0<=Qb a/\Qb a<=Qb a/\Qj a<=281474976710656/\Qb a<=9223372036854775807) (∀(x_5:Nat),Qg x_4 x_5 x_3 x_2 x_1 x->Qh x a x_2 x_5 x_3 x_4 x_1)))/\Bd (Z0<=Qa a/\Qa a<=Qa a/\Ql a<=281474976710656/\Qa a<=9223372036854775807) (∀(x_3:Nat),Qr x_2 x_3 x_1 x->Qo x a/\Qp x a/\Qe x a/\Bd (Z0<=Qb a/\Qb a<=Qb a/\Qj a<=281474976710656/\Qb a<=9223372036854775807) (∀(x_4:Nat),Qf x_3 x_4 x_2 x_1 x->Qo x a/\Qe x a/\Bd (Z0<=Qd a/\Qd a<=Qd a/\Qk a<=281474976710656/\Qd a<=9223372036854775807) (∀(x_5:Nat),Qg x_4 x_5 x_3 x_2 x_1 x->Qh x a x_2 x_4 x_5 x_3 x_1))/\Bd (Z0<=Qd a/\Qd a<=Qd a/\Qk a<=281474976710656/\Qd a<=9223372036854775807) (∀(x_4:Nat),Qf x_3 x_4 x_2 x_1 x->Qp x a/\Qe x a/\Bd (Z0<=Qb a/\Qb a<=Qb a/\Qj a<=281474976710656/\Qb a<=9223372036854775807) (∀(x_5:Nat),Qg x_4 x_5 x_3 x_2 x_1 x->Qh x a x_2 x_5 x_4 x_3 x_1))))/\∀(x_2:(Nat×Nat)×Nat×Nat),True->SM x_2.2.2/\SM x/\SM x_2.1.1/\Qy a<=Qy a/\Ka a/\SM x_2.2.2/\SM x/\SM x_2.1.2/\Qz a<=Qz a/\Kb a/\SM x/\(∃(x_3:Nat),x_3<=Qi a/\(Z0=(↑x_3:Int)/\True)/\(SM x_2.2.2/\Qaw a x_2.1.1 x_2.1.2 x_2.2.1/\SM x_2.2.1/\(QL a/\QL a/\∀(i:Nat),KZ i a->clR (QQ a) N0 i=J2 a x_3 i)/\Qax x_2.1.2 a x_2.1.1 x_1 x)/\True)/\∀(x_3:Nat),x_3<=Qi a->ifB (decide ((↑x_3:Int)<Qa a)) (Bd (Z0<=(↑x_3:Int)/\(↑x_3:Int)<Qa a) (∀(x_4:Nat),x_2.2.2≠x_4/\Qg x_2.2.1 x_4 x_2.1.2 x_2.1.1 x_1 x->SM x_4/\SM x_2.2.2/\SM x_4/\∃(x_5:Arr),((Arr.k (J3 a x_3)=XZ x_5/\(Qaz a x_3=Qy x_5/\(∀(i:Nat),i<Qaz a x_3->[ZI (GI (Qay a x_3) i)]=J1 x_5 i)/\True)/\(QaB a x_3=Qz x_5/\(∀(i:Nat),i<QaB a x_3->[ZI (GI (QaA a x_3) i)]=JW x_5 i)/\True)/\(QaD a x_3=Qi x_5/\(∀(i:Nat),i<QaD a x_3->Arr.row (List.getD (QaC a x_3) i JV)=QaE x_5 i)/\True)/\True)/\True)/\(True/\True)/\x_5∈QQ a/\∀(y:Unit),True->(SM x_2.2.2/\SM (Qg7 x_2.2.1 a))/\Bd (Z0<=(↑x_3:Int)/\(↑x_3:Int)<Qa a) (SM x_2.2.1/\Bd (Int.toNat (↑x_3:Int)<Qi a) ((SM (D.ref N0 x N0)/\SM (D.ref (max (N0+N1) N0) x_1 N0)/\SM (D.ref (17:Nat) x_2.2.2 N0)/\Qam a/\SM (ZI (Qa a))/\True)/\∃(y:Nat),y<=Qi a/\Qi a-y<Qi a-x_3/\(IntKind.wrap IntKind.i64 ((↑x_3:Int)+Z1)=(↑y:Int)/\True)/\(SM x_2.2.2/\Qaw a x_2.1.1 x_2.1.2 x_2.2.1/\SM x_2.2.1/\(QL a/\QL a/\∀(i:Nat),KZ i a->Gk (clR (QQ a) x_3) (Int.toNat (↑x_3:Int)) [Qao x_5,Qav x_5,Qan x_5,D.sl N4 (Qi x_5) (fun i=>QaE x_5 i) Mode.any] i=J2 a y i)/\Qax x_2.1.2 a x_2.1.1 x_1 x)/\True)))) (SM x_2.1.1/\Ka a/\Bd (Qy a<=Qy a) ((∀(i:Nat),i<Qy a->(List.all (J1 a i) fun (x:D)=>X2 x)=true)/\∀(t:Nat),SM x_2.1.2/\Kb a/\Bd (Qz a<=Qz a) ((∀(i:Nat),i<Qz a->(List.all (JW a i) fun (x:D)=>X2 x)=true)/\∀(t:Nat),SM x_2.2.1/\QL a/\Bd (Qi a<=Qi a) ((∀(i:Nat),KZ i a->(List.all (J2 a x_3 i) fun (x:D)=>X2 x)=true)/\∀(t:Nat),SM x_2.2.2/\SM x_1/\(SM x_1/\True)/\∃(y:Unit),True/\(JX a/\Qar a/\Qat a/\(QL a/\(∀(i:Nat),KZ i a->J2 a x_3 i=XY a i)/\True)/\True)/\True/\True))))) (by kernel_rfl) ?_
 delta DA GI LN N0 N1 N4 NI SI SM Z0 Z1 ZI Qy Qb XY Qg6 Qam Qn Qz JW Qan Qo XZ Qao Qj Qe Qd Qk Qr Qa Ql Qf Qg JX JY QQ JZ J0 X0 Qap X1 Ka J1 Qaq Qar Kb Qi Qas Qat QL KZ Qau Qh Qav Qp Qaw J2 JV Qax J3 Qay Qaz QaA QaB QaC QaD QaE Qg7 KY X2 Qg4 Qg5 Qal
 have da:(default:Arr)=Arr.mk 0 [] [] []:=rfl
 simp only[<- da,eq_self,implies_true,Int.toNat_natCast,Bh,Bc,decide_eq_true_eq,decide_eq_false_iff_not,true_and,and_true,exists_const,forall_const,Nat.le_refl]
 obtain ⟨l1,l2,l3⟩:=ha
 refine fun x x1 hx=>⟨?_,?_⟩
 ·repeat' (first | (refine⟨((_,_),_,_),rfl,rfl,⟨rfl,rfl,rfl⟩,rfl,fun _ _=>rfl,rfl,rfl⟩) | (refine And.intro ?_ ?_) | intro _ | omega)
 refine fun y=>⟨⟨0,Nat.zero_le _,rfl,fun _ _=>rfl⟩,fun i hi=>⟨fun hlt=>⟨⟨by omega,hlt⟩,fun x4 _=>⟨a.it.getD i default,⟨rfl,⟨rfl,fun _ _=>rfl⟩,⟨rfl,fun _ _=>rfl⟩,rfl,fun _ _=>rfl⟩,CC (by omega),⟨by omega,hlt⟩,by omega,i+1,by omega,by omega,Bb (by omega) (by omega),fun j hj=>?_⟩⟩,fun hge=>⟨fun _ _=>rfl,fun _ _=>rfl,fun j hj=>?_,fun j hj=>?_⟩⟩⟩
 ·by_cases e:j=i
  ·subst e
   rw[Og (by omega)]
   simp only[Gk,if_true]
   rfl
  ·simp only[Gk,e,if_false]
   by_cases e2:j<i
   ·rw[Og e2,Og (by omega)]
   ·rw[Bbi e2,Bbi (by omega)]
 ·rw[Og (by omega)];rfl
 ·rw[Og (by omega)];rfl
theorem O4(a:Arr):wkL a.row2 a.row1:=by
 simp only[Arr.row1,Arr.row2,gsl,isl,wkL,wkD,Bp,Ba]
 exact⟨⟨by simp[kEq],trivial⟩,⟨by simp,trivial,fun i _=>by simp[kEq],by simp[BH]⟩,⟨by simp,trivial,fun i _=>by simp[kEq],by simp[BH]⟩,⟨by simp,trivial,fun i _=>BcJ _,by simp[BH]⟩,trivial⟩
theorem OT:∀(l:List Arr) (d w:Int) (r:Int×Int),BS l d w=some r->∀x∈l,(Bj x).1=0
 | [],_,_,_,_,x,hx=>by cases hx
 |y::l,d,w,r,h,x,hx=>by
  rw[BS] at h
  split at h
  ·cases h
  ·rename_i hy
   rcases List.mem_cons.1 hx with rfl | hx
   ·simpa using hy
   ·exact OT l _ _ r h x hx
theorem IQ{k:Int}{s n:List Int}{is:List Arr}(h:(Bj (.mk k s n is)).1=0):s.length<=8/\n.length<=65536/\is.length<=65536/\∀x∈is,(Bj x).1=0:=by
 rw[Bj] at h
 by_cases h0:Bz k s n.length is.length≠0
 ·rw[if_pos h0] at h;exact (h0 h).elim
 ·rw[if_neg h0] at h
  have h0:Bz k s n.length is.length=0:=by simpa using h0
  have hs:=Er h0
  refine⟨Bcw h0,hs.1,hs.2,?_⟩
  by_cases hb:n.any (CJ k)=true
  ·rw[if_pos hb] at h;simp at h
  ·rw[if_neg hb] at h
   cases hr:BS is 0 ((n.length:Int)+is.length) with
   |none=>rw[hr] at h;simp at h
   |some r=>exact OT _ _ _ r hr
theorem WM:∀(a:Arr),(Bj a).1=0->ACalls Try.prog 54 [.agg a.row1] ⟨[],[]⟩ (SpecR (sCl Arr.row1 Arr.row1 (fun _=>True)) a)
 |.mk k s n is,h=>by
  obtain ⟨h1,h2,h3,h4⟩:=IQ h
  have hc:ConOk Try.prog (RA (Arr.mk k s n is).it):=by
   intro k' ds S A hk
   unfold RA at hk
   split at hk
   ·injection hk with hk;subst hk
    refine ConOk.plain (fun (b:Arr) hb=>?_) rfl rfl
    have hb':b∈is:=hb
    exact (WM b (h4 b hb')).mono fun _ _ ⟨y,q1,q2,q3⟩=>⟨y,q1,q2,q3⟩
   ·cases hk
  have hm:=Bc9 (.mk k s n is) ⟨by show n.length<=_;omega,by show is.length<=_;omega,by show s.length<=_;omega⟩ hc
  have hm2:ACalls Try.prog 54 [.agg (Arr.mk k s n is).row1] ⟨[],[]⟩ (SpecR (sCl Arr.row2 Arr.row2 (fun _=>True)) (.mk k s n is)):=by
   refine ACalls.wkArgs hm ?_
   simp only[sCl,wkL,wkD]
   exact⟨CF _,trivial⟩
  refine ACalls.wkEnd hm2 fun r S' ⟨y,q1,q2,q3⟩=>?_
  subst q2 q3
  refine⟨.ret (.agg (Arr.mk k s n is).row1),fun C e he=>?_,⟨(),trivial,rfl,rfl⟩⟩
  cases e with
  |returned v =>
   refine EX (.agg (Arr.mk k s n is).row2) _ ?_ C v he
   simp only[wkD]
   exact O4 _
  |panicked _=>exact he.elim
  |outgrown=>exact he.elim
termination_by a=>SizeOf.sizeOf a
decreasing_by
 have:=List.sizeOf_lt_of_mem hb'
 simp;omega
def pzL:List Int->Nat
 | []=>1
 |d::r=>if d=0 then pzL r else d.toNat*pzL r
theorem BbI:∀l:List Int,(∀d∈l,0<=d)->1<=pzL l
 | [],_=>Nat.le_refl _
 |d::r,h=>by
  have h1:=BbI r fun x hx=>h x (by simp[hx])
  have h2:=h d (by simp)
  rw[pzL]
  split
  ·exact h1
  ·exact Nat.mul_pos (by omega) h1
theorem Il:∀(l:List Int) (p:Nat) (q:Int),1<=p->p<=65536->(goO l p=some q↔(∀d∈l,0<=d/\d<=65536)/\p*pzL l<=65536/\q=((p*pzL l:Nat):Int))
 | [],p,q,h1,h2=>by
  simp only[goO,pzL,Nat.mul_one,Option.some.injEq]
  constructor
  ·rintro rfl;exact⟨fun _ h=>(nomatch h),h2,rfl⟩
  ·rintro ⟨_,_,h⟩;exact h.symm
 |d::r,p,q,h1,h2=>by
  rw[goO]
  by_cases hd:d<0\/65536<d
  ·rw[if_pos hd]
   constructor
   ·intro h;cases h
   ·rintro ⟨h,_⟩
    have:=h d (by simp)
    omega
  ·rw[if_neg hd]
   by_cases h0:d=0
   ·rw[if_pos h0,Il r p q h1 h2,pzL,if_pos h0]
    simp only[List.forall_mem_cons]
    constructor
    ·rintro ⟨a,b⟩;exact⟨⟨by omega,a⟩,b⟩
    ·rintro ⟨⟨_,a⟩,b⟩;exact⟨a,b⟩
   ·rw[if_neg h0]
    have e:(p:Int)*d=((p*d.toNat:Nat):Int):=by
     rw[Int.natCast_mul,Int.toNat_of_nonneg (by omega)]
    rw[e,pzL,if_neg h0,<- Nat.mul_assoc]
    by_cases hb:65536<((p*d.toNat:Nat):Int)
    ·rw[if_pos hb]
     constructor
     ·intro h;cases h
     ·rintro ⟨a,b,_⟩
      have:=BbI r fun x hx=>(a x (by simp[hx])).1
      have:p*d.toNat*1<=p*d.toNat*pzL r:=Nat.mul_le_mul_left _ this
      omega
    ·rw[if_neg hb,Il r (p*d.toNat) q (Nat.mul_pos h1 (by omega)) (by omega)]
     simp only[List.forall_mem_cons]
     constructor
     ·rintro ⟨a,b⟩;exact⟨⟨by omega,a⟩,b⟩
     ·rintro ⟨⟨_,a⟩,b⟩;exact⟨a,b⟩
theorem Bn(l:List Int):Bt l=true↔l.length<=8/\(∀d∈l,0<=d/\d<=65536)/\pzL l<=65536:=by
 unfold Bt
 rw[Bool.and_eq_true,decide_eq_true_iff,Option.isSome_iff_exists]
 have h:=fun q=>Il l 1 q (Nat.le_refl 1) (by omega)
 simp only[Nat.one_mul] at h
 constructor
 ·rintro ⟨h1,q,hq⟩
  obtain ⟨a,b,_⟩:=(h q).1 hq
  exact⟨h1,a,b⟩
 ·rintro ⟨h1,a,b⟩
  exact⟨h1,_,(h _).2 ⟨a,b,rfl⟩⟩
def shN(l:List Int):List Nat:=l.map Int.toNat
theorem RS:∀ {l:List Int},(∀d∈l,0<=d)->(l.contains 0=false)->pzL l=prL (shN l)
 | [],_,_=>rfl
 |d::r,h,hc=>by
  simp only[List.contains_cons,Bool.or_eq_false_iff,beq_eq_false_iff_ne] at hc
  have hd:d≠0:=fun e=>hc.1 e.symm
  rw[pzL,if_neg hd,RS (fun x hx=>h x (by simp[hx])) hc.2]
  rfl
theorem Ml:∀ {l:List Int},l.contains 0=true->prL (shN l)=0
 |d::r,h=>by
  rw[List.contains_cons,Bool.or_eq_true,beq_iff_eq] at h
  show d.toNat*prL (shN r)=0
  rcases h with h | h
  ·rw[<- h];simp
  ·rw[Ml h,Nat.mul_zero]
theorem Iw{l:List Int}(h:Bt l=true):BW l=(prL (shN l):Nat):=by
 obtain ⟨h1,h2,h3⟩:=(Bn l).1 h
 unfold BW
 cases hc:l.contains 0 with
 |true=>rw[if_pos rfl,Ml hc];rfl
 |false =>
  have h4:=(Il l 1 _ (Nat.le_refl 1) (by omega)).2 ⟨h2,by simpa using h3,rfl⟩
  have h5:goO l 1=some ((pzL l:Nat):Int):=by simpa using h4
  rw[h5,RS (fun d hd=>(h2 d hd).1) hc]
  simp
theorem MD:∀ {l l':List Arr},l'.Sublist l->∀ {d w d' w':Int} {r:Int×Int},BS l d w=some r->d'<=d->w'<=w->w<=262145->∃r',BS l' d' w'=some r'/\r'.1<=r.1/\r'.2<=r.2
 |_,_,.slnil,d,w,d',w',r,h,hd,hw,_=>by
  rw[BS] at h;injection h with h;subst h
  exact⟨(d',w'),by rw[BS],hd,hw⟩
 |_,_,.cons x s,d,w,d',w',r,h,hd,hw,hb=>by
  rw[BS] at h
  have hx:=B6 x
  split at h
  ·cases h
  ·refine MD s h ?_ ?_ ?_
   ·split<;>omega
   ·split<;>omega
   ·split<;>omega
 |_,_,.cons_cons x s,d,w,d',w',r,h,hd,hw,hb=>by
  rw[BS] at h ⊢
  have hx:=B6 x
  split at h
  ·cases h
  ·rename_i h0
   rw[if_neg h0]
   refine MD s h ?_ ?_ ?_
   ·split<;>split<;>omega
   ·split<;>split<;>omega
   ·split<;>omega
theorem Bbn{k:Int}{s s' nu nu':List Int}{it it':List Arr}(h:(Bj (.mk k s nu it)).1=0)(hf:Bz k s' nu'.length it'.length=0)(h1:nu'.Sublist nu)(h2:it'.Sublist it):(Bj (.mk k s' nu' it')).1=0:=by
 obtain ⟨_,z1,z2,_⟩:=IQ h
 rw[Bj] at h ⊢
 rw[if_neg (by rw[hf];decide)]
 split at h
 ·rename_i h0;exact (h0 h).elim
 ·split at h
  ·simp at h
  ·rename_i hb
   have hb2:¬nu'.any (CJ k)=true:=fun q=>by
    apply hb
    rw[List.any_eq_true] at q ⊢
    obtain ⟨x,hx,e⟩:=q
    exact⟨x,h1.subset hx,e⟩
   rw[if_neg hb2]
   cases hc:BS it 0 ((nu.length:Int)+it.length) with
   |none=>rw[hc] at h;simp at h
   |some r =>
    rw[hc] at h
    simp only at h
    split at h
    ·simp at h
    ·rename_i hr
     have l1:=h1.length_le
     have l2:=h2.length_le
     have hb3:(nu.length:Int)+it.length<=262145:=by
      unfold Bz at hf
      omega
     obtain ⟨r',e1,e2,e3⟩:=MD h2 hc (Int.le_refl 0) (show (nu'.length:Int)+it'.length<=(nu.length:Int)+it.length by omega) hb3
     rw[e1]
     simp only
     rw[if_neg (by omega)]
def Bs(a:Arr):Nat:=prL (shN a.sh.tail)
theorem Cr{a:Arr}(h:(Bj a).1=0):Bz a.k a.sh a.nu.length a.it.length=0:=by
 cases a with
 |mk k s n is =>
  rw[Bj] at h
  by_cases h0:Bz k s n.length is.length≠0
  ·rw[if_pos h0] at h;exact (h0 h).elim
  ·exact Decidable.not_not.1 h0
theorem MW(s:List Int):B1 s=0↔Bt s=true:=by
 rw[Bn]
 unfold B1
 have h:=fun q=>Il s 1 q (Nat.le_refl 1) (by omega)
 simp only[Nat.one_mul] at h
 constructor
 ·intro e
  split at e
  ·omega
  ·split at e
   ·omega
   ·split at e
    ·rename_i h1 _ h3
     obtain ⟨q,hq⟩:=Option.isSome_iff_exists.1 h3
     obtain ⟨a,b,_⟩:=(h q).1 hq
     exact⟨by omega,a,b⟩
    ·omega
 ·rintro ⟨h1,h2,h3⟩
  have h5:goO s 1=some ((pzL s:Nat):Int):=by simpa using (h _).2 ⟨h2,h3,rfl⟩
  rw[if_neg (by omega),if_neg,h5]
  ·rfl
  ·intro q
   rw[List.any_eq_true] at q
   obtain ⟨x,hx,e⟩:=q
   have:=h2 x hx
   simp at e
   omega
theorem B7{k:Int}{s:List Int}{nn ni:Nat}:Bz k s nn ni=0↔(k=1\/k=2\/k=3)/\Bt s=true/\(if k=3 then ni else nn)=prL (shN s)/\(if k=3 then nn else ni)=0:=by
 unfold Bz
 by_cases hk:k=1\/k=2\/k=3
 ·rw[if_pos hk]
  by_cases hd:B1 s=0
  ·have hr:=(MW s).1 hd
   rw[if_neg (by simpa using hd),Iw hr]
   simp only[hk,hr,true_and]
   split<;>split<;>omega
  ·rw[if_pos hd]
   have hr:¬Bt s=true:=fun q=>hd ((MW s).2 q)
   simp only[hr]
   simpa using hd
 ·rw[if_neg hk]
  simp only[hk,false_and,iff_false]
  decide
theorem Ch{α:Type}(l:List α)(k i:Nat)(z:α):(l.drop k).getD i z=l.getD (k+i) z:=by
 simp[List.getD_eq_getElem?_getD]
theorem Ep{α:Type}(l:List α){k i:Nat}(h:i<k)(z:α):(l.take k).getD i z=l.getD i z:=by
 simp[List.getD_eq_getElem?_getD,List.getElem?_take_of_lt h]
def hp(s:List Nat)(ix:Nat->Nat):Nat->Nat
 |0=>0
 |j+1=>hp s ix j*s.getD j 0+ix j
noncomputable def Esiz:Senv:=EC O1 8 1 [2,5] (fun _=>([],[]))
def QaF(a:List Int):Prop:=IntsP (LN a) fun i=>[ZI (GI a i)]
def QaG(a:List Int):List Int:=BD (LN a) fun i=>[ZI (GI a i)]
def QaH(a:List Int):Bool:=Bt (QaG a)
theorem Mp(l:List Int)(h:Bt l=true):ACalls Try.prog 32 [isl l .any] ⟨[],[]⟩ (SpecR (sC [isl l .any] (.int .i64 (BW l))) ()):=by
 refine Bg (A:=sC _ _) (x:=()) (E:=Esiz) (eOk Is rfl) Try.func32 rfl (by kernel_rfl) rfl (by simp[sC,Esiz,EC,E0]) ?_
 refine Bl (T :=
  QaF l/\∀(y:Unit),True->ifB (!QaH l) (RT ((-1:Int)=BW l)) ((QaF l/\QaH l=true)/\∀(y:Unit),True->RT (BW (QaG l)=BW l))) (by kernel_rfl) ?_
 delta GI LN Z0 ZI QaF QaG QaH RT
 simp only[Cs,Bh,true_and,and_true,exists_const,forall_const,h]
 exact⟨BK l,fun h=>(by simp at h),fun _=>BK l⟩
theorem Gv(a:Arr):wkL a.row a.row1:=by
 cases a with
 |mk k s n is =>
  simp only[Arr.row,Arr.row1,Arr.k,Arr.sh,Arr.nu,Arr.it,gsl,isl,wkL,wkD,Bp,Ba]
  refine⟨⟨by simp[kEq],trivial⟩,⟨by simp,trivial,fun i _=>by simp[kEq],by simp[BH]⟩,⟨by simp,trivial,fun i _=>by simp[kEq],by simp[BH]⟩,⟨by simp,by simp[Cf],fun i hi=>?_,by simp[BH]⟩,trivial⟩
  have:(G9 is).getD i []=(is.getD i default).row:=by
   have hi:i<is.length:=by simpa[Cf] using hi
   rw[Cf];simp[List.getD_eq_getElem?_getD,hi]
  rw[this]
  exact Be _
def CD(k:Nat)(ds:List D)(d:D):Prop:=ACalls Try.prog k ds ⟨[],[]⟩ (SpecR (sC ds d) ())
def CS(k:Nat)(ds:List D)(S:St)(d:D):Prop:=ACalls Try.prog k ds S (fun r S'=>r=.ret d/\S'=S)
theorem CS.frame{k:Nat}{ds:List D}{S:St}{d:D}(F:St)(h:CS k ds S d):CS k ds (S.add F) d:=by
 refine ((ACalls.frame h F).from fun C F' w H=>H).mono ?_
 rintro r S' ⟨S0,⟨rfl,rfl⟩,rfl⟩
 exact⟨rfl,rfl⟩
theorem CD.at_{k:Nat}{ds:List D}{d:D}(h:CD k ds d)(S:St):CS k ds S d:=ACalls.whole S h
theorem CS.wk{k:Nat}{ds us:List D}{S:St}{d:D}(h:CS k us S d)(hw:wkL ds us):CS k ds S d:=ACalls.wkArgs h hw
theorem CS.cd{k:Nat}{ds:List D}{d:D}(h:CS k ds ⟨[],[]⟩ d):CD k ds d:=ACalls.mono h fun _ _ ⟨h1,h2⟩=>⟨(),trivial,h1,h2⟩
theorem B0{k : Nat}{β : Type}{ds : List D}{S : St}{d : β -> D}{p : β -> Prop}(h : ∀x, p x -> CS k ds S (d x)) :
  (∀x,(pE ds S d p).pre x->ACalls Try.prog k ((pE ds S d p).args x) ((pE ds S d p).st x) (SpecR (pE ds S d p) x))/\(∀x,(pE ds S d p).fit=some x->(pE ds S d p).pre x->Bo ds ((pE ds S d p).args x)/\leS ((pE ds S d p).st x) S)/\((pE ds S d p).all=true->∀x,(pE ds S d p).pre x->Bo ds ((pE ds S d p).args x)/\(pE ds S d p).st x=S) :=
 ⟨fun x hp=>ACalls.mono (h x hp) fun _ _ ⟨h1,h2⟩=>⟨(),trivial,h1,h2⟩,fun _ e=>(by cases e),fun _ _ _=>⟨Bq ds,rfl⟩⟩
def pA(ds:List D)(S:St)(d:D)(p:Prop):FnSpec:=pE (β:=Unit) ds S (fun _=>d) fun _=>p
theorem Bv{k : Nat}{ds : List D}{S : St}{d : D}{p : Prop}(h : p -> CS k ds S d) :
  (∀x,(pA ds S d p).pre x->ACalls Try.prog k ((pA ds S d p).args x) ((pA ds S d p).st x) (SpecR (pA ds S d p) x))/\(∀x,(pA ds S d p).fit=some x->(pA ds S d p).pre x->Bo ds ((pA ds S d p).args x)/\leS ((pA ds S d p).st x) S)/\((pA ds S d p).all=true->∀x,(pA ds S d p).pre x->Bo ds ((pA ds S d p).args x)/\(pA ds S d p).st x=S) :=
 B0 fun _ hp=>h hp
def sS(ds:List D)(S:St)(d:D):FnSpec where
 β:=Unit
 α:=Unit
 args:=fun _=>ds
 st:=fun _=>S
 pre:=fun _=>True
 post:=fun _ _=>True
 res:=fun _ _=>.ret d
 out:=fun _ _=>S
theorem CS.of{k:Nat}{ds:List D}{S:St}{d:D}(h:ACalls Try.prog k ((sS ds S d).args ()) ((sS ds S d).st ()) (SpecR (sS ds S d) ())):CS k ds S d :=
 ACalls.mono h fun _ _ ⟨_,_,h2,h3⟩=>⟨h2,h3⟩
theorem CS.to{k:Nat}{ds:List D}{S S':St}{d:D}(h:CS k ds S' d)(h1:StTo S S')(h2:StTo S' S):CS k ds S d :=
 ACalls.to (ACalls.from h h1) fun r S0 ⟨e1,e2⟩=>⟨S,by rw[e2];exact h2,e1,rfl⟩
def Wh{α:Type}(p:α->Bool):List α->Int->Int
 | [],_=>-1
 |x::r,i=>if p x then i else Wh p r (i+1)
structure IdxG {α:Type} (p:α->Bool) (l:List α) (i:Nat):Prop where
 hi:i<=l.length
 hg:Wh p (l.drop i) i=Wh p l 0
theorem IdxG.step{α:Type}[Inhabited α]{p:α->Bool}{l:List α}{i:Nat}(h:IdxG p l i)(hlt:i<l.length):(p (l.getD i default)=true->Wh p l 0=i)/\(p (l.getD i default)=false->IdxG p l (i+1)):=by
 have hg:=h.hg
 rw[CV hlt,Wh] at hg
 refine⟨fun e=>?_,fun e=>?_⟩
 ·rw[if_pos e] at hg;exact hg.symm
 ·rw[if_neg (by rw[e];exact Bool.false_ne_true)] at hg;exact⟨by omega,hg⟩
theorem IdxG.done{α:Type}{p:α->Bool}{l:List α}{i:Nat}(h:IdxG p l i)(hge:¬(i:Int)<l.length):Wh p l 0 = -1:=by
 have hg:=h.hg
 have:i=l.length:=by have:=h.hi;omega
 rw[this,List.drop_length,Wh] at hg
 exact hg.symm
theorem CD.wk{k:Nat}{ds us:List D}{d:D}(h:CD k us d)(hw:wkL ds us):CD k ds d:=Bew hw h
def _root_.Go.Ab.endW(d:D)(e:AEnd)(_:St):Prop:=match e with
 |.ret d'=>wkD d' d
 |_=>False
theorem CD.ofW{k:Nat}{ds:List D}{d:D}(h:ACalls Try.prog k ds ⟨[],[]⟩ (Go.Ab.endW d)):CD k ds d:=by
 refine (ACalls.wkEnd h (R':=fun r _=>r=.ret d) fun r S' hr=>?_).to ?_
 ·refine⟨.ret d,fun C e he=>?_,rfl⟩
  unfold Go.Ab.endW at hr
  split at hr
  ·cases e with
   |returned v=>exact EX _ d hr C v he
   |panicked _=>exact he.elim
   |outgrown=>exact he.elim
  ·exact hr.elim
 ·rintro r S' rfl
  exact⟨⟨[],[]⟩,fun C F w H=>H.le ⟨List.nil_sublist _,List.nil_sublist _⟩,(),trivial,rfl,rfl⟩
theorem RG{s:List Int}(h:∀d∈s,(0:Int)<=d/\d<=65536)(j:Nat):((shN s).getD j 0:Int)=s.getD j 0:=by
 simp only[shN,List.getD_eq_getElem?_getD,List.getElem?_map]
 cases hj:s[j]? with
 |none=>simp
 |some d =>
  have:=(h d (List.mem_of_getElem? hj)).1
  simp;omega
theorem GP(s:List Int):(shN s).length=s.length:=by simp[shN]
theorem BdE{s:List Int}(h:Bt s=true):prL (shN s)<=65536:=by
 obtain ⟨_,h2,h3⟩:=(Bn s).1 h
 cases hc:s.contains 0 with
 |true=>rw[Ml hc];omega
 |false=>rw[<- RS (fun d hd=>(h2 d hd).1) hc];exact h3
theorem Ev(a:Arr):a.row.length=4:=by cases a;rfl
theorem BbT{C:Ctx}{u u' d d':D}(hu:∀v,Rep C u v->Rep C u' v)(hd:∀v,Rep C d v->Rep C d' v)(v:Value)(h:Rep C (.tup [u,d]) v):Rep C (.tup [u',d']) v:=by
 simp only[Rep,RepL] at h ⊢
 obtain ⟨vs,e,x,xs,e1,r1,y,ys,e2,r2,e3⟩:=h
 exact⟨vs,e,x,xs,e1,hu x r1,y,ys,e2,hd y r2,e3⟩
theorem CS.res{k:Nat}{ds:List D}{S:St}{d d':D}(h:CS k ds S d)(hw:∀C v,Rep C d v->Rep C d' v):CS k ds S d' :=
 (ACalls.wkEnd h (R':=fun r S'=>r=.ret d'/\S'=S) fun r S' hr=>⟨.ret d',fun C e he=>by
  obtain ⟨rfl,_⟩:=hr
  cases e with
  |returned v=>exact hw C v he
  |panicked _=>exact he.elim
  |outgrown=>exact he.elim,rfl,hr.2⟩)
theorem R6(a:Arr)(C:Ctx)(v:Value)(h:Rep C (.agg a.row2) v):Rep C (.agg a.row1) v :=
 EX _ _ (by simp only[wkD];exact O4 a) C v h
theorem Bb7:∀(a b:List Int),pzL (a++b)=pzL a*pzL b
 | [],b=>by simp[pzL]
 |d::a,b=>by
  rw[List.cons_append,pzL,pzL,Bb7 a b]
  split
  ·rfl
  ·rw[Nat.mul_assoc]
theorem Wg:∀ {l:List Int},(∀d∈l,0<=d)->1<=pzL l
 | [],_=>by simp[pzL]
 |d::l,h=>by
  have ih:=Wg (l:=l) fun x hx=>h x (by simp[hx])
  have:=h d (by simp)
  rw[pzL]
  split
  ·exact ih
  ·rename_i hd
   exact Nat.le_trans ih (Nat.le_mul_of_pos_left _ (by omega))
theorem Cw{l:List Int}(h:Bt l=true)(k:Nat):Bt (l.take k)=true/\Bt (l.drop k)=true:=by
 obtain ⟨h1,h2,h3⟩:=(Bn l).1 h
 have e:=Bb7 (l.take k) (l.drop k)
 rw[List.take_append_drop] at e
 have a1:=Wg (l:=l.take k) fun d hd=>(h2 d (List.mem_of_mem_take hd)).1
 have a2:=Wg (l:=l.drop k) fun d hd=>(h2 d (List.mem_of_mem_drop hd)).1
 have b1:pzL (l.take k)<=pzL l:=by rw[e];exact Nat.le_mul_of_pos_right _ a2
 have b2:pzL (l.drop k)<=pzL l:=by rw[e];exact Nat.le_mul_of_pos_left _ a1
 exact⟨(Bn _).2 ⟨by rw[List.length_take];omega,fun d hd=>h2 d (List.mem_of_mem_take hd),by omega⟩,(Bn _).2 ⟨by rw[List.length_drop];omega,fun d hd=>h2 d (List.mem_of_mem_drop hd),by omega⟩⟩
def _root_.Go.Ab.jumpQ(J:Env->St->Prop)(Q:APostT):APostT:=fun e env S=>match e with
 |.goto l=>match l with
  |0=>J env S
  |_=>False
 |e=>Q e env S
def _root_.Go.Ab.scJ(E:Senv)(rest:Code)(Q:APostT):Nat->Env->St->Prop
 |0,_,_=>False
 |n+1,env,S=>vc E rest 0 (jumpQ (fun env S=>scJ E rest Q n env S) Q) env S
def _root_.Go.Ab.vcSc(k:Nat)(E:Senv)(x c rest:Code)(Q:APostT)(env:Env)(S:St):Prop :=
 vc E x 0 (Gr (fun env S=>vc E c 0 (jumpQ (fun env S=>scJ E rest Q k env S) Q) env S) Q) env S
def Bd6(l:Nat)(J:Act->World->Prop)(Q:Exit->Act->World->Prop):Exit->Act->World->Prop
 |.goto m,a,w=>m=l/\J a w
 |e,a,w=>Q e a w
theorem WC{P : Program}{Q : Exit -> Act -> World -> Prop}{c rest : Code}(l : Nat)(J : Nat -> Act -> World -> Prop)(hf : findLabel c l=some rest)(h0 : ∀a w, ¬J 0 a w)
  (pass:∀n a w,J (n+1) a w->rest.wp P (Bd6 l (J n) Q) a w) {k:Nat} {a:Act} {w:World} (first:c.wp P (Bd6 l (J k) Q) a w):(Code.scope c).wp P Q a w:=by
 intro b K cs
 have hg:gotoIn l (.inScope c::K)=some (.code rest::.inScope c::K):=by simp[gotoIn,hf]
 have go:∀n a w,J n a w->∃e a' w',Q e a' w'/\Arrives P (lone (b.at a (.code rest::.inScope c::K)) cs w) b K cs e a' w':=by
  intro n
  induction n with
  |zero=>exact fun a w h=>absurd h (h0 a w)
  |succ n ih =>
   intro a w hJ
   obtain ⟨e,a1,w1,hq,har⟩:=pass n a w hJ b (.inScope c::K) cs
   cases e with
   |goto m =>
    obtain ⟨rfl,hJ'⟩:=hq
    obtain ⟨e2,a2,w2,q2,har2⟩:=ih a1 w1 hJ'
    exact⟨e2,a2,w2,q2,.of_steps (har _ hg) har2⟩
   |normal=>exact⟨.normal,a1,w1,hq,Steps.trans har (.one step_inScope)⟩
   |exit i=>exact⟨.exit i,a1,w1,hq,fun k' hk=>har k' (by simp[exitTo,hk])⟩
   |ret=>exact⟨_,a1,w1,hq,har⟩
   |panic ch=>exact⟨_,a1,w1,hq,har⟩
   |outgrown=>exact⟨_,a1,w1,hq,har⟩
 obtain ⟨e,a1,w1,hq,har⟩:=first b (.inScope c::K) cs
 cases e with
 |goto m =>
  obtain ⟨rfl,hJ'⟩:=hq
  obtain ⟨e2,a2,w2,q2,har2⟩:=go k a1 w1 hJ'
  exact⟨e2,a2,w2,q2,.of_steps (.head step_scope (har _ hg)) har2⟩
 |normal=>exact⟨.normal,a1,w1,hq,.head step_scope (Steps.trans har (.one step_inScope))⟩
 |exit i=>exact⟨.exit i,a1,w1,hq,fun k' hk=>.head step_scope (har k' (by simp[exitTo,hk]))⟩
 |ret=>exact⟨_,a1,w1,hq,.of_steps (.one step_scope) har⟩
 |panic ch=>exact⟨_,a1,w1,hq,.of_steps (.one step_scope) har⟩
 |outgrown=>exact⟨_,a1,w1,hq,.of_steps (.one step_scope) har⟩
theorem WO{E:Senv}(hE:EnvOk E){k:Nat}{x c rest:Code}(hf:findLabel c 0=some rest){Q:APostT}{env:Env}{S:St}(h:vcSc k E x c rest Q env S):AWp E.P E.n [] (.seq x (.scope c)) Q env S:=by
 refine .seq ((BF hE x 0 _ env S h).mono ?_)
 intro e env S hq
 cases e with
 |normal =>
  intro C F a w h1 h2 h3 h4
  have hq:vc E c 0 (jumpQ (fun env S=>scJ E rest Q k env S) Q) env S:=hq
  have conv : ∀ {C1 : Ctx} {n : Nat} {e : Exit} {a' : Act} {w' : World}, C.le C1 -> APost C1 F E.n [] (jumpQ (fun env S=>scJ E rest Q n env S) Q) e a' w' ->
    Bd6 0 (fun a w=>∃C' env S,C.le C'/\RepEnv C' env a.tmps/\a.tmps.size=E.n/\a.defers=[]/\Sat C' (S.add F) w/\scJ E rest Q n env S) (APost C F E.n [] Q) e a' w':=by
   rintro C1 n e a' w' hC ⟨C',x,env',S',b1,b2,b3,b4,b5,b6,b7⟩
   cases e<;>cases x<;>simp only[RepExit] at b6
   case goto.goto l m =>
    subst b6
    cases m with
    |zero=>exact⟨rfl,C',env',S',hC.trans b1,b2,b3,b4,b5,b7⟩
    |succ m=>exact b7.elim
   all_goals exact⟨C',_,env',S',hC.trans b1,b2,b3,b4,b5,(by simp only[RepExit];try exact b6),b7⟩
  refine WC 0 (fun n a w=>∃C' env S,C.le C'/\RepEnv C' env a.tmps/\a.tmps.size=E.n/\a.defers=[]/\Sat C' (S.add F) w/\scJ E rest Q n env S) hf (fun a w=>?_) (fun n a w=>?_) (k:=k) (wp_mono (BF hE c 0 _ env S hq C F a w h1 h2 h3 h4) fun e a' w' H=>conv (.refl C) H)
  ·rintro ⟨_,_,_,_,_,_,_,_,h⟩
   exact h
  ·rintro ⟨C',env',S',b1,b2,b3,b4,b5,b6⟩
   exact wp_mono (BF hE rest 0 _ env' S' b6 C' F a w b2 b3 b4 b5) fun e a' w' H=>conv b1 H
 |_=>exact hq
theorem Bei{E : Senv}{f : Nat}{fn : Func}{x c rest : Code}{A : FnSpec}{y : A.β}(k : Nat)(hE : EnvOk E)(hf : E.P.funcs[f]? =some fn)(hb : fn.body=some (.seq x (.scope c)))(hr : findLabel c 0=some rest)
  (hname : (fn.name == "runtime.NumGoroutine") = false) (hn : fn.ntmps = E.n) (hl : (A.args y).length ≤ E.n)
  (h:vcSc k E x c rest (Bdi A y E.tt E.gr fn.results.toList) (BB 0 (A.args y)) (A.st y)):ACalls E.P f (A.args y) (A.st y) (SpecR A y) :=
 OY hE.tab hf hb hname hn hl (WO hE hr h)
def oI:Ordering->Int
 |.lt=>-1
 |.eq=>0
 |.gt=>1
theorem RL{o:Ordering}:oI o=0↔o=.eq:=by cases o<;>simp[oI]
theorem R2{o:Ordering}:oI o<=0↔o.isLE=true:=by cases o<;>simp[oI]
theorem Tk(a b:Ordering):oI (a.then b)=if oI a=0 then oI b else oI a:=by cases a<;>simp[oI]
def cI(a b:Int):Ordering:=compare a b
theorem BdK(a b:Int):cI a b=if a<b then .lt else if a=b then .eq else .gt:=rfl
theorem Bcn(a b:Int):oI (cI a b)=if a<b then -1 else if b<a then 1 else 0:=by
 rw[BdK]
 by_cases h:a<b
 ·rw[if_pos h,if_pos h];rfl
 ·rw[if_neg h,if_neg h]
  by_cases h2:a=b
  ·rw[if_pos h2,if_neg (by omega)];rfl
  ·rw[if_neg h2,if_pos (by omega)];rfl
instance cI_tr:Std.TransCmp cI:=inferInstanceAs (Std.TransCmp (compare:Int->Int->Ordering))
structure Cel (E:Type) where
 l:List E
 s:List Nat
 i:Nat
def Ee{E:Type}(x:Cel E):List (Cel E):=(List.range (x.s.headD 0)).map fun k=>⟨x.l,x.s.tail,x.i+k*prL x.s.tail⟩
theorem Iz{E:Type}(x:Cel E):(Ee x).length=x.s.headD 0:=by simp[Ee]
def cel{E:Type}[Inhabited E](c:E->E->Ordering):Nat->Cel E->Cel E->Ordering
 |0,x,y=>c (x.l.getD x.i default) (y.l.getD y.i default)
 |n+1,x,y=>List.compareLex (cel c n) (Ee x) (Ee y)
instance cel_tr {E:Type} [Inhabited E] (c:E->E->Ordering) [hc:Std.TransCmp c]:∀n,Std.TransCmp (cel c n)
 |0=>{ eq_swap:=fun {_ _}=>Std.OrientedCmp.eq_swap (cmp:=c),isLE_trans:=fun {_ _ _}=>Std.TransCmp.isLE_trans (cmp:=c) }
 |n+1=>by
  have:=cel_tr c n
  exact { eq_swap:=fun {x y}=>Std.OrientedCmp.eq_swap (cmp:=List.compareLex (cel c n)) (a:=Ee x) (b:=Ee y),isLE_trans:=fun {x y z}=>Std.TransCmp.isLE_trans (cmp:=List.compareLex (cel c n)) (a:=Ee x) (b:=Ee y) (c:=Ee z) }
def TD(f:Arr->Arr->Ordering)(a b:Arr):Ordering :=
 if a.k=b.k/\a.sh.length=b.sh.length then
  if a.k=3 then cel f a.sh.length ⟨a.it,shN a.sh,0⟩ ⟨b.it,shN b.sh,0⟩ else cel cI a.sh.length ⟨a.nu,shN a.sh,0⟩ ⟨b.nu,shN b.sh,0⟩
 else .eq
def G1:Nat->Arr->Arr->Ordering
 |0,_,_=>.eq
 |n+1,a,b=>(cI a.k b.k).then ((cI a.sh.length b.sh.length).then ((TD (G1 n) a b).then (List.compareLex cI a.sh b.sh)))
instance on_tr {α β:Type} (c:β->β->Ordering) [Std.TransCmp c] (f:α->β):Std.TransCmp fun a b=>c (f a) (f b) where
 eq_swap:=fun {_ _}=>Std.OrientedCmp.eq_swap (cmp:=c)
 isLE_trans:=fun {_ _ _}=>Std.TransCmp.isLE_trans (cmp:=c)
noncomputable def Eci:Senv:=EC CM 20 2 [4,5,6,11,12,13,16,19] (fun _=>([],[]))
def X3(a b:Int):Int:=oI (cI a b)
def QaI(a b:Int):Prop:=True/\∃(_y:Unit),True/\Z0=X3 a b/\True/\True
def QaJ(a b:Int):Prop:=True/\∃(_y:Unit),True/\(-1:Int)=X3 a b/\True/\True
def QaK(a b:Int):Prop:=True/\∃(_y:Unit),True/\Z1=X3 a b/\True/\True
theorem Wk(a b:Int):CD 72 [.int .i64 a,.int .i64 b] (.int .i64 (oI (cI a b))):=by
 refine Bg (A:=sC _ _) (x:=()) (E:=Eci) (eOk By rfl) Try.func72 rfl (by kernel_rfl) rfl (by simp[sC,Eci,EC,E0]) ?_
 refine Bl (T :=
  True/\True/\ifB (a != a) (ifB (b != b) (QaI a b) (QaJ a b)) (ifB (b != b) (QaK a b) (ifB (decide (a<b)) (QaJ a b) (ifB (decide (b<a)) (QaK a b) (QaI a b))))) (by kernel_rfl) ?_
 delta Z0 Z1 X3 QaI QaJ QaK
 rw[Bcn]
 simp only[eq_self,ne_eq,Bh,decide_eq_true_eq,decide_eq_false_iff_not,true_and,and_true,bne_iff_ne,bne_eq_false_iff_eq,exists_const,forall_const]
 repeat' (first | refine And.intro ?_ ?_ | intro _)
 all_goals (first | (split<;>(try split)<;>omega) | simp_all)
noncomputable def Eck2:Senv:=EC CM 20 2 [4,5,6,11,12,13,16,19] (fun _=>([],[]))
def X4(a b:Int):Int:=oI (cI a b)
def QaL(a b:Int):Prop:=True/\∃(_y:Unit),True/\Z0=X4 a b/\True/\True
def QaM(a b:Int):Prop:=True/\∃(_y:Unit),True/\(-1:Int)=X4 a b/\True/\True
def QaN(a b:Int):Prop:=True/\∃(_y:Unit),True/\Z1=X4 a b/\True/\True
theorem Beg(a b:Int):CD 71 [.int .i64 a,.int .i64 b] (.int .i64 (oI (cI a b))):=by
 refine Bg (A:=sC _ _) (x:=()) (E:=Eck2) (eOk By rfl) Try.func71 rfl (by kernel_rfl) rfl (by simp[sC,Eck2,EC,E0]) ?_
 refine Bl (T :=
  True/\True/\ifB (a != a) (ifB (b != b) (QaL a b) (QaM a b)) (ifB (b != b) (QaN a b) (ifB (decide (a<b)) (QaM a b) (ifB (decide (b<a)) (QaN a b) (QaL a b))))) (by kernel_rfl) ?_
 delta Z0 Z1 X4 QaL QaM QaN
 rw[Bcn]
 simp only[eq_self,ne_eq,Bh,decide_eq_true_eq,decide_eq_false_iff_not,true_and,and_true,bne_iff_ne,bne_eq_false_iff_eq,exists_const,forall_const]
 repeat' (first | refine And.intro ?_ ?_ | intro _)
 all_goals (first | (split<;>(try split)<;>omega) | simp_all)
def orL:List Int->Int
 | []=>0
 |x::r=>if x=0 then orL r else x
noncomputable def Eor(l:List Int):Senv:={ EC CM 18 1 [2,3,5,6,7,8,9,14] (fun _=>([],[])) with
 ann:=fun b _ _=>match b with
  |0=>some { slots:=[8],keep:=[0,1,3,6,7],α:=Nat,st:=fun i=>([.int .i64 i],⟨[],[]⟩),inv:=fun i=>i<=l.length/\orL (l.drop i)=orL l,mu:=fun i=>l.length-i }
  |_=>none }
def X5(a:Nat)(b:List Int):Prop:=a<=LN b/\orL (List.drop a b)=orL b
def Qg8(a:List Int):D:=SI a
def QaO(a:List Int):Prop:=SM (Qg8 a)
theorem BeR(l:List Int)(hl:l.length<=100):CD 70 [isl l .any] (.int .i64 (orL l)):=by
 refine Bg (A:=sC _ _) (x:=()) (E:=Eor l) (eOk By rfl) Try.func70 rfl (by kernel_rfl) rfl (by simp[sC,Eor,EC,E0]) ?_
 refine Bl (T :=
  (∃(x:Nat),X5 x l/\(Z0=(↑x:Int)/\True)/\True/\True)/\∀(x:Nat),X5 x l->ifB (decide ((↑x:Int)<(LI l))) (Bd (Z0<=(↑x:Int)/\(↑x:Int)<(LI l)) (ifB (GI l (Int.toNat (↑x:Int)) != Z0) (RT (GI l (Int.toNat (↑x:Int))=orL l)) ((QaO l/\SM D.unk/\SM (ZI Z0)/\QaO l/\SM (ZI (LI l))/\True)/\∃(y:Nat),X5 y l/\LN l-y<LN l-x/\(IntKind.wrap IntKind.i64 ((↑x:Int)+Z1)=(↑y:Int)/\True)/\True/\True))) (RT (Z0=orL l))) (by kernel_rfl) ?_
 delta GI LI LN N1 SI SM Z0 Z1 ZI QaO X5 Qg8 RT
 simp only[eq_self,ne_eq,Int.toNat_natCast,Bh,Bc,decide_eq_true_eq,decide_eq_false_iff_not,true_and,and_true,bne_iff_ne,bne_eq_false_iff_eq,exists_const]
 refine⟨⟨0,⟨Nat.zero_le _,by simp⟩,rfl⟩,fun x ⟨h1,h2⟩=>⟨fun h3=>?_,fun h3=>?_⟩⟩
 ·rw[BY (by omega),orL] at h2
  refine⟨⟨by omega,h3⟩,fun h4=>?_,fun h4=>⟨x+1,⟨by omega,?_⟩,by omega,Bb (by omega) (by omega)⟩⟩
  ·rw[if_neg h4] at h2;exact h2
  ·rw[if_pos h4] at h2;exact h2
 ·rw[List.drop_eq_nil_of_le (by omega),orL] at h2
  exact h2
noncomputable def Esc(l r : List Int) : Senv:={ EC (fun k ds S=>match k with
  |72=>some (pE (β:=Int×Int) ds S (fun b=>.int .i64 (oI (cI b.1 b.2))) (fun b=>ds=[.int .i64 b.1,.int .i64 b.2]))
  |_=>none) 36 2 [4,5,6,7,8,9,10,11,12,19,28,35] (fun _=>([],[])) with
 ann:=fun b _ _=>match b with
  |0=>some { slots:=[11],keep:=[0,1,3,9,10],α:=Nat,st:=fun i=>([.int .i64 i],⟨[],[]⟩),inv:=fun i=>i<=l.length/\i<=r.length/\List.compareLex cI (l.drop i) (r.drop i)=List.compareLex cI l r,mu:=fun i=>l.length-i }
  |_=>none }
def X6(a:Nat)(b c:List Int):Prop:=a<=LN b/\a<=LN c/\List.compareLex cI (List.drop a b) (List.drop a c)=List.compareLex cI b c
def J4(a b:List Int):Int:=oI (List.compareLex cI a b)
def Qg9(a:List Int):D:=SI a
def X7(a:List Int):Prop:=SM (Qg9 a)
theorem Be1(l r:List Int)(hl:l.length<=100):CD 74 [isl l .any,isl r .any] (.int .i64 (oI (List.compareLex cI l r))):=by
 refine Bg (A:=sC _ _) (x:=()) (E:=Esc l r) (eOk ?_ rfl) Try.func74 rfl (by kernel_rfl) rfl (by simp[sC,Esc,EC,E0]) ?_
 ·intro k ds S A hh
  dsimp only at hh
  split at hh
  ·injection hh with hh;subst hh
   exact B0 fun b e=>by rw[e];exact CD.at_ (Wk _ _) _
  ·cases hh
 refine Bl (T :=
  (∃(x:Nat),X6 x l r/\(Z0=(↑x:Int)/\True)/\True/\True)/\∀(x:Nat),X6 x l r->ifB (decide ((↑x:Int)<(LI l))) (Bd (Z0<=(↑x:Int)/\(↑x:Int)<(LI l)) (ifB (decide ((LI r)<=(↑x:Int))) (RT (Z1=J4 l r)) (Bd (Z0<=(↑x:Int)/\(↑x:Int)<(LI r)) (∃(x_1:Int×Int),[ZI (GI l (Int.toNat (↑x:Int))),ZI (GI r (Int.toNat (↑x:Int)))]=[ZI x_1.1,ZI x_1.2]/\∀(y:Unit),True->ifB (oI (cI x_1.1 x_1.2) != Z0) (RT (oI (cI x_1.1 x_1.2)=J4 l r)) ((X7 l/\X7 r/\SM D.unk/\X7 l/\SM (ZI (LI l))/\True)/\∃(y:Nat),X6 y l r/\LN l-y<LN l-x/\(IntKind.wrap IntKind.i64 ((↑x:Int)+Z1)=(↑y:Int)/\True)/\True/\True))))) (ifB (decide ((LI l)<(LI r))) (RT ((-1:Int)=J4 l r)) (RT (Z0=J4 l r)))) (by kernel_rfl) ?_
 delta GI LI LN N1 SI SM Z0 Z1 ZI X6 J4 Qg9 X7 RT
 simp only[eq_self,ne_eq,Int.toNat_natCast,Bh,Bc,decide_eq_true_eq,decide_eq_false_iff_not,true_and,and_true,bne_iff_ne,bne_eq_false_iff_eq,exists_const,forall_const,Prod.exists]
 refine⟨⟨0,⟨Nat.zero_le _,Nat.zero_le _,by simp⟩,rfl⟩,fun x ⟨h1,h2,h3⟩=>⟨fun h4=>⟨⟨by omega,h4⟩,fun h5=>?_,fun h5=>⟨⟨by omega,by omega⟩,_,_,rfl,fun h6=>?_,fun h6=>?_⟩⟩,fun h4=>⟨fun h5=>?_,fun h5=>?_⟩⟩⟩
 ·rw[BY (by omega),(List.drop_eq_nil_of_le (by omega):r.drop x=[]),List.compareLex_cons_nil] at h3
  rw[<- h3];rfl
 ·rw[BY (by omega),BY (l:=r) (by omega),List.compareLex_cons_cons] at h3
  rw[<- h3,Tk,if_neg h6]
 ·rw[BY (by omega),BY (l:=r) (by omega),List.compareLex_cons_cons,RL.1 h6] at h3
  exact⟨x+1,⟨by omega,by omega,h3⟩,by omega,Bb (by omega) (by omega)⟩
 ·rw[(List.drop_eq_nil_of_le (by omega):l.drop x=[]),BY (l:=r) (by omega),List.compareLex_nil_cons] at h3
  rw[<- h3];rfl
 ·rw[(List.drop_eq_nil_of_le (by omega):l.drop x=[]),(List.drop_eq_nil_of_le (by omega):r.drop x=[]),List.compareLex_nil_nil] at h3
  rw[<- h3];rfl
def cSt(a b:Arr)(xa xb xr xc:Nat):St:=⟨[(3,xc,.cells [.fn (.func 86) [] [.ref 2 xr 0,.ref 0 xa 0,.ref 1 xb 0,.ref 3 xc 0]]),(2,xr,.cells [.int .i64 a.sh.length]),(1,xb,.cells [.int .i64 b.k,isl b.sh .any,isl b.nu .any,gsl 4 Arr.row b.it]),(0,xa,.cells [.int .i64 a.k,isl a.sh .any,isl a.nu .any,gsl 4 Arr.row a.it])],[]⟩
def Ix(f:Arr->Arr->Ordering)(a b:Arr)(ax i j:Nat):Ordering :=
 if a.k=3 then cel f (a.sh.length-ax) ⟨a.it,(shN a.sh).drop ax,i⟩ ⟨b.it,(shN b.sh).drop ax,j⟩ else cel cI (a.sh.length-ax) ⟨a.nu,(shN a.sh).drop ax,i⟩ ⟨b.nu,(shN b.sh).drop ax,j⟩
def szN(a:Arr):Nat:=if a.k=3 then a.it.length else a.nu.length
def ceP(a b:Arr)(y:Nat×Nat×Nat):Prop:=y.1<=a.sh.length/\y.2.1+prL ((shN a.sh).drop y.1)<=szN a/\y.2.2+prL ((shN b.sh).drop y.1)<=szN b
def sCe(f:Arr->Arr->Ordering)(a b:Arr)(xa xb xr xc:Nat)(q:Nat×Nat×Nat->Prop):FnSpec where
 β:=Nat×Nat×Nat
 α:=Unit
 args:=fun y=>[.int .i64 y.1,.int .i64 y.2.1,.int .i64 y.2.2,.ref 2 xr 0,.ref 0 xa 0,.ref 1 xb 0,.ref 3 xc 0]
 st:=fun _=>cSt a b xa xb xr xc
 pre:=q
 post:=fun _ _=>True
 res:=fun y _=>.ret (.int .i64 (oI (Ix f a b y.1 y.2.1 y.2.2)))
 out:=fun _ _=>cSt a b xa xb xr xc
def W8(f:Arr->Arr->Ordering)(a b:Arr)(xa xb xr xc:Nat)(q:Nat×Nat×Nat->Prop):Con:=fun k ds S=>match k with
 |86=>some (sCe f a b xa xb xr xc q)
 |47=>some (pE (β:=Arr×Arr) ds S (fun y=>.int .i64 (oI (f y.1 y.2))) (fun y=>ds=[.agg y.1.row,.agg y.2.row]/\y.1∈a.it/\y.2∈b.it))
 |72=>some (pE (β:=Int×Int) ds S (fun y=>.int .i64 (oI (cI y.1 y.2))) (fun y=>ds=[.int .i64 y.1,.int .i64 y.2]))
 |32=>some (pE (β:=List Int) ds S (fun l=>.int .i64 (prL (shN l):Nat)) (fun l=>wkL ds [isl l .any]/\Bt l=true))
 |_=>none
def kiL(f:Arr->Arr->Ordering)(a b:Arr)(ax i j t:Nat):Ordering :=
 if a.k=3 then List.compareLex (cel f (a.sh.length-(ax+1))) ((Ee ⟨a.it,(shN a.sh).drop ax,i⟩).drop t) ((Ee ⟨b.it,(shN b.sh).drop ax,j⟩).drop t)
 else List.compareLex (cel cI (a.sh.length-(ax+1))) ((Ee ⟨a.nu,(shN a.sh).drop ax,i⟩).drop t) ((Ee ⟨b.nu,(shN b.sh).drop ax,j⟩).drop t)
theorem Iy{E:Type}(x:Cel E){t:Nat}(h:t<x.s.headD 0):(Ee x).drop t=⟨x.l,x.s.tail,x.i+t*prL x.s.tail⟩::(Ee x).drop (t+1):=by
 have hl:t<(Ee x).length:=by rw[Iz];exact h
 rw[List.drop_eq_getElem_cons hl]
 congr 1
 simp[Ee]
theorem OZ{E : Type}[Inhabited E](c : E -> E -> Ordering)(n : Nat)(x y : Cel E){t : Nat}(h1 : t<x.s.headD 0)(h2 : t<y.s.headD 0) :
  List.compareLex (cel c n) ((Ee x).drop t) ((Ee y).drop t)=(cel c n ⟨x.l,x.s.tail,x.i+t*prL x.s.tail⟩ ⟨y.l,y.s.tail,y.i+t*prL y.s.tail⟩).then (List.compareLex (cel c n) ((Ee x).drop (t+1)) ((Ee y).drop (t+1))):=by
 rw[Iy x h1,Iy y h2,List.compareLex_cons_cons]
theorem UB{E : Type}[Inhabited E](c : E -> E -> Ordering)(n : Nat)(x y : Cel E){t : Nat}(h1 : t<=x.s.headD 0)(h2 : t<=y.s.headD 0)(h : x.s.headD 0<=t \/ y.s.headD 0<=t) :
  List.compareLex (cel c n) ((Ee x).drop t) ((Ee y).drop t)=cI (x.s.headD 0:Nat) (y.s.headD 0:Nat):=by
 rw[BdK]
 by_cases hx:x.s.headD 0<=t
 ·rw[List.drop_eq_nil_of_le (by rw[Iz];exact hx)]
  by_cases hy:y.s.headD 0<=t
  ·rw[List.drop_eq_nil_of_le (by rw[Iz];exact hy),List.compareLex_nil_nil,if_neg (by omega),if_pos (by omega)]
  ·rw[Iy y (by omega),List.compareLex_nil_cons,if_pos (by omega)]
 ·have hy:y.s.headD 0<=t:=by omega
  rw[(List.drop_eq_nil_of_le (by rw[Iz];exact hy):(Ee y).drop t=[]),Iy x (by omega),List.compareLex_cons_nil,if_neg (by omega),if_neg (by omega)]
theorem BP(s:List Int)(ax:Nat):((shN s).drop ax).headD 0=(s.getD ax 0).toNat:=by
 rw[shN,List.headD_eq_head?_getD,List.head?_drop,List.getElem?_map,List.getD_eq_getElem?_getD]
 cases s[ax]? <;>rfl
theorem tail_drop(s:List Int)(ax:Nat):((shN s).drop ax).tail=(shN s).drop (ax+1):=List.tail_drop
theorem BaG(f:Arr->Arr->Ordering)(a b:Arr)(i j:Nat)(h:a.k≠3):Ix f a b a.sh.length i j=cI (a.nu.getD i 0) (b.nu.getD j 0):=by
 rw[Ix,if_neg h,Nat.sub_self];rfl
theorem Wn(f:Arr->Arr->Ordering)(a b:Arr)(i j:Nat)(h:a.k=3):Ix f a b a.sh.length i j=f (a.it.getD i default) (b.it.getD j default):=by
 rw[Ix,if_pos h,Nat.sub_self];rfl
theorem Bbg(f:Arr->Arr->Ordering)(a b:Arr)(ax i j:Nat)(h:ax<a.sh.length):kiL f a b ax i j 0=Ix f a b ax i j:=by
 have e:a.sh.length-ax=(a.sh.length-(ax+1))+1:=by omega
 rw[kiL,Ix,e];rfl
theorem Bcl(f : Arr -> Arr -> Ordering)(a b : Arr)(ax i j t : Nat)(h1 : t<(a.sh.getD ax 0).toNat)(h2 : t<(b.sh.getD ax 0).toNat) :
  kiL f a b ax i j t=(Ix f a b (ax+1) (i+t*prL ((shN a.sh).drop (ax+1))) (j+t*prL ((shN b.sh).drop (ax+1)))).then (kiL f a b ax i j (t+1)):=by
 simp only[kiL,Ix]
 split
 ·rw[OZ _ _ _ _ (by rw[BP];exact h1) (by rw[BP];exact h2)]
  simp only[tail_drop]
 ·rw[OZ _ _ _ _ (by rw[BP];exact h1) (by rw[BP];exact h2)]
  simp only[tail_drop]
theorem Bdo(f : Arr -> Arr -> Ordering)(a b : Arr)(ax i j t : Nat)(h0 : 0<=a.sh.getD ax 0 /\ 0<=b.sh.getD ax 0)(h1 : (t : Int)<=a.sh.getD ax 0)(h2 : (t : Int)<=b.sh.getD ax 0)(h : a.sh.getD ax 0<=t \/ b.sh.getD ax 0<=t) :
  kiL f a b ax i j t=cI (a.sh.getD ax 0) (b.sh.getD ax 0):=by
 have e1:((a.sh.getD ax 0).toNat:Int)=a.sh.getD ax 0:=Int.toNat_of_nonneg h0.1
 have e2:((b.sh.getD ax 0).toNat:Int)=b.sh.getD ax 0:=Int.toNat_of_nonneg h0.2
 simp only[kiL]
 split
 ·rw[UB _ _ _ _ (by simp only[BP];omega) (by simp only[BP];omega) (by simp only[BP];omega)]
  simp only[BP,e1,e2]
 ·rw[UB _ _ _ _ (by simp only[BP];omega) (by simp only[BP];omega) (by simp only[BP];omega)]
  simp only[BP,e1,e2]
theorem Bw{a:Arr}(h:(Bj a).1=0):Bt a.sh=true/\szN a=prL (shN a.sh)/\szN a<=65536:=by
 obtain ⟨h1,h2,h3,_⟩:=B7.1 (Cr h)
 have:=BdE h2
 have e:szN a=prL (shN a.sh):=by
  unfold szN
  split
  ·rename_i hk;rw[if_pos hk] at h3;exact h3
  ·rename_i hk;rw[if_neg hk] at h3;exact h3
 exact⟨h2,e,by omega⟩
noncomputable def Ece(f:Arr->Arr->Ordering)(a b:Arr)(xa xb xr xc:Nat)(q:Nat×Nat×Nat->Prop)(ax i j:Nat):Senv:={ EC (W8 f a b xa xb xr xc q) 105 7 [10,11,12,13,14,15,35,72,73,74,91] (fun id=>match id with | 2=>([0,1,2,3,4,5,6,7,8,9,10,11],[10]) | 4=>([0,1,2,3,4,5,6,7,8,9,10,11],[10]) | 5=>([0,1,2,3,4,6,7,8,9,10,5,11,12,13],[5,11]) | 6=>([0,1,2,3,4,5,6,7,8,9,10,11],[]) | 13=>([0,1,2,3,4,5,6,7,8,9,10,11],[10]) | _=>([],[])) with
 ann:=fun b' _ S=>match b' with
  |1=>some { slots:=[73],keep:=[0,1,2,3,4,5,6,11,12,72],α:=Nat,st:=fun t=>([.int .i64 t],S),inv:=fun t=>(t:Int)<=a.sh.getD ax 0/\(t:Int)<=b.sh.getD ax 0/\kiL f a b ax i j t=Ix f a b ax i j,mu:=fun t=>(a.sh.getD ax 0).toNat-t }
  |_=>none }
def J5(a:Arr):List Int:=Arr.sh a
def J6(a:Arr):Nat:=LN (J5 a)
def Qs(a:Arr):Int:=(NI (J6 a))
def X8(a:Nat)(b:Arr):Bool:=(↑a:Int)==Qs b
def X9(a:Nat)(b:Arr):Bool:=bif X8 a b then Arr.k b==3 else false
def K0(a:Arr):List Arr:=Arr.it a
def J7(a:Arr):Nat:=LN (K0 a)
def QaP:Arr:=DA
def QaQ(a:Arr)(b:Nat):List D:=Arr.row (List.getD (K0 a) (Int.toNat (↑b:Int)) QaP)
def QaR(a:Arr)(b:Nat):Nat:=LN (QaQ a b)
def QaS(a:Arr)(b:Nat):D:=D.agg (List.take N4 (List.drop N0 (QaQ a b)))
def K1(a:Arr->Arr->Ordering)(b c:Arr)(d e f:Nat):Int:=oI (Ix a b c d e f)
def Qha(a b c d:Nat):D:=D.fn (Fn.func (86:Nat)) [] [D.ref N2 a N0,D.ref N0 b N0,D.ref N1 c N0,D.ref (3:Nat) d N0]
def K2(a:Arr)(b:Nat):Int:=GI (J5 a) b
def QaT(a:Arr)(b:Nat):List D:=[ZI (K2 a b)]
def J8(a:Arr):Nat:=LN (Arr.nu a)
def Qhb(a:Arr)(b:Nat):List D:=Arr.row (List.getD (K0 a) b QaP)
def QaU(a:Arr):Prop:=SM (Arr.k a)/\(SM (J6 a)/\(∀(i:Nat),i<J6 a->SM (QaT a i))/\True)/\(SM (J8 a)/\(∀(i:Nat),i<J8 a->SM [ZI (GI (Arr.nu a) i)])/\True)/\(SM (J7 a)/\(∀(i:Nat),i<J7 a->SM (Qhb a i))/\True)/\True
def Kx(a b c d:Nat)(e f:Arr):Prop:=(SM a/\(SM (Qha b c d a)/\True)/\SM b/\(SM (Qs e)/\True)/\SM d/\QaU f/\SM c/\QaU e/\True)/\True
def QaV(a:Arr)(b:Nat):D:=ZI (GI (Arr.nu a) (Int.toNat (↑b:Int)))
def QaW(a b:Int)(c:Arr->Arr->Ordering)(d e:Arr)(f g h k l m n:Nat):Prop:=∀(_y:Unit),True->True/\∃(_y:Unit),True/\oI (cI a b)=K1 c d e f g h/\Kx k l m n d e
def QR(a:Nat):Int:=IntKind.wrap IntKind.i64 ((↑a:Int)+Z1)
def QaX(a:Arr)(b:Nat):Nat:=Int.toNat (Qs a)-Int.toNat (QR b)
def QaY(a:Arr)(b:Nat)(c:List Int):Prop:=((QaX a b=LN c/\(∀(i:Nat),i<QaX a b->GI (J5 a) (Int.toNat (QR b)+i)=GI c i/\True)/\True)/\True)/\Bt c=true
def Qhc(a:Arr):D:=D.sl N1 (J6 a) (fun i=>QaT a i) Mode.any
def Ya(a:Nat)(b:Arr)(c:Nat)(d:Arr)(e:Arr->Arr->Ordering)(f g:Nat):Prop:=(↑a:Int)<=K2 b c/\(↑a:Int)<=K2 d c/\kiL e b d c f g a=Ix e b d c f g
def K3(a:Arr)(b:Nat):Int:=GI (J5 a) (Int.toNat (↑b:Int))
def QaZ(a:Arr)(b:Nat)(c:Arr):Int:=if K3 a b<K3 c b then K3 a b else K3 c b
def Qa0(a b:Nat)(c:List Int)(d:Nat):Prop:=IntKind.wrap IntKind.i64 ((↑a:Int)+IntKind.wrap IntKind.i64 ((↑b:Int)*(NI (prL (shN c)))))=(↑d:Int)
def Yb(a:Nat):Prop:=SM (ZI (↑a:Int))
def Qhd(a:List Int):D:=ZI (NI (prL (shN a)))
def Qa1(a:List Int):Prop:=SM (Qhd a)
def Qhe(a:Arr)(b:Nat)(c:Arr):D:=ZI (QaZ a b c)
def Qa2(a:Arr)(b:Nat):D:=ZI (K3 a b)
theorem RV(f : Arr -> Arr -> Ordering)(a b : Arr)(xa xb xr xc ax i j : Nat)(q : Nat×Nat×Nat -> Prop)(ha : (Bj a).1=0)(hb : (Bj b).1=0)(hk : a.k=b.k)(hl : a.sh.length=b.sh.length)
  (hp:ceP a b (ax,i,j)) (hq:∀y,ceP a b y->y.1=ax+1->q y) (hc:ConOk Try.prog (W8 f a b xa xb xr xc q)) :
  ACalls Try.prog 86 ((sCe f a b xa xb xr xc (fun _=>True)).args (ax,i,j)) ((sCe f a b xa xb xr xc (fun _=>True)).st (ax,i,j)) (SpecR (sCe f a b xa xb xr xc (fun _=>True)) (ax,i,j)):=by
 refine Bg (A:=sCe f a b xa xb xr xc (fun _=>True)) (x:=(ax,i,j)) (E:=Ece f a b xa xb xr xc q ax i j) (eOk hc rfl) Try.func86 rfl (by kernel_rfl) rfl (by simp[sCe,Ece,EC,E0]) ?_
 refine Bl (T :=
  (SM xr/\ifB (X8 ax a) (SM xa/\(Arr.k a==3)=X9 ax a/\True) (false=X9 ax a/\True))/\ifB (X9 ax a) (SM xa/\Bd (Z0<=(↑i:Int)/\(↑i:Int)<(NI (J7 a))) (Bd (N4<=QaR a i) (SM xb/\Bd (Z0<=(↑j:Int)/\(↑j:Int)<(NI (J7 b))) (Bd (N4<=QaR b j) (∃(x:Arr×Arr),([QaS a i,QaS b j]=[D.agg (Arr.row x.1),D.agg (Arr.row x.2)]/\x.1∈K0 a/\x.2∈K0 b)/\∀(y:Unit),True->True/\∃(y:Unit),True/\oI (f x.1 x.2)=K1 f a b ax i j/\Kx xc xr xa xb a b))))) (SM xr/\ifB (X8 ax a) (SM xa/\Bd (Z0<=(↑i:Int)/\(↑i:Int)<(NI (J8 a))) (SM xb/\Bd (Z0<=(↑j:Int)/\(↑j:Int)<(NI (J8 b))) (∃(x:Int×Int),[QaV a i,QaV b j]=[ZI x.1,ZI x.2]/\QaW x.1 x.2 f a b ax i j xc xr xa xb))) (SM xa/\Bd (Z0<=QR ax/\QR ax<=Qs a/\Qs a<=Qs a) (SM xb/\Bd (Z0<=QR ax/\QR ax<=Qs b/\Qs b<=Qs b) (∃(x:List Int),QaY a ax x/\∀(y:Unit),True->(SM xb/\SM (Qhc b))/\∃(x_1:List Int),QaY b ax x_1/\∀(y:Unit),True->SM xa/\Bd (Z0<=(↑ax:Int)/\(↑ax:Int)<Qs a) (SM xb/\Bd (Z0<=(↑ax:Int)/\(↑ax:Int)<Qs b) ((∃(x:Nat),Ya x a ax b f i j/\(Z0=(↑x:Int)/\True)/\Kx xc xr xa xb a b)/\∀(x_2:Nat),Ya x_2 a ax b f i j->ifB (decide ((↑x_2:Int)<QaZ b ax a)) (SM xc/\∃(x_3:Nat×Nat×Nat),(QR ax=(NI x_3.1)/\Qa0 i x_2 x x_3.2.1/\Qa0 j x_2 x_1 x_3.2.2/\SM xr/\SM xa/\SM xb/\SM xc/\True)/\Kx xc xr xa xb a b/\q x_3/\∀(y:Unit),True->ifB (K1 f a b x_3.1 x_3.2.1 x_3.2.2 != Z0) (True/\∃(y:Unit),True/\K1 f a b x_3.1 x_3.2.1 x_3.2.2=K1 f a b ax i j/\Kx xc xr xa xb a b) ((Yb ax/\Yb i/\Yb j/\SM (D.ref N2 xr N0)/\SM (D.ref N0 xa N0)/\SM (D.ref N1 xb N0)/\SM (D.ref (3:Nat) xc N0)/\Qa1 x/\Qa1 x_1/\SM (Qhe b ax a)/\True)/\∃(y:Nat),Ya y a ax b f i j/\Int.toNat (K2 a ax)-y<Int.toNat (K2 a ax)-x_2/\(QR x_2=(↑y:Int)/\True)/\Kx xc xr xa xb a b)) (SM xa/\Bd (Z0<=(↑ax:Int)/\(↑ax:Int)<Qs a) (SM xb/\Bd (Z0<=(↑ax:Int)/\(↑ax:Int)<Qs b) (∃(x:Int×Int),[Qa2 a ax,Qa2 b ax]=[ZI x.1,ZI x.2]/\QaW x.1 x.2 f a b ax i j xc xr xa xb)))))))))) (by kernel_rfl) ?_
 delta DA GI LN N0 N1 N2 N4 NI SM Z0 Z1 ZI J5 J6 QaS K1 Qha K2 QaT J8 Qhb QaU Kx QaV Qs QaW QR QaX QaY Qhc Ya K3 QaZ Qa0 Yb X8 Qhd Qa1 Qhe Qa2 X9 K0 J7 QaP QaQ QaR
 have da:(default:Arr)=Arr.mk 0 [] [] []:=rfl
 simp only[<- da]
 simp only[ne_eq,implies_true,Int.toNat_natCast,Bh,Bc,decide_eq_true_eq,decide_eq_false_iff_not,true_and,and_true,beq_iff_eq,bne_iff_ne,bne_eq_false_iff_eq,beq_eq_false_iff_ne,exists_const,forall_const,Prod.exists]
 obtain ⟨rA,zA,sA⟩:=Bw ha
 obtain ⟨rB,zB,sB⟩:=Bw hb
 obtain ⟨p1,p2,p3⟩:=hp
 simp only at p1 p2 p3
 have l8:=((Bn _).1 rA).1
 have dA:=((Bn _).1 rA).2.1
 have dB:=((Bn _).1 rB).2.1
 refine⟨⟨fun e=>by rw[beq_iff_eq.2 e,cond_true],fun e=>by rw[beq_eq_false_iff_ne.2 e,cond_false]⟩,fun h=>?_,fun h=>⟨fun e=>?_,fun e=>?_⟩⟩
 ·by_cases e:(ax:Int)=a.sh.length
  ·rw[beq_iff_eq.2 e,cond_true,beq_iff_eq] at h
   obtain rfl:ax=a.sh.length:=by omega
   have hb3:b.k=3:=by rw[<- hk];exact h
   rw[List.drop_eq_nil_of_le (by rw[GP];exact Nat.le_refl _),szN,if_pos h] at p2
   rw[List.drop_eq_nil_of_le (by rw[GP];omega),szN,if_pos hb3] at p3
   simp only[prL] at p2 p3
   refine⟨⟨by omega,by omega⟩,by rw[Ev];omega,⟨by omega,by omega⟩,by rw[Ev];omega,_,_,⟨?_,CC (l:=a.it) (i:=i) (by omega),CC (l:=b.it) (i:=j) (by omega)⟩,?_⟩
   ·rw[List.drop_zero,List.drop_zero,List.take_of_length_le (by rw[Ev];omega),List.take_of_length_le (by rw[Ev];omega)]
   ·rw[Wn _ _ _ _ _ h]
  ·rw[beq_eq_false_iff_ne.2 e,cond_false] at h
   exact absurd h (by simp)
 ·rw[beq_iff_eq.2 e,cond_true,beq_eq_false_iff_ne] at h
  obtain rfl:ax=a.sh.length:=by omega
  have hb3:b.k≠3:=by rw[<- hk];exact h
  rw[List.drop_eq_nil_of_le (by rw[GP];exact Nat.le_refl _),szN,if_neg h] at p2
  rw[List.drop_eq_nil_of_le (by rw[GP];omega),szN,if_neg hb3] at p3
  simp only[prL] at p2 p3
  exact⟨⟨by omega,by omega⟩,⟨by omega,by omega⟩,_,_,rfl,by rw[BaG _ _ _ _ _ h]⟩
 ·have hlt:ax<a.sh.length:=by omega
  have wx:IntKind.i64.wrap ((ax:Int)+1)=((ax+1:Nat):Int):=by rw[Bb (by omega) (by omega)];push_cast;rfl
  have mA:a.sh.getD ax 0∈a.sh:=by rw[List.getD_eq_getElem?_getD,List.getElem?_eq_getElem hlt];exact List.getElem_mem hlt
  have mB:b.sh.getD ax 0∈b.sh:=by rw[List.getD_eq_getElem?_getD,List.getElem?_eq_getElem (by omega)];exact List.getElem_mem (by omega)
  have qA:=dA _ mA
  have qB:=dB _ mB
  have eA:=UM (s:=shN a.sh) (i:=ax) (by rw[GP];exact hlt)
  have eB:=UM (s:=shN b.sh) (i:=ax) (by rw[GP];omega)
  have gA:=RG dA ax
  have gB:=RG dB ax
  simp only[wx,Int.toNat_natCast]
  refine⟨⟨by omega,by omega,by omega⟩,⟨by omega,by omega,by omega⟩,a.sh.drop (ax+1),⟨⟨by rw[List.length_drop],fun i _=>(Ch _ _ _ _).symm⟩,(Cw rA _).2⟩,b.sh.drop (ax+1),⟨⟨by rw[List.length_drop],fun i _=>(Ch _ _ _ _).symm⟩,(Cw rB _).2⟩,⟨by omega,by omega⟩,⟨by omega,by omega⟩,⟨0,⟨by omega,by omega,Bbg f a b ax i j hlt⟩,rfl⟩,fun t ⟨t1,t2,t3⟩=>⟨fun h1=>?_,fun h1=>⟨⟨by omega,by omega⟩,⟨by omega,by omega⟩,_,_,rfl,?_⟩⟩⟩
  ·have h2:(t:Int)<a.sh.getD ax 0/\(t:Int)<b.sh.getD ax 0:=by split at h1<;>omega
   have n1:t<(shN a.sh).getD ax 0:=by omega
   have n2:t<(shN b.sh).getD ax 0:=by omega
   have k1:t*prL ((shN a.sh).drop (ax+1))+prL ((shN a.sh).drop (ax+1))<=prL ((shN a.sh).drop ax):=by
    rw[eA,<- Nat.succ_mul];exact Nat.mul_le_mul_right _ n1
   have k2:t*prL ((shN b.sh).drop (ax+1))+prL ((shN b.sh).drop (ax+1))<=prL ((shN b.sh).drop ax):=by
    rw[eB,<- Nat.succ_mul];exact Nat.mul_le_mul_right _ n2
   have sd:∀(s:List Int) (k:Nat),shN (s.drop k)=(shN s).drop k:=fun s k=>by simp[shN]
   have ks:=Bcl f a b ax i j t (by omega) (by omega)
   rw[t3] at ks
   simp only[sd]
   have w1:IntKind.i64.wrap ((t:Int)*(prL ((shN a.sh).drop (ax+1)):Nat))=((t*prL ((shN a.sh).drop (ax+1)):Nat):Int):=by rw[<- Int.natCast_mul];exact Bb (by omega) (by omega)
   have w2:IntKind.i64.wrap ((t:Int)*(prL ((shN b.sh).drop (ax+1)):Nat))=((t*prL ((shN b.sh).drop (ax+1)):Nat):Int):=by rw[<- Int.natCast_mul];exact Bb (by omega) (by omega)
   rw[w1,w2]
   refine⟨ax+1,i+t*prL ((shN a.sh).drop (ax+1)),j+t*prL ((shN b.sh).drop (ax+1)),⟨rfl,by rw[<- Int.natCast_add];exact Bb (by omega) (by omega),by rw[<- Int.natCast_add];exact Bb (by omega) (by omega)⟩,
    hq _ ⟨by simp only;omega,by simp only;omega,by simp only;omega⟩ rfl,fun e1=>?_,fun e1=>⟨t+1,⟨by omega,by omega,?_⟩,by omega,Bb (by omega) (by omega)⟩⟩
   ·rw[ks,Tk,if_neg e1]
   ·rw[ks,RL.1 e1];rfl
  ·rw[<- t3,Bdo f a b ax i j t ⟨qA.1,qB.1⟩ t1 t2 (by split at h1<;>omega)]
end
end Go.Proofs.Ytaempooepcejaaa
