/- Functions of the given program and what each of them computes: lemmas towards the statement, their conditions stated with each of them. -/
import Derived.Test.YtaempooepcejaaaAb2
import Derived.Test.YtaempooepcejaaaProg
import Derived.KernelRfl
import Derived.Test.YtaempooepcejaaaRows
import Derived.Deep.DeepHandedRow
import Derived.Shelf.Lay
import Derived.Shelf.LaySoft
import Derived.Shelf.Lays8
import Derived.Shelf.Spec.SlicesGrow
namespace Go.Proofs.Ytaempooepcejaaa
open Go Go.Ab
noncomputable section
noncomputable def tab:List (Nat×TI):=[
 (0,⟨TypeDesc.tuple #[],1,0,[.unk]⟩),
 (1,⟨TypeDesc.func #[] #[] false,1,8,[.nilf]⟩),
 (2,⟨TypeDesc.int .i64,1,8,[.int .i64 0]⟩),
 (3,⟨TypeDesc.int .i64,1,8,[.int .i64 0]⟩),
 (4,⟨TypeDesc.bool,1,1,[.bool false]⟩),
 (5,⟨TypeDesc.int .u8,1,1,[.int .u8 0]⟩),
 (9,⟨TypeDesc.string,1,16,[.str []]⟩),
 (20,⟨TypeDesc.interface #[],1,16,[.nili]⟩),
 (21,⟨TypeDesc.int .i32,1,4,[.int .i32 0]⟩),
 (22,⟨TypeDesc.int .i64,1,8,[.int .i64 0]⟩),
 (23,⟨TypeDesc.slice 3,1,24,[.sl 1 0 (fun _=>[]) .nil]⟩),
 (24,⟨TypeDesc.slice 26,1,24,[.sl 1 0 (fun _=>[]) .nil]⟩),
 (25,⟨Try.t25.desc,4,80,[.int .i64 0,.sl 1 0 (fun _=>[]) .nil,.sl 1 0 (fun _=>[]) .nil,.sl 1 0 (fun _=>[]) .nil]⟩),
 (26,⟨Try.t25.desc,4,80,[.int .i64 0,.sl 1 0 (fun _=>[]) .nil,.sl 1 0 (fun _=>[]) .nil,.sl 1 0 (fun _=>[]) .nil]⟩),
 (27,⟨TypeDesc.func #[26,3] #[4] false,1,8,[.nilf]⟩),
 (28,⟨TypeDesc.func #[] #[4] false,1,8,[.nilf]⟩),
 (29,⟨TypeDesc.int .i64,1,8,[.int .i64 0]⟩),
 (30,⟨TypeDesc.tuple #[26,29],1,0,[.unk]⟩),
 (31,⟨TypeDesc.func #[26] #[26,29] false,1,8,[.nilf]⟩),
 (32,⟨TypeDesc.func #[26,26] #[26,29] false,1,8,[.nilf]⟩),
 (33,⟨TypeDesc.func #[3] #[26] false,1,8,[.nilf]⟩),
 (34,⟨TypeDesc.func #[26] #[3] false,1,8,[.nilf]⟩),
 (35,⟨TypeDesc.func #[26,26] #[4] false,1,8,[.nilf]⟩),
 (36,⟨TypeDesc.func #[26] #[4] false,1,8,[.nilf]⟩),
 (37,⟨TypeDesc.func #[23] #[26] true,1,8,[.nilf]⟩),
 (38,⟨TypeDesc.func #[26] #[29] false,1,8,[.nilf]⟩),
 (39,⟨TypeDesc.slice 45,1,24,[.sl 1 0 (fun _=>[]) .nil]⟩),
 (40,⟨TypeDesc.tuple #[39,29],1,0,[.unk]⟩),
 (41,⟨TypeDesc.func #[26] #[39,29] false,1,8,[.nilf]⟩),
 (42,⟨TypeDesc.func #[39] #[26] false,1,8,[.nilf]⟩),
 (43,⟨TypeDesc.func #[39,47] #[39] false,1,8,[.nilf]⟩),
 (44,⟨Try.t44.desc,5,88,[.int .i64 0,.int .i64 0,.sl 1 0 (fun _=>[]) .nil,.sl 1 0 (fun _=>[]) .nil,.sl 1 0 (fun _=>[]) .nil]⟩),
 (45,⟨Try.t44.desc,5,88,[.int .i64 0,.int .i64 0,.sl 1 0 (fun _=>[]) .nil,.sl 1 0 (fun _=>[]) .nil,.sl 1 0 (fun _=>[]) .nil]⟩),
 (46,⟨TypeDesc.func #[26,26] #[3] false,1,8,[.nilf]⟩),
 (47,⟨TypeDesc.func #[45,45] #[3] false,1,8,[.nilf]⟩),
 (48,⟨TypeDesc.func #[23] #[23] false,1,8,[.nilf]⟩),
 (49,⟨TypeDesc.tuple #[3,23],1,0,[.unk]⟩),
 (50,⟨TypeDesc.func #[26] #[3,23] false,1,8,[.nilf]⟩),
 (51,⟨TypeDesc.func #[62] #[23] true,1,8,[.nilf]⟩),
 (52,⟨TypeDesc.func #[24] #[4] true,1,8,[.nilf]⟩),
 (53,⟨TypeDesc.func #[23] #[4] false,1,8,[.nilf]⟩),
 (54,⟨TypeDesc.func #[23,3] #[4] false,1,8,[.nilf]⟩),
 (55,⟨TypeDesc.func #[23] #[3] false,1,8,[.nilf]⟩),
 (56,⟨TypeDesc.func #[26,23,23] #[26,29] false,1,8,[.nilf]⟩),
 (57,⟨TypeDesc.func #[23,58] #[4] false,1,8,[.nilf]⟩),
 (58,⟨TypeDesc.func #[3] #[4] false,1,8,[.nilf]⟩),
 (59,⟨TypeDesc.func #[23,23] #[4] false,1,8,[.nilf]⟩),
 (60,⟨TypeDesc.func #[24,24,35] #[4] false,1,8,[.nilf]⟩),
 (61,⟨TypeDesc.func #[26,26] #[29] false,1,8,[.nilf]⟩),
 (62,⟨TypeDesc.slice 23,1,24,[.sl 1 0 (fun _=>[]) .nil]⟩),
 (63,⟨TypeDesc.func #[23,3] #[23] false,1,8,[.nilf]⟩),
 (64,⟨TypeDesc.tuple #[3,29],1,0,[.unk]⟩),
 (65,⟨TypeDesc.func #[23,23,3,3,3] #[3,29] false,1,8,[.nilf]⟩),
 (66,⟨TypeDesc.tuple #[29,3],1,0,[.unk]⟩),
 (67,⟨TypeDesc.func #[26] #[29,3] false,1,8,[.nilf]⟩),
 (68,⟨TypeDesc.func #[26,3] #[24] false,1,8,[.nilf]⟩),
 (69,⟨TypeDesc.func #[24,36] #[4] false,1,8,[.nilf]⟩),
 (70,⟨TypeDesc.func #[26] #[26] false,1,8,[.nilf]⟩),
 (71,⟨TypeDesc.func #[23,58] #[3] false,1,8,[.nilf]⟩),
 (72,⟨TypeDesc.func #[3,3] #[3,29] false,1,8,[.nilf]⟩),
 (73,⟨TypeDesc.func #[23] #[29] false,1,8,[.nilf]⟩),
 (74,⟨TypeDesc.func #[26] #[29,3,3] false,1,8,[.nilf]⟩),
 (75,⟨TypeDesc.tuple #[29,3,3],1,0,[.unk]⟩),
 (76,⟨TypeDesc.func #[3,3] #[3] false,1,8,[.nilf]⟩),
 (77,⟨TypeDesc.func #[26,3,3,23] #[26] false,1,8,[.nilf]⟩),
 (78,⟨TypeDesc.func #[23] #[3] true,1,8,[.nilf]⟩),
 (79,⟨TypeDesc.func #[22,22] #[3] false,1,8,[.nilf]⟩),
 (80,⟨TypeDesc.func #[23,23] #[3] false,1,8,[.nilf]⟩),
 (81,⟨TypeDesc.func #[24,36] #[3] false,1,8,[.nilf]⟩),
 (82,⟨TypeDesc.tuple #[3,3,29],1,0,[.unk]⟩),
 (83,⟨TypeDesc.func #[3,3] #[3,3,29] false,1,8,[.nilf]⟩),
 (84,⟨TypeDesc.func #[3,3] #[29] false,1,8,[.nilf]⟩),
 (85,⟨TypeDesc.func #[3] #[3,29] false,1,8,[.nilf]⟩),
 (86,⟨TypeDesc.func #[22] #[4] false,1,8,[.nilf]⟩),
 (87,⟨TypeDesc.func #[3,3,3] #[3] false,1,8,[.nilf]⟩),
 (88,⟨TypeDesc.func #[23,3] #[3] false,1,8,[.nilf]⟩),
 (89,⟨TypeDesc.func #[3] #[3] false,1,8,[.nilf]⟩),
 (90,⟨TypeDesc.func #[] #[9] false,1,8,[.nilf]⟩),
 (96,⟨TypeDesc.func #[] #[3] false,1,8,[.nilf]⟩),
 (97,⟨TypeDesc.int .u32,1,4,[.int .u32 0]⟩),
 (100,⟨TypeDesc.func #[106,106] #[4] false,1,8,[.nilf]⟩),
 (101,⟨TypeDesc.pointer 5,1,8,[.nilp]⟩),
 (106,⟨TypeDesc.unsafePointer,1,8,[.nilp]⟩)]
theorem tc{P:Program}{l:List (Nat×TI)}{t:Nat}{d:TypeDesc}{a b:Nat}{z:List D}(h1:P.underlying t=some d)(h:TabOk P (ES l))(h2:(P.info? t).map (fun i=>(i.size,i.bytes,i.zero.map fun z=>(z.cells.size,z.cells.toList.map G4)))=some (a,b,some (a,z)):=by kernel_rfl):TabOk P (ES ((t,⟨d,a,b,z⟩)::l)):=TabOk.cons (ti:=⟨d,a,b,z⟩) h1 h2 h
theorem BbZ:TabOk Try.prog (ES tab) :=
 TabOk.cons (ti:=⟨_,_,_,_⟩) Try.underlying0 (by kernel_rfl) <|
 TabOk.cons (ti:=⟨_,_,_,_⟩) Try.underlying1 (by kernel_rfl) <|
 TabOk.cons (ti:=⟨_,_,_,_⟩) Try.underlying2 (by kernel_rfl) <|
 TabOk.cons (ti:=⟨_,_,_,_⟩) Try.underlying3 (by kernel_rfl) <|
 TabOk.cons (ti:=⟨_,_,_,_⟩) Try.underlying4 (by kernel_rfl) <|
 TabOk.cons (ti:=⟨_,_,_,_⟩) Try.underlying5 (by kernel_rfl) <|
 TabOk.cons (ti:=⟨_,_,_,_⟩) Try.underlying9 (by kernel_rfl) <|
 TabOk.cons (ti:=⟨_,_,_,_⟩) Try.underlying20 (by kernel_rfl) <|
 TabOk.cons (ti:=⟨_,_,_,_⟩) Try.underlying21 (by kernel_rfl) <|
 TabOk.cons (ti:=⟨_,_,_,_⟩) Try.underlying22 (by kernel_rfl) <|
 TabOk.cons (ti:=⟨_,_,_,_⟩) Try.underlying23 (by kernel_rfl) <|
 TabOk.cons (ti:=⟨_,_,_,_⟩) Try.underlying24 (by kernel_rfl) <|
 TabOk.cons (ti:=⟨_,_,_,_⟩) Try.underlying25 (by kernel_rfl) <|
 TabOk.cons (ti:=⟨_,_,_,_⟩) Try.underlying26 (by kernel_rfl) <|
 TabOk.cons (ti:=⟨_,_,_,_⟩) Try.underlying27 (by kernel_rfl) <|
 TabOk.cons (ti:=⟨_,_,_,_⟩) Try.underlying28 (by kernel_rfl) <|
 TabOk.cons (ti:=⟨_,_,_,_⟩) Try.underlying29 (by kernel_rfl) <|
 TabOk.cons (ti:=⟨_,_,_,_⟩) Try.underlying30 (by kernel_rfl) <|
 TabOk.cons (ti:=⟨_,_,_,_⟩) Try.underlying31 (by kernel_rfl) <|
 TabOk.cons (ti:=⟨_,_,_,_⟩) Try.underlying32 (by kernel_rfl) <|
 TabOk.cons (ti:=⟨_,_,_,_⟩) Try.underlying33 (by kernel_rfl) <|
 TabOk.cons (ti:=⟨_,_,_,_⟩) Try.underlying34 (by kernel_rfl) <|
 TabOk.cons (ti:=⟨_,_,_,_⟩) Try.underlying35 (by kernel_rfl) <|
 TabOk.cons (ti:=⟨_,_,_,_⟩) Try.underlying36 (by kernel_rfl) <|
 TabOk.cons (ti:=⟨_,_,_,_⟩) Try.underlying37 (by kernel_rfl) <|
 TabOk.cons (ti:=⟨_,_,_,_⟩) Try.underlying38 (by kernel_rfl) <|
 TabOk.cons (ti:=⟨_,_,_,_⟩) Try.underlying39 (by kernel_rfl) <|
 TabOk.cons (ti:=⟨_,_,_,_⟩) Try.underlying40 (by kernel_rfl) <|
 TabOk.cons (ti:=⟨_,_,_,_⟩) Try.underlying41 (by kernel_rfl) <|
 TabOk.cons (ti:=⟨_,_,_,_⟩) Try.underlying42 (by kernel_rfl) <|
 TabOk.cons (ti:=⟨_,_,_,_⟩) Try.underlying43 (by kernel_rfl) <|
 TabOk.cons (ti:=⟨_,_,_,_⟩) Try.underlying44 (by kernel_rfl) <|
 TabOk.cons (ti:=⟨_,_,_,_⟩) Try.underlying45 (by kernel_rfl) <|
 TabOk.cons (ti:=⟨_,_,_,_⟩) Try.underlying46 (by kernel_rfl) <|
 TabOk.cons (ti:=⟨_,_,_,_⟩) Try.underlying47 (by kernel_rfl) <|
 TabOk.cons (ti:=⟨_,_,_,_⟩) Try.underlying48 (by kernel_rfl) <|
 TabOk.cons (ti:=⟨_,_,_,_⟩) Try.underlying49 (by kernel_rfl) <|
 TabOk.cons (ti:=⟨_,_,_,_⟩) Try.underlying50 (by kernel_rfl) <|
 TabOk.cons (ti:=⟨_,_,_,_⟩) Try.underlying51 (by kernel_rfl) <|
 TabOk.cons (ti:=⟨_,_,_,_⟩) Try.underlying52 (by kernel_rfl) <|
 TabOk.cons (ti:=⟨_,_,_,_⟩) Try.underlying53 (by kernel_rfl) <|
 TabOk.cons (ti:=⟨_,_,_,_⟩) Try.underlying54 (by kernel_rfl) <|
 TabOk.cons (ti:=⟨_,_,_,_⟩) Try.underlying55 (by kernel_rfl) <|
 TabOk.cons (ti:=⟨_,_,_,_⟩) Try.underlying56 (by kernel_rfl) <|
 TabOk.cons (ti:=⟨_,_,_,_⟩) Try.underlying57 (by kernel_rfl) <|
 TabOk.cons (ti:=⟨_,_,_,_⟩) Try.underlying58 (by kernel_rfl) <|
 TabOk.cons (ti:=⟨_,_,_,_⟩) Try.underlying59 (by kernel_rfl) <|
 TabOk.cons (ti:=⟨_,_,_,_⟩) Try.underlying60 (by kernel_rfl) <|
 TabOk.cons (ti:=⟨_,_,_,_⟩) Try.underlying61 (by kernel_rfl) <|
 TabOk.cons (ti:=⟨_,_,_,_⟩) Try.underlying62 (by kernel_rfl) <|
 TabOk.cons (ti:=⟨_,_,_,_⟩) Try.underlying63 (by kernel_rfl) <|
 TabOk.cons (ti:=⟨_,_,_,_⟩) Try.underlying64 (by kernel_rfl) <|
 TabOk.cons (ti:=⟨_,_,_,_⟩) Try.underlying65 (by kernel_rfl) <|
 TabOk.cons (ti:=⟨_,_,_,_⟩) Try.underlying66 (by kernel_rfl) <|
 TabOk.cons (ti:=⟨_,_,_,_⟩) Try.underlying67 (by kernel_rfl) <|
 TabOk.cons (ti:=⟨_,_,_,_⟩) Try.underlying68 (by kernel_rfl) <|
 TabOk.cons (ti:=⟨_,_,_,_⟩) Try.underlying69 (by kernel_rfl) <|
 TabOk.cons (ti:=⟨_,_,_,_⟩) Try.underlying70 (by kernel_rfl) <|
 TabOk.cons (ti:=⟨_,_,_,_⟩) Try.underlying71 (by kernel_rfl) <|
 TabOk.cons (ti:=⟨_,_,_,_⟩) Try.underlying72 (by kernel_rfl) <|
 TabOk.cons (ti:=⟨_,_,_,_⟩) Try.underlying73 (by kernel_rfl) <|
 TabOk.cons (ti:=⟨_,_,_,_⟩) Try.underlying74 (by kernel_rfl) <|
 TabOk.cons (ti:=⟨_,_,_,_⟩) Try.underlying75 (by kernel_rfl) <|
 TabOk.cons (ti:=⟨_,_,_,_⟩) Try.underlying76 (by kernel_rfl) <|
 TabOk.cons (ti:=⟨_,_,_,_⟩) Try.underlying77 (by kernel_rfl) <|
 TabOk.cons (ti:=⟨_,_,_,_⟩) Try.underlying78 (by kernel_rfl) <|
 TabOk.cons (ti:=⟨_,_,_,_⟩) Try.underlying79 (by kernel_rfl) <|
 TabOk.cons (ti:=⟨_,_,_,_⟩) Try.underlying80 (by kernel_rfl) <|
 TabOk.cons (ti:=⟨_,_,_,_⟩) Try.underlying81 (by kernel_rfl) <|
 TabOk.cons (ti:=⟨_,_,_,_⟩) Try.underlying82 (by kernel_rfl) <|
 TabOk.cons (ti:=⟨_,_,_,_⟩) Try.underlying83 (by kernel_rfl) <|
 TabOk.cons (ti:=⟨_,_,_,_⟩) Try.underlying84 (by kernel_rfl) <|
 TabOk.cons (ti:=⟨_,_,_,_⟩) Try.underlying85 (by kernel_rfl) <|
 TabOk.cons (ti:=⟨_,_,_,_⟩) Try.underlying86 (by kernel_rfl) <|
 TabOk.cons (ti:=⟨_,_,_,_⟩) Try.underlying87 (by kernel_rfl) <|
 TabOk.cons (ti:=⟨_,_,_,_⟩) Try.underlying88 (by kernel_rfl) <|
 TabOk.cons (ti:=⟨_,_,_,_⟩) Try.underlying89 (by kernel_rfl) <|
 TabOk.cons (ti:=⟨_,_,_,_⟩) Try.underlying90 (by kernel_rfl) <|
 TabOk.cons (ti:=⟨_,_,_,_⟩) Try.underlying96 (by kernel_rfl) <|
 TabOk.cons (ti:=⟨_,_,_,_⟩) Try.underlying97 (by kernel_rfl) <|
 TabOk.cons (ti:=⟨_,_,_,_⟩) Try.underlying100 (by kernel_rfl) <|
 TabOk.cons (ti:=⟨_,_,_,_⟩) Try.underlying101 (by kernel_rfl) <|
 TabOk.cons (ti:=⟨_,_,_,_⟩) Try.underlying106 (by kernel_rfl) <|
 TabOk.nil _
noncomputable def BbS:List (Nat×Frm):=[
 (3,{ fn:=Try.f3,n:=74,V:=13,cross:=[21],ord:=fun _=>([],[]) }),
 (4,{ fn:=Try.f4,n:=69,V:=8,cross:=[27,33,41],ord:=fun id=>match id with | 8=>([2,0,1,3,4,5,6,7,8,9],[0,1,3,7,8]) | 9=>([2,0,1,3,4,5,6,7,8,9],[0,1,3,7,8]) | _=>([],[]) }),
 (5,{ fn:=Try.f5,n:=14,V:=3,cross:=[4],ord:=fun _=>([],[]) }),
 (6,{ fn:=Try.f6,n:=34,V:=5,cross:=[],ord:=fun id=>match id with | 2=>([0,1,2,3,4,5,6,7,8,9],[1,2,3,7,8]) | 3=>([0,1,2,3,4,5,6,7,8,9,10,11,12,13,14,15,16],[6,7,8,12,13,14]) | _=>([],[]) }),
 (7,{ fn:=Try.f7,n:=18,V:=6,cross:=[12],ord:=fun _=>([],[]) }),
 (8,{ fn:=Try.f8,n:=47,V:=7,cross:=[8,15,25,26,27,28],ord:=fun id=>match id with | 4=>([0,1,2,3,4,5,6,7],[4,6,7]) | _=>([],[]) }),
 (9,{ fn:=Try.f9,n:=77,V:=11,cross:=[12,13,24,31,36,41,51,52,53,54,57,58,59],ord:=fun _=>([],[]) }),
 (10,{ fn:=Try.f10,n:=51,V:=7,cross:=[11,16,22,27,39,40,41],ord:=fun _=>([],[]) }),
 (11,{ fn:=Try.f11,n:=6,V:=1,cross:=[2],ord:=fun _=>([],[]) }),
 (12,{ fn:=Try.f12,n:=11,V:=3,cross:=[6],ord:=fun _=>([],[]) }),
 (13,{ fn:=Try.f13,n:=31,V:=5,cross:=[],ord:=fun _=>([],[]) }),
 (14,{ fn:=Try.f14,n:=33,V:=3,cross:=[4,5,10,29],ord:=fun _=>([],[]) }),
 (15,{ fn:=Try.f15,n:=80,V:=9,cross:=[10,11,13,18,23,35,42,43,44,45,58,59,60,62,63,64,65],ord:=fun id=>match id with | 21=>([0,1,2,3,4,5,6,7,8,9],[6,7,9]) | _=>([],[]) }),
 (16,{ fn:=Try.f16,n:=8,V:=1,cross:=[2],ord:=fun _=>([],[]) }),
 (17,{ fn:=Try.f17,n:=82,V:=13,cross:=[17,24,44,53,54,55,71],ord:=fun id=>match id with | 7=>([0,1,2,3,4,5,6,7,8,9,10,11,12,13,14,15,16,17,18],[]) | 14=>([0,1,2,3,4,5,6,7,8,9,10,11,12,13,14],[9]) | _=>([],[]) }),
 (18,{ fn:=Try.f18,n:=33,V:=5,cross:=[20],ord:=fun _=>([],[]) }),
 (19,{ fn:=Try.f19,n:=11,V:=5,cross:=[],ord:=fun _=>([],[]) }),
 (20,{ fn:=Try.f20,n:=36,V:=8,cross:=[11,21,22,23,24],ord:=fun _=>([],[]) }),
 (21,{ fn:=Try.f21,n:=25,V:=1,cross:=[2,3,5,10,11,12,13],ord:=fun _=>([],[]) }),
 (22,{ fn:=Try.f22,n:=67,V:=2,cross:=[4,5,6,7,10,36,45],ord:=fun id=>match id with | 3=>([0,1,2,3,4,5,7,8,9,10,11,12,6,13,14,15],[6,13]) | 6=>([0,1,2,3,4,5,6,7,8],[7]) | 7=>([0,1,2,3,6,7,4,5,8,9],[4,5]) | 8=>([0,1,2,3,6,7,4,5,8,9],[4,5]) | _=>([],[]) }),
 (23,{ fn:=Try.f23,n:=10,V:=5,cross:=[],ord:=fun _=>([],[]) }),
 (24,{ fn:=Try.f24,n:=16,V:=5,cross:=[12],ord:=fun _=>([],[]) }),
 (25,{ fn:=Try.f25,n:=8,V:=1,cross:=[2,4],ord:=fun _=>([],[]) }),
 (26,{ fn:=Try.f26,n:=10,V:=5,cross:=[],ord:=fun _=>([],[]) }),
 (27,{ fn:=Try.f27,n:=15,V:=4,cross:=[7],ord:=fun id=>match id with | 3=>([0,1,2,3,4,5,6,7,8],[]) | _=>([],[]) }),
 (28,{ fn:=Try.f28,n:=36,V:=1,cross:=[2,3,5,6,8,9,10,11,12,20,25,26,27,28],ord:=fun _=>([],[]) }),
 (29,{ fn:=Try.f29,n:=6,V:=1,cross:=[2],ord:=fun _=>([],[]) }),
 (30,{ fn:=Try.f30,n:=31,V:=1,cross:=[2,3,5,8,9,10,11,12,15,22,29],ord:=fun _=>([],[]) }),
 (31,{ fn:=Try.f31,n:=9,V:=2,cross:=[3,4],ord:=fun _=>([],[]) }),
 (32,{ fn:=Try.f32,n:=8,V:=1,cross:=[2,5],ord:=fun _=>([],[]) }),
 (33,{ fn:=Try.f33,n:=61,V:=4,cross:=[6,7,8,9,11,17,18,19,20,25,46],ord:=fun id=>match id with | 1=>([0,1,2,3,4,5,6],[3,5,6]) | 7=>([0,1,2,3,4,5,6,7,8,9,10],[7,8,10]) | 11=>([0,1,2,3,4,5,6,7,8,9,10,11],[7,8,9,11]) | _=>([],[]) }),
 (34,{ fn:=Try.f34,n:=6,V:=3,cross:=[],ord:=fun _=>([],[]) }),
 (35,{ fn:=Try.f35,n:=9,V:=2,cross:=[4],ord:=fun _=>([],[]) }),
 (36,{ fn:=Try.f36,n:=5,V:=1,cross:=[2],ord:=fun _=>([],[]) }),
 (37,{ fn:=Try.f37,n:=26,V:=2,cross:=[4,5,10,12,13,14,24],ord:=fun id=>match id with | 6=>([0,1,2,3,4,5,6,7,8],[]) | _=>([],[]) }),
 (38,{ fn:=Try.f38,n:=32,V:=3,cross:=[6,7,8,9,14,15,16,17,18,30],ord:=fun _=>([],[]) }),
 (39,{ fn:=Try.f39,n:=28,V:=6,cross:=[14,23],ord:=fun _=>([],[]) }),
 (40,{ fn:=Try.f40,n:=5,V:=1,cross:=[2],ord:=fun _=>([],[]) }),
 (41,{ fn:=Try.f41,n:=44,V:=2,cross:=[4,5,6,7,15,22],ord:=fun _=>([],[]) }),
 (42,{ fn:=Try.f42,n:=56,V:=5,cross:=[10,11,12,13,14,15,16,17,18,19,36,52],ord:=fun _=>([],[]) }),
 (43,{ fn:=Try.f43,n:=16,V:=3,cross:=[4,5,11],ord:=fun _=>([],[]) }),
 (44,{ fn:=Try.f44,n:=107,V:=11,cross:=[18,23,30,43,48,76,81,94,105],ord:=fun id=>match id with | 9=>([0,2,3,1,4,5,6,7,8,9],[1,4]) | _=>([],[]) }),
 (45,{ fn:=Try.f45,n:=16,V:=7,cross:=[],ord:=fun _=>([],[]) }),
 (46,{ fn:=Try.f46,n:=53,V:=3,cross:=[4,5,6,7,8,9,12,34,35,36],ord:=fun id=>match id with | 3=>([0,1,2,3,4,5,6,7,8,9],[7]) | 4=>([0,1,2,3,5,6,7,8,4,9,10,11],[4,9]) | 9=>([0,1,2,3,4,5,6,7,8,9,10,11,12,13],[10,11,12]) | _=>([],[]) }),
 (47,{ fn:=Try.f47,n:=27,V:=5,cross:=[],ord:=fun id=>match id with | 1=>([0,1,2,3,5,6,7,8,9,10,12,13,15,16,17,18,4,11,14,19,20,21,22],[4,11,14,19,20,21]) | _=>([],[]) }),
 (48,{ fn:=Try.f48,n:=27,V:=2,cross:=[4,6,16],ord:=fun _=>([],[]) }),
 (49,{ fn:=Try.f49,n:=9,V:=2,cross:=[4],ord:=fun _=>([],[]) }),
 (50,{ fn:=Try.f50,n:=6,V:=3,cross:=[],ord:=fun _=>([],[]) }),
 (51,{ fn:=Try.f51,n:=11,V:=2,cross:=[3],ord:=fun _=>([],[]) }),
 (52,{ fn:=Try.f52,n:=19,V:=1,cross:=[2,3,5,7,8,9,10,11],ord:=fun _=>([],[]) }),
 (53,{ fn:=Try.f53,n:=30,V:=4,cross:=[5,11,14,15,16,17,21],ord:=fun _=>([],[]) }),
 (54,{ fn:=Try.f54,n:=47,V:=6,cross:=[32,33,34,35],ord:=fun id=>match id with | 1=>([0,1,2,3,4,6,7,8,10,11,12,5,9,13,14,15,16],[5,9,13,15,16]) | 7=>([0,1,2,3,4,5,6],[4,6]) | _=>([],[]) }),
 (55,{ fn:=Try.f55,n:=19,V:=2,cross:=[4,5,7,8,9,16],ord:=fun _=>([],[]) }),
 (56,{ fn:=Try.f56,n:=18,V:=2,cross:=[4,5,6,7,8],ord:=fun _=>([],[]) }),
 (57,{ fn:=Try.f57,n:=18,V:=2,cross:=[4,5,6,7,8],ord:=fun _=>([],[]) }),
 (58,{ fn:=Try.f58,n:=18,V:=2,cross:=[4,5,6,11],ord:=fun _=>([],[]) }),
 (59,{ fn:=Try.f59,n:=19,V:=2,cross:=[4,5,6,11],ord:=fun _=>([],[]) }),
 (60,{ fn:=Try.f60,n:=21,V:=1,cross:=[2,3,6,10,17,20],ord:=fun _=>([],[]) }),
 (61,{ fn:=Try.f61,n:=17,V:=1,cross:=[2,3,7,14],ord:=fun _=>([],[]) }),
 (62,{ fn:=Try.f62,n:=9,V:=1,cross:=[2],ord:=fun _=>([],[]) }),
 (63,{ fn:=Try.f63,n:=17,V:=1,cross:=[2],ord:=fun _=>([],[]) }),
 (64,{ fn:=Try.f64,n:=87,V:=7,cross:=[8,9,10,12,13,14,15,19,22,23,24,25,45,55,56,57,58,69,84],ord:=fun id=>match id with | 10=>([0,1,2,3,4,5,6,7,8],[]) | _=>([],[]) }),
 (65,{ fn:=Try.f65,n:=44,V:=5,cross:=[12,13,16,20,25,29,34],ord:=fun id=>match id with | 1=>([0,1,2,3,4,5,6,7],[]) | _=>([],[]) }),
 (66,{ fn:=Try.f66,n:=9,V:=1,cross:=[2],ord:=fun _=>([],[]) }),
 (67,{ fn:=Try.f67,n:=17,V:=1,cross:=[2],ord:=fun _=>([],[]) }),
 (68,{ fn:=Try.f68,n:=18,V:=2,cross:=[4,8],ord:=fun _=>([],[]) }),
 (69,{ fn:=Try.f69,n:=38,V:=5,cross:=[8,9,10,21],ord:=fun id=>match id with | 1=>([0,1,2,3,4,5,6],[3,5,6]) | _=>([],[]) }),
 (70,{ fn:=Try.f70,n:=18,V:=1,cross:=[2,3,5,6,7,8,9,14],ord:=fun _=>([],[]) }),
 (71,{ fn:=Try.f71,n:=20,V:=2,cross:=[4,5,6,11,12,13,16,19],ord:=fun _=>([],[]) }),
 (72,{ fn:=Try.f72,n:=20,V:=2,cross:=[4,5,6,11,12,13,16,19],ord:=fun _=>([],[]) }),
 (73,{ fn:=Try.f73,n:=27,V:=7,cross:=[20],ord:=fun _=>([],[]) }),
 (74,{ fn:=Try.f74,n:=36,V:=2,cross:=[4,5,6,7,8,9,10,11,12,19,28,35],ord:=fun _=>([],[]) }),
 (75,{ fn:=Try.f75,n:=19,V:=2,cross:=[4,5,7,8,9,16],ord:=fun _=>([],[]) }),
 (76,{ fn:=Try.f76,n:=9,V:=2,cross:=[4],ord:=fun _=>([],[]) }),
 (77,{ fn:=Try.f77,n:=16,V:=3,cross:=[4,5,11],ord:=fun _=>([],[]) }),
 (78,{ fn:=Try.f78,n:=40,V:=2,cross:=[4,5,6,7,8,9,14,17,32],ord:=fun id=>match id with | 6=>([0,1,2,3,4,5,6,7],[]) | _=>([],[]) }),
 (79,{ fn:=Try.f79,n:=11,V:=2,cross:=[4,10],ord:=fun _=>([],[]) }),
 (80,{ fn:=Try.f80,n:=19,V:=2,cross:=[4,5,15],ord:=fun _=>([],[]) }),
 (81,{ fn:=Try.f81,n:=8,V:=1,cross:=[2,3,6],ord:=fun _=>([],[]) }),
 (82,{ fn:=Try.f82,n:=30,V:=1,cross:=[2,3,4,8,15,20,28],ord:=fun _=>([],[]) }),
 (83,{ fn:=Try.f83,n:=5,V:=1,cross:=[2],ord:=fun _=>([],[]) }),
 (84,{ fn:=Try.f84,n:=6,V:=1,cross:=[2],ord:=fun _=>([],[]) }),
 (85,{ fn:=Try.f85,n:=6,V:=1,cross:=[2],ord:=fun _=>([],[]) }),
 (86,{ fn:=Try.f86,n:=105,V:=7,cross:=[10,11,12,13,14,15,35,72,73,74,91],ord:=fun id=>match id with | 2=>([0,1,2,3,4,5,6,7,8,9,10,11],[10]) | 4=>([0,1,2,3,4,5,6,7,8,9,10,11],[10]) | 5=>([0,1,2,3,4,6,7,8,9,10,5,11,12,13],[5,11]) | 6=>([0,1,2,3,4,5,6,7,8,9,10,11],[]) | 13=>([0,1,2,3,4,5,6,7,8,9,10,11],[10]) | _=>([],[]) }),
 (87,{ fn:=Try.f87,n:=19,V:=2,cross:=[4,5,7,8,9,16],ord:=fun _=>([],[]) }),
 (88,{ fn:=Try.f88,n:=9,V:=1,cross:=[2],ord:=fun _=>([],[]) }),
 (89,{ fn:=Try.f89,n:=7,V:=1,cross:=[2],ord:=fun _=>([],[]) })]
abbrev eqs:List Nat:=[]
theorem Bbw:∀t,eqs.contains t=true->Try.prog.eqGuardType Try.prog.depth t=false/\Try.prog.stoodInHeld t=false:=by
 intro t h
 exact absurd h (by simp[eqs])
theorem Bag:FrmOk Try.prog (G3 BbS) :=
 FrmOk.cons Try.func3 rfl (by decide) <|
 FrmOk.cons Try.func4 rfl (by decide) <|
 FrmOk.cons Try.func5 rfl (by decide) <|
 FrmOk.cons Try.func6 rfl (by decide) <|
 FrmOk.cons Try.func7 rfl (by decide) <|
 FrmOk.cons Try.func8 rfl (by decide) <|
 FrmOk.cons Try.func9 rfl (by decide) <|
 FrmOk.cons Try.func10 rfl (by decide) <|
 FrmOk.cons Try.func11 rfl (by decide) <|
 FrmOk.cons Try.func12 rfl (by decide) <|
 FrmOk.cons Try.func13 rfl (by decide) <|
 FrmOk.cons Try.func14 rfl (by decide) <|
 FrmOk.cons Try.func15 rfl (by decide) <|
 FrmOk.cons Try.func16 rfl (by decide) <|
 FrmOk.cons Try.func17 rfl (by decide) <|
 FrmOk.cons Try.func18 rfl (by decide) <|
 FrmOk.cons Try.func19 rfl (by decide) <|
 FrmOk.cons Try.func20 rfl (by decide) <|
 FrmOk.cons Try.func21 rfl (by decide) <|
 FrmOk.cons Try.func22 rfl (by decide) <|
 FrmOk.cons Try.func23 rfl (by decide) <|
 FrmOk.cons Try.func24 rfl (by decide) <|
 FrmOk.cons Try.func25 rfl (by decide) <|
 FrmOk.cons Try.func26 rfl (by decide) <|
 FrmOk.cons Try.func27 rfl (by decide) <|
 FrmOk.cons Try.func28 rfl (by decide) <|
 FrmOk.cons Try.func29 rfl (by decide) <|
 FrmOk.cons Try.func30 rfl (by decide) <|
 FrmOk.cons Try.func31 rfl (by decide) <|
 FrmOk.cons Try.func32 rfl (by decide) <|
 FrmOk.cons Try.func33 rfl (by decide) <|
 FrmOk.cons Try.func34 rfl (by decide) <|
 FrmOk.cons Try.func35 rfl (by decide) <|
 FrmOk.cons Try.func36 rfl (by decide) <|
 FrmOk.cons Try.func37 rfl (by decide) <|
 FrmOk.cons Try.func38 rfl (by decide) <|
 FrmOk.cons Try.func39 rfl (by decide) <|
 FrmOk.cons Try.func40 rfl (by decide) <|
 FrmOk.cons Try.func41 rfl (by decide) <|
 FrmOk.cons Try.func42 rfl (by decide) <|
 FrmOk.cons Try.func43 rfl (by decide) <|
 FrmOk.cons Try.func44 rfl (by decide) <|
 FrmOk.cons Try.func45 rfl (by decide) <|
 FrmOk.cons Try.func46 rfl (by decide) <|
 FrmOk.cons Try.func47 rfl (by decide) <|
 FrmOk.cons Try.func48 rfl (by decide) <|
 FrmOk.cons Try.func49 rfl (by decide) <|
 FrmOk.cons Try.func50 rfl (by decide) <|
 FrmOk.cons Try.func51 rfl (by decide) <|
 FrmOk.cons Try.func52 rfl (by decide) <|
 FrmOk.cons Try.func53 rfl (by decide) <|
 FrmOk.cons Try.func54 rfl (by decide) <|
 FrmOk.cons Try.func55 rfl (by decide) <|
 FrmOk.cons Try.func56 rfl (by decide) <|
 FrmOk.cons Try.func57 rfl (by decide) <|
 FrmOk.cons Try.func58 rfl (by decide) <|
 FrmOk.cons Try.func59 rfl (by decide) <|
 FrmOk.cons Try.func60 rfl (by decide) <|
 FrmOk.cons Try.func61 rfl (by decide) <|
 FrmOk.cons Try.func62 rfl (by decide) <|
 FrmOk.cons Try.func63 rfl (by decide) <|
 FrmOk.cons Try.func64 rfl (by decide) <|
 FrmOk.cons Try.func65 rfl (by decide) <|
 FrmOk.cons Try.func66 rfl (by decide) <|
 FrmOk.cons Try.func67 rfl (by decide) <|
 FrmOk.cons Try.func68 rfl (by decide) <|
 FrmOk.cons Try.func69 rfl (by decide) <|
 FrmOk.cons Try.func70 rfl (by decide) <|
 FrmOk.cons Try.func71 rfl (by decide) <|
 FrmOk.cons Try.func72 rfl (by decide) <|
 FrmOk.cons Try.func73 rfl (by decide) <|
 FrmOk.cons Try.func74 rfl (by decide) <|
 FrmOk.cons Try.func75 rfl (by decide) <|
 FrmOk.cons Try.func76 rfl (by decide) <|
 FrmOk.cons Try.func77 rfl (by decide) <|
 FrmOk.cons Try.func78 rfl (by decide) <|
 FrmOk.cons Try.func79 rfl (by decide) <|
 FrmOk.cons Try.func80 rfl (by decide) <|
 FrmOk.cons Try.func81 rfl (by decide) <|
 FrmOk.cons Try.func82 rfl (by decide) <|
 FrmOk.cons Try.func83 rfl (by decide) <|
 FrmOk.cons Try.func84 rfl (by decide) <|
 FrmOk.cons Try.func85 rfl (by decide) <|
 FrmOk.cons Try.func86 rfl (by decide) <|
 FrmOk.cons Try.func87 rfl (by decide) <|
 FrmOk.cons Try.func88 rfl (by decide) <|
 FrmOk.cons Try.func89 rfl (by decide) <|
 FrmOk.nil _
theorem mix:Try.prog.follows .mixedOrders=true:=by kernel_rfl
def SM{α:Type}(x:α):Prop:=x=x
def Z0:Int:=0
def Z1:Int:=1
def N0:Nat:=0
def N1:Nat:=1
def N2:Nat:=2
def N4:Nat:=4
def LN{α:Type}(l:List α):Nat:=List.length l
def LI{α:Type}(l:List α):Int:=(↑(List.length l):Int)
def NI(x:Nat):Int:=(↑x:Int)
def TN(x:Nat):Nat:=Int.toNat (↑x:Int)
def TL{α:Type}(l:List α):Nat:=Int.toNat (↑(List.length l):Int)
def GI(l:List Int)(i:Nat):Int:=List.getD l i (0:Int)
def ZI(a:Int):D:=D.int IntKind.i64 a
def SI(l:List Int):D:=D.sl 1 (List.length l) (fun i=>[D.int IntKind.i64 (List.getD l i (0:Int))]) Mode.any
abbrev Con:=Nat->List D->St->Option FnSpec
noncomputable def E0(con:Con)(n V:Nat)(cross:List Nat)(ord:Nat->List Nat×List Nat):Senv where
 P:=Try.prog
 tt:=ES tab
 n:=n
 dfs:=[]
 V:=V
 cross:=cross
 gh:=fun _=>[]
 gr:=[]
 unr:=fun _=>0
 cut:=fun _ _ _=>none
 ann:=fun _ _ _=>none
 ord:=ord
 con:=con
 eqs:=eqs
noncomputable def EC(con:Con)(n V:Nat)(cross:List Nat)(ord:Nat->List Nat×List Nat):Senv :=
 { E0 con n V cross ord with auto:=true,inl:=UX { E0 con 0 0 [] (fun _=>([],[])) with auto:=true } (G3 BbS) 9 }
abbrev C7:Con:=fun _ _ _=>none
theorem BA:ConOk Try.prog C7:=fun _ _ _ _ h=>nomatch h
theorem eOk{con:Con}(hc:ConOk Try.prog con){E:Senv}(h:E={ EC con E.n E.V E.cross E.ord with gh:=E.gh,gr:=E.gr,unr:=E.unr,cut:=E.cut,ann:=E.ann,cut2:=E.cut2,ann2:=E.ann2,own:=E.own,gz:=E.gz,mg:=E.mg,pvt:=E.pvt,bcut:=E.bcut,bd:=E.bd }):EnvOk E:=by
 rw[h]
 exact⟨BbZ,hc,mix,fun k ds S R h=>Rl (E:={ E0 con 0 0 [] (fun _=>([],[])) with auto:=true }) BbZ hc mix Bag Bbw 9 k ds S R h,Bbw⟩
def pC(ds:List D)(d:D)(p:Prop):FnSpec where
 β:=Unit
 α:=Unit
 args:=fun _=>ds
 st:=fun _=>⟨[],[]⟩
 pre:=fun _=>p
 post:=fun _ _=>True
 res:=fun _ _=>.ret d
 out:=fun _ _=>⟨[],[]⟩
 fit:=some ()
theorem R5(S:St):leS ⟨[],[]⟩ S:=by simp[leS,Ba,Go.Ab.nodupB,leO,leT]
theorem Ea{k : Nat}{ds : List D}{S : St}{us : List D}{d : D}{p : Prop}(h : p -> Bo ds us /\ ACalls Try.prog k us ⟨[], []⟩ (SpecR (sC us d) ())) :
  (∀x,(pC us d p).pre x->ACalls Try.prog k ((pC us d p).args x) ((pC us d p).st x) (SpecR (pC us d p) x))/\(∀x,(pC us d p).fit=some x->(pC us d p).pre x->Bo ds ((pC us d p).args x)/\leS ((pC us d p).st x) S)/\((pC us d p).all=true->∀x,(pC us d p).pre x->Bo ds ((pC us d p).args x)/\(pC us d p).st x=S) :=
 ⟨fun _ hp=>(h hp).2.mono fun _ _ ⟨_,_h1,h2,h3⟩=>⟨(),trivial,h2,h3⟩,fun _ _ hp=>⟨(h hp).1,R5 S⟩,fun e=>nomatch e⟩
theorem CV{α:Type}[Inhabited α]{l:List α}{i:Nat}(h:i<l.length):l.drop i=l.getD i default::l.drop (i+1):=by
 rw[List.drop_eq_getElem_cons h]
 simp[List.getD_eq_getElem?_getD,h]
theorem Eo{α:Type}[Inhabited α]{l:List α}{i:Nat}(h:i<l.length):l.take (i+1)=l.take i++[l.getD i default]:=by
 rw[List.take_add_one]
 simp[List.getD_eq_getElem?_getD,h]
def RT(p:Prop):Prop:=True/\∃(y:Unit),True/\p/\True/\True
def isl(l:List Int)(m:Ab.Mode):D:=.sl 1 l.length (fun i=>[.int .i64 (l.getD i 0)]) m
inductive Arr where
 |mk (kind:Int) (shape nums:List Int) (items:List Arr)
def Gg(z:Int):Prop:=-9223372036854775808<=z/\z<=9223372036854775807
mutual
def Arr.row:Arr->List D
 |.mk k s n is=>[.int .i64 k,isl s .any,isl n .any,.sl 4 (Iv is).length (fun i=>(Iv is).getD i []) .any]
def Iv:List Arr->List (List D)
 | []=>[]
 |a::r=>a.row::Iv r
end
mutual
def Arr.ok:Arr->Prop
 |.mk k s n is=>Gg k/\(∀z∈s,Gg z)/\(∀z∈n,Gg z)/\s.length<=maxLen/\n.length<=maxLen/\is.length<=maxLen/\okL is
def okL:List Arr->Prop
 | []=>True
 |a::r=>a.ok/\okL r
end
mutual
/-- Nothing in it is longer than a machine's memory. -/
def Arr.sm:Arr->Prop
 |.mk _ s n is=>s.length<=E3/\n.length<=E3/\is.length<=E3/\smL is
def smL:List Arr->Prop
 | []=>True
 |a::r=>a.sm/\smL r
end
theorem Rp:∀(l:List Arr),smL l↔∀a∈l,a.sm
 | []=>by simp[smL]
 |a::l=>by simp only[smL,List.forall_mem_cons,Rp l]
theorem T8{n:Nat}(h:n<=E3):n<=maxLen:=Nat.le_trans h (by decide)
theorem Cg:∀(l:List Arr),Iv l=l.map Arr.row
 | []=>rfl
 |a::l=>by simp only[Iv,List.map_cons,Cg l]
theorem Cf:∀(l:List Arr),okL l↔∀a∈l,a.ok
 | []=>by simp[okL]
 |a::l=>by simp only[okL,List.forall_mem_cons,Cf l]
def RInts:List D->Prop:=fun ds=>∃l:List Int,(∀z∈l,Gg z)/\l.length<=E3/\ds=[isl l .any]
def RArr:List D->Prop:=fun ds=>∃a:Arr,(a.ok/\a.sm)/\ds=a.row
theorem RG:∀x,RInt .i64 x->∃z,Gg z/\x=[.int .i64 z]:=by
 rintro x ⟨n,rfl,h1,h2⟩
 simp only[IntKind.min,IntKind.max,IntKind.signed,IntKind.bits] at h1 h2
 exact⟨n,⟨by simpa using h1,by simp at h2;omega⟩,rfl⟩
theorem O9(W:World)(n:Nat):ReadAt Try.prog W n 23 RInts:=by
 cases n with
 |zero=>exact .zero _ _
 |succ n =>
  refine (Ma (w:=1) Try.underlying23 (by kernel_rfl) (by decide) (by decide +kernel) (Us Try.underlying3 W n)).weak ?_
  rintro _ ds vs ⟨l,h1,h2,rfl⟩ h
  obtain ⟨l',q,rfl⟩:=T0 RG l h1
  refine⟨_,⟨l',q,by simpa using h2,rfl⟩,BL _ _ ?_ _ _ h⟩
  simp only[isl,Bo,Bp,Ba]
  refine⟨⟨by simp,by simp,fun i hi=>?_,by simp[BJ]⟩,trivial⟩
  have hi:i<l'.length:=by simpa using hi
  simp[List.getD_eq_getElem?_getD,hi]
theorem Uv(W:World):∀n,ReadAt Try.prog W n 26 RArr
 |0=>.zero _ _
 |n+1=>by
  have hi:ReadAt Try.prog W n 24 (RSliceA 4 RArr):=by
   cases n with
   |zero=>exact .zero _ _
   |succ m=>exact Ma (w:=4) Try.underlying24 (by kernel_rfl) (by decide) (by decide +kernel) (Uv W m)
  refine (Uk Try.underlying26 (by kernel_rfl) (Rs:=[RInt .i64,RInts,RInts,RSliceA 4 RArr]) ⟨Us (by kernel_rfl) W n,O9 W n,O9 W n,hi,trivial⟩).mono ?_
  rintro ds ⟨_,_,h1,⟨_,_,h2,⟨_,_,h3,⟨_,_,h4,h5,rfl⟩,rfl⟩,rfl⟩,rfl⟩
  obtain rfl:_=[]:=h5
  obtain ⟨k,hk,rfl⟩:=RG _ h1
  obtain ⟨s,s1,s2,rfl⟩:=h2
  obtain ⟨m,m1,m2,rfl⟩:=h3
  obtain ⟨l,l1,l2,rfl⟩:=h4
  obtain ⟨is,q,rfl⟩:=T0 (g:=Arr.row) (Q:=fun a=>a.ok/\a.sm) (fun x hx=>hx) l l1
  have l2:is.length<=E3:=by simpa using l2
  refine⟨.mk k s m is,⟨?_,?_⟩,?_⟩
  ·simp only[Arr.ok]
   exact⟨hk,s1,m1,T8 s2,T8 m2,T8 l2,(Cf _).2 fun a ha=>(q a ha).1⟩
  ·simp only[Arr.sm]
   exact⟨s2,m2,l2,(Rp _).2 fun a ha=>(q a ha).2⟩
  ·simp only[Arr.row,Cg,List.cons_append,List.nil_append]
set_option maxRecDepth 100000
def MP(P:Program)(TS:List Nat)(t:Nat):Bool :=
 match P.underlying t with
 |some (.slice e)=>TS.contains e&&decide (P.bytesOf e<=4096)
 |some (.struct fs)=>fs.toList.all fun f=>TS.contains f.type
 |some (.pointer e)=>TS.contains e
 |some (.array _ e)=>TS.contains e
 |some (.map k e)=>TS.contains e&&decide (P.bytesOf k+P.bytesOf e<=4096)
 |_=>true
theorem UN{H:Type}(d:DataW H):1<=Rows.uptoBulk d:=by
 cases d with
 |lit l=>cases l<;>simp[Rows.uptoBulk]
 |nil=>simp[Rows.uptoBulk]
 |ptr d=>simp[Rows.uptoBulk]
 |slice elems spare=>simp[Rows.uptoBulk]
 |agg parts=>simp[Rows.uptoBulk]
 |iface t d=>simp[Rows.uptoBulk]
 |map entries=>simp[Rows.uptoBulk]
 |held h=>simp[Rows.uptoBulk]
theorem MU{H:Type}:∀l:List (DataW H),l.length<=Rows.uptoBulkAll l
 | []=>by simp[Rows.uptoBulkAll]
 |x::r=>by
  have:=UN x
  have:=MU r
  simp only[Rows.uptoBulkAll,List.length_cons]
  omega
theorem Ui{H:Type}:∀l:List (Go.Lit×DataW H),l.length<=Rows.uptoBulkEntries l
 | []=>by simp[Rows.uptoBulkEntries]
 |(k,d)::r=>by
  have:=UN d
  have:=Ui r
  have h:1<=Rows.uptoBulkEntry (k,d):=by cases k<;>simp[Rows.uptoBulkEntry]
  simp only[Rows.uptoBulkEntries,List.length_cons]
  omega
theorem Uy{a b c:Nat}(h1:a<=c)(h2:b<=4096):a*b<=8192*c:=by
 calc a*b<=c*4096:=Nat.mul_le_mul h1 h2
  _<=8192*c:=by omega
mutual
theorem Bb9{P:Program}{TS:List Nat}(hT:∀t∈TS,MP P TS t=true){H:Type}:∀(d:DataW H) (t:Nat),t∈TS->∀x∈d.weights P t,x<=8192*Rows.uptoBulk d
 |.lit l,t,_,x,hx=>by
  cases l with
  |string bytes =>
   simp only[DataW.weights,List.mem_singleton] at hx
   simp only[Rows.uptoBulk]
   omega
  |_=>simp[DataW.weights] at hx
 |.nil,t,_,x,hx=>by simp[DataW.weights] at hx
 |.ptr d,t,ht,x,hx=>by
  have ho:=hT t ht
  simp only[DataW.weights] at hx
  unfold MP at ho
  split at hx
  ·rename_i e hu
   rw[hu] at ho
   have:=Bb9 hT d e (by simpa using ho) x hx
   simp only[Rows.uptoBulk]
   omega
  ·simp at hx
 |.slice elems spare,t,ht,x,hx=>by
  have ho:=hT t ht
  simp only[DataW.weights] at hx
  unfold MP at ho
  split at hx
  ·rename_i e hu
   rw[hu] at ho
   simp only[Bool.and_eq_true,decide_eq_true_eq] at ho
   have he:e∈TS:=by simpa using ho.1
   simp only[Rows.uptoBulk]
   rcases List.mem_cons.1 hx with rfl | hx
   ·exact Nat.le_trans (Uy (Nat.add_le_add (MU elems) (MU spare)) ho.2) (by omega)
   ·rcases List.mem_append.1 hx with hx | hx
    ·have:=Mp hT elems e he x hx
     omega
    ·have:=Mp hT spare e he x hx
     omega
  ·simp at hx
 |.agg parts,t,ht,x,hx=>by
  have ho:=hT t ht
  simp only[DataW.weights] at hx
  unfold MP at ho
  split at hx
  ·rename_i fs hu
   rw[hu] at ho
   have:=MG hT (fs.toList.map (·.type)) parts (fun t h=>by
    obtain ⟨f,hf,rfl⟩:=List.mem_map.1 h
    simpa using List.all_eq_true.1 ho f hf) x hx
   simp only[Rows.uptoBulk]
   omega
  ·rename_i e hu
   rw[hu] at ho
   have:=Mp hT parts e (by simpa using ho) x hx
   simp only[Rows.uptoBulk]
   omega
  ·simp at hx
 |.iface _ _,t,_,x,hx=>by simp[DataW.weights] at hx
 |.map entries,t,ht,x,hx=>by
  have ho:=hT t ht
  simp only[DataW.weights] at hx
  unfold MP at ho
  split at hx
  ·rename_i k e hu
   rw[hu] at ho
   simp only[Bool.and_eq_true,decide_eq_true_eq] at ho
   simp only[Rows.uptoBulk]
   rcases List.mem_cons.1 hx with rfl | hx
   ·exact Nat.le_trans (Uy (Ui entries) ho.2) (by omega)
   ·have:=Rt hT entries e (by simpa using ho.1) x hx
    omega
  ·simp at hx
 |.held _,t,_,x,hx=>by simp[DataW.weights] at hx
theorem Mp{P:Program}{TS:List Nat}(hT:∀t∈TS,MP P TS t=true){H:Type}:∀(l:List (DataW H)) (e:Nat),e∈TS->∀x∈DataW.weightsAll P e l,x<=8192*Rows.uptoBulkAll l
 | [],e,_,x,hx=>by simp[DataW.weightsAll] at hx
 |d::r,e,he,x,hx=>by
  simp only[DataW.weightsAll] at hx
  simp only[Rows.uptoBulkAll]
  rcases List.mem_append.1 hx with hx | hx
  ·have:=Bb9 hT d e he x hx;omega
  ·have:=Mp hT r e he x hx;omega
theorem MG{P:Program}{TS:List Nat}(hT:∀t∈TS,MP P TS t=true){H:Type}:∀(ts:List Nat) (l:List (DataW H)),(∀t∈ts,t∈TS)->∀x∈DataW.weightsEach P ts l,x<=8192*Rows.uptoBulkAll l
 | [],l,_,x,hx=>by simp[DataW.weightsEach] at hx
 |t::ts,[],_,x,hx=>by simp[DataW.weightsEach] at hx
 |t::ts,d::r,ht,x,hx=>by
  simp only[DataW.weightsEach] at hx
  simp only[Rows.uptoBulkAll]
  rcases List.mem_append.1 hx with hx | hx
  ·have:=Bb9 hT d t (ht t (by simp)) x hx;omega
  ·have:=MG hT ts r (fun u hu=>ht u (by simp[hu])) x hx;omega
theorem Rt{P:Program}{TS:List Nat}(hT:∀t∈TS,MP P TS t=true){H:Type}:∀(l:List (Go.Lit×DataW H)) (e:Nat),e∈TS->∀x∈DataW.weightsEntries P e l,x<=8192*Rows.uptoBulkEntries l
 | [],e,_,x,hx=>by simp[DataW.weightsEntries] at hx
 |(k,d)::r,e,he,x,hx=>by
  simp only[DataW.weightsEntries] at hx
  simp only[Rows.uptoBulkEntries]
  rcases List.mem_append.1 hx with hx | hx
  ·cases k with
   |string bytes =>
    simp only[DataW.weightsEntry] at hx
    simp only[Rows.uptoBulkEntry]
    rcases List.mem_cons.1 hx with rfl | hx
    ·omega
    ·have:=Bb9 hT d e he x hx;omega
   |_ =>
    simp only[DataW.weightsEntry] at hx
    simp only[Rows.uptoBulkEntry]
    have:=Bb9 hT d e he x hx;omega
  ·have:=Rt hT r e he x hx;omega
end
theorem BcU{P:Program}{TS:List Nat}(hT:∀t∈TS,MP P TS t=true){H:Type}{ts:List Nat}(hts:∀t∈ts,t∈TS){ds:List (DataW H)}(hk:Rows.uptoSmall H ds=true):(DataW.weightsEach P ts ds).all (·<=E3)=true:=by
 have hb:Rows.uptoBulkAll ds<=1048576:=of_decide_eq_true hk
 refine List.all_eq_true.2 fun x hx=>?_
 have:=MG hT ts ds hts x hx
 unfold E3
 simp only[decide_eq_true_eq]
 omega
open Go Go.Ab Go.RowKit
theorem own:ownKnob Try.prog.godebug=none:=by kernel_rfl
theorem laid:laidOutB Try.prog=true:=by kernel_rfl
def RK:List (String×DataW Unit):=[]
theorem Bc8{W:World}(_:laidMetH Try.prog RK W):G0 W:=trivial
noncomputable def IR(os:Os):World:=World.holding Try.prog os ⟨#[],#[],[]⟩
def TSl:List Nat:=[3,22,23,24,26,25]
theorem BeP:∀t∈TSl,MP Try.prog TSl t=true:=List.all_eq_true.1 (show TSl.all (MP Try.prog TSl)=true by kernel_rfl)
theorem BaG{α:Type}{o:Option α}{p:α->Bool}(h:(match o with | some x=>p x | none=>false)=true):∃x,o=some x/\p x=true:=by
 cases o with
 |none=>cases h
 |some x=>exact⟨x,rfl,h⟩
def prL:List Nat->Nat
 | []=>1
 |d::r=>d*prL r
def W2:List Nat->Nat->List Nat
 | [],_=>[]
 |d::r,m=>m / prL r % d::W2 r m
theorem Wj(m:Nat):∀s,(W2 s m).length=s.length
 | []=>rfl
 |d::r=>by rw[W2,List.length_cons,List.length_cons,Wj m r]
theorem UB:∀(s:List Nat) (m i:Nat),i<s.length->(W2 s m).getD i 0=m / prL (s.drop (i+1)) % s.getD i 0
 |d::r,m,0,_=>by simp[W2]
 |d::r,m,i+1,h=>by
  have:=UB r m i (by simpa using h)
  simpa[W2] using this
theorem UA{s:List Nat}{i:Nat}(h:i<s.length):prL (s.drop i)=s.getD i 0*prL (s.drop (i+1)):=by
 rw[List.drop_eq_getElem_cons h,prL]
 simp[List.getD_eq_getElem?_getD,h]
structure Odo (s:List Nat) (m j:Nat) (cur:List Nat):Prop where
 len:cur.length=s.length
 le:j<=s.length
 low:∀i,i<j->cur.getD i 0=m / prL (s.drop (i+1)) % s.getD i 0
 high:∀i,j<=i->i<s.length->cur.getD i 0=0
 dvd:prL (s.drop j) ∣ m+1
theorem Odo.zero(s:List Nat)(m:Nat):Odo s m s.length (W2 s m) :=
 ⟨Wj m s,Nat.le_refl _,fun i hi=>UB s m i hi,fun i h1 h2=>by omega,by rw[List.drop_length];exact Nat.one_dvd _⟩
def gsl{α:Type}[Inhabited α](w:Nat)(g:α->List D)(l:List α):D:=.sl w l.length (fun i=>g (l.getD i default)) .any
instance:Inhabited Arr:=⟨.mk 0 [] [] []⟩
def DA:Arr:=Arr.mk (0:Int) [] [] []
def GA(l:List Arr)(i:Nat):Arr:=List.getD l i (Arr.mk (0:Int) [] [] [])
def Wl:List D->Int
 | [.int _ z]=>z
 |_=>0
def BF(n:Nat)(f:Nat->List D):List Int:=(List.range n).map fun i=>Wl (f i)
theorem CA(l:List Int):BF l.length (fun i=>[D.int .i64 (l.getD i 0)])=l:=by
 apply List.ext_getElem
 ·simp[BF]
 ·intro i h1 h2
  simp[BF,Wl,List.getD_eq_getElem?_getD,h2]
def IntsP(n:Nat)(f:Nat->List D):Prop:=∀i,i<n->f i=[.int .i64 (Wl (f i))]
theorem B8{n:Nat}{f:Nat->List D}{m:Ab.Mode}(h:IntsP n f):Bo [.sl 1 n f m] [isl (BF n f) .any]:=by
 simp only[isl,Bo,Bp,Ba]
 refine⟨⟨by simp,by simp[BF],fun i hi=>?_,by simp[BJ]⟩,trivial⟩
 have e:(BF n f).getD i 0=Wl (f i):=by simp[BF,List.getD_eq_getElem?_getD,hi]
 rw[e]
 exact h i hi
def goO:List Int->Int->Option Int
 | [],p=>some p
 |d::r,p=>if d<0\/65536<d then none else if d=0 then goO r p else if 65536<p*d then none else goO r (p*d)
def Bu(s:List Int):Bool:=decide (s.length<=8)&&(goO s 1).isSome
def BW(s:List Int):Int:=if s.contains 0 then 0 else (goO s 1).getD 0
structure GoHead (l:List Int) (i:Nat) (p:Int):Prop where
 hi:i<=l.length
 h1:1<=p
 h2:p<=65536
 hg:goO (l.drop i) p=goO l 1
theorem GoHead.init(l:List Int):GoHead l 0 1:=⟨Nat.zero_le _,by omega,by omega,by simp⟩
theorem BZ{l:List Int}{i:Nat}(h:i<l.length):l.drop i=l.getD i 0::l.drop (i+1):=CV h
theorem GoHead.step{l : List Int}{i : Nat}{p : Int}(h : GoHead l i p)(hlt : i<l.length) :
  (l.getD i 0<0->goO l 1=none)/\(65536<l.getD i 0->goO l 1=none)/\(l.getD i 0=0->GoHead l (i+1) p) /\
  (¬l.getD i 0<0->¬65536<l.getD i 0->0<=p*l.getD i 0/\p*l.getD i 0<=4294967296/\(65536<p*l.getD i 0->l.getD i 0≠0->goO l 1=none)/\(¬65536<p*l.getD i 0->l.getD i 0≠0->GoHead l (i+1) (p*l.getD i 0))):=by
 have hg:=h.hg
 rw[BZ hlt,goO] at hg
 generalize l.getD i 0=d at *
 refine⟨fun h0=>?_,fun h0=>?_,fun h0=>?_,fun h0 h3=>?_⟩
 ·rw[if_pos (.inl h0)] at hg;exact hg.symm
 ·rw[if_pos (.inr h0)] at hg;exact hg.symm
 ·subst h0
  simp at hg
  exact⟨by omega,h.h1,h.h2,hg⟩
 ·have b1:0<=p*d:=Int.mul_nonneg (by have:=h.h1;omega) (by omega)
  have b2:p*d<=65536*65536:=Int.mul_le_mul h.h2 (by omega) (by omega) (by omega)
  refine⟨b1,by omega,fun h4 h5=>?_,fun h4 h5=>?_⟩
  ·rw[if_neg (by omega),if_neg h5,if_pos h4] at hg;exact hg.symm
  ·rw[if_neg (by omega),if_neg h5,if_neg h4] at hg
   refine⟨by omega,?_,by omega,hg⟩
   have:0<p*d:=Int.mul_pos (by have:=h.h1;omega) (by omega)
   omega
theorem GoHead.done{l:List Int}{i:Nat}{p:Int}(h:GoHead l i p)(hge:¬(i:Int)<l.length):goO l 1=some p:=by
 have hg:=h.hg
 have:i=l.length:=by have:=h.hi;omega
 rw[this,List.drop_length,goO] at hg
 exact hg.symm
noncomputable def Eright(l:List Int):Senv:={ EC C7 31 1 [2,3,5,8,9,10,11,12,15,22,29] (fun _=>([],[])) with
 ann:=fun b _ _=>match b with
  |0=>some { slots:=[11,3],keep:=[9,10],α:=Nat×Int,st:=fun y=>([.int .i64 y.1,.int .i64 y.2],⟨[],[]⟩),inv:=fun y=>GoHead l y.1 y.2,mu:=fun y=>l.length-y.1 }
  |_=>none }
def Xj(a:List Int):Prop:=True/\∃(_y:Unit),True/\false=Bu a/\True/\True
def Q3(a:List Int)(b:Nat):Int:=GI a (Int.toNat (↑b:Int))
def Xk(a:List Int)(b:Nat):Bool:=bif decide (Q3 a b<Z0) then true else decide ((65536:Int)<Q3 a b)
def QfH(a:List Int):D:=SI a
def ZA(a:List Int):Prop:=SM (QfH a)/\SM (ZI (LI a))/\True
theorem Oy(l:List Int):ACalls Try.prog 30 [isl l .any] ⟨[],[]⟩ (SpecR (sC [isl l .any] (.bool (Bu l))) ()):=by
 refine Bh (A:=sC _ _) (x:=()) (E:=Eright l) (eOk BA rfl) Try.func30 rfl (by kernel_rfl) rfl (by simp[sC,Eright,EC,E0]) ?_
 refine Bl (T :=
  ifB (decide ((8:Int)<(LI l))) (Xj l) ((∃(x:Nat×Int),GoHead l x.1 x.2/\(Z0=(NI x.1)/\Z1=x.2/\True)/\True/\True)/\∀(x:Nat×Int),GoHead l x.1 x.2->ifB (decide ((NI x.1)<(LI l))) (Bd (Z0<=(NI x.1)/\(NI x.1)<(LI l)) (ifB (decide (Q3 l x.1<Z0)) (true=Xk l x.1/\True) (decide ((65536:Int)<Q3 l x.1)=Xk l x.1/\True)/\ifB (Xk l x.1) (Xj l) (ifB (Q3 l x.1==Z0) (ZA l/\∃(y:Nat×Int),GoHead l y.1 y.2/\LN l-y.1<LN l-x.1/\(IntKind.wrap IntKind.i64 ((NI x.1)+Z1)=(NI y.1)/\x.2=y.2/\True)/\True/\True) (ifB (decide ((65536:Int)<IntKind.wrap IntKind.i64 (x.2*Q3 l x.1))) (Xj l) (ZA l/\∃(y:Nat×Int),GoHead l y.1 y.2/\LN l-y.1<LN l-x.1/\(IntKind.wrap IntKind.i64 ((NI x.1)+Z1)=(NI y.1)/\IntKind.wrap IntKind.i64 (x.2*Q3 l x.1)=y.2/\True)/\True/\True))))) (RT (true=Bu l)))) (by kernel_rfl) ?_
 delta GI LI LN N1 NI SI SM Z0 Z1 ZI Xj Q3 Xk QfH ZA RT
 simp only[Int.toNat_natCast,Bj,Bc,decide_eq_true_eq,decide_eq_false_iff_not,true_and,and_true,beq_iff_eq,Bool.cond_true_left,beq_eq_false_iff_ne,ne_eq,exists_const]
 have no:goO l 1=none->false=Bu l:=fun h=>by simp[Bu,h]
 refine⟨fun h=>?_,fun h8=>⟨⟨(0,1),GoHead.init l,rfl,rfl⟩,?_⟩⟩
 ·have:¬l.length<=8:=by omega
  simp[Bu,this]
 rintro ⟨i,p⟩ hh
 simp only at hh ⊢
 refine⟨fun hlt=>?_,fun hge=>?_⟩
 rotate_left
 ·have:l.length<=8:=by omega
  simp[Bu,hh.done hge,this]
 have hlt':i<l.length:=by omega
 obtain ⟨s1,s2,s3,s4⟩:=hh.step hlt'
 refine⟨by omega,⟨fun h=>by rw[decide_eq_true h];rfl,fun h=>by rw[decide_eq_false h];rfl⟩,fun h=>no ?_,fun h=>?_⟩
 ·rw[Bool.or_eq_true,decide_eq_true_eq,decide_eq_true_eq] at h
  exact h.elim s1 s2
 ·rw[Bool.or_eq_false_iff,decide_eq_false_iff_not,decide_eq_false_iff_not] at h
  obtain ⟨b1,b2,s5,s6⟩:=s4 h.1 h.2
  have hw:IntKind.i64.wrap (p*l.getD i 0)=p*l.getD i 0:=Bb (by omega) (by omega)
  rw[hw]
  exact⟨fun hd=>⟨(i+1,p),s3 hd,by simp only;omega,Bb (by omega) (by omega),rfl⟩,fun hd=>⟨fun h4=>no (s5 h4 hd),fun h4=>⟨(i+1,p*l.getD i 0),s6 h4 hd,by simp only;omega,Bb (by omega) (by omega),rfl⟩⟩⟩
noncomputable def Erprod(l:List Int):Senv:={ EC C7 30 1 [2,3,4,8,15,20,28] (fun _=>([],[])) with
 ann:=fun b _ _=>match b with
  |0=>some { slots:=[4,3],keep:=[0],α:=Nat×Int,st:=fun y=>([.int .i64 y.1,.int .i64 y.2],⟨[],[]⟩),inv:=fun y=>GoHead l y.1 y.2,mu:=fun y=>l.length-y.1 }
  |_=>none }
def Xl(a:List Int):Prop:=True/\∃(_y:Unit),True/\(65537:Int)=Option.getD (goO a Z1) (65537:Int)/\True/\True
def QfI(a:List Int):D:=SI a
def ZB(a:List Int):Prop:=SM (QfI a)/\True
theorem Bcm(l:List Int)(h0:∀z∈l,0<=z)(hl:l.length<=maxLen):ACalls Try.prog 82 [isl l .any] ⟨[],[]⟩ (SpecR (sC [isl l .any] (.int .i64 ((goO l 1).getD 65537))) ()):=by
 refine Bh (A:=sC _ _) (x:=()) (E:=Erprod l) (eOk BA rfl) Try.func82 rfl (by kernel_rfl) rfl (by simp[sC,Erprod,EC,E0]) ?_
 refine Bl (T :=
  (∃(x:Nat×Int),GoHead l x.1 x.2/\(Z0=(NI x.1)/\Z1=x.2/\True)/\True/\True)/\∀(x:Nat×Int),GoHead l x.1 x.2->ifB (decide ((NI x.1)<(LI l))) (Bd (Z0<=(NI x.1)/\(NI x.1)<(LI l)) (ifB (decide ((65536:Int)<GI l (TN x.1))) (Xl l) (Bd (Z0<=(NI x.1)/\(NI x.1)<(LI l)) (ifB (decide (Z0<GI l (TN x.1))) (Bd (Z0<=(NI x.1)/\(NI x.1)<(LI l)) (ifB (decide ((65536:Int)<IntKind.wrap IntKind.i64 (x.2*GI l (TN x.1)))) (Xl l) (ZB l/\∃(y:Nat×Int),GoHead l y.1 y.2/\LN l-y.1<LN l-x.1/\(IntKind.wrap IntKind.i64 ((NI x.1)+Z1)=(NI y.1)/\IntKind.wrap IntKind.i64 (x.2*GI l (TN x.1))=y.2/\True)/\True/\True))) (ifB (decide ((65536:Int)<x.2)) (Xl l) (ZB l/\∃(y:Nat×Int),GoHead l y.1 y.2/\LN l-y.1<LN l-x.1/\(IntKind.wrap IntKind.i64 ((NI x.1)+Z1)=(NI y.1)/\x.2=y.2/\True)/\True/\True)))))) (RT (x.2=Option.getD (goO l Z1) (65537:Int)))) (by kernel_rfl) ?_
 delta GI LI LN N1 NI SI SM TN Z0 Z1 ZI Xl QfI ZB RT
 simp only[Int.toNat_natCast,Bj,Bc,decide_eq_true_eq,decide_eq_false_iff_not,true_and,and_true,exists_const]
 have no:goO l 1=none->(65537:Int)=(goO l 1).getD 65537:=fun h=>by simp[h]
 refine⟨⟨(0,1),GoHead.init l,rfl,rfl⟩,?_⟩
 rintro ⟨i,p⟩ hh
 simp only at hh ⊢
 refine⟨fun hlt=>?_,fun hge=>by simp[hh.done hge]⟩
 have hlt':i<l.length:=by omega
 obtain ⟨s1,s2,s3,s4⟩:=hh.step hlt'
 have hd0:0<=l.getD i 0:=h0 _ (by rw[List.getD_eq_getElem?_getD,List.getElem?_eq_getElem hlt'];exact List.getElem_mem hlt')
 simp only[maxLen] at hl
 refine⟨by omega,fun h=>no (s2 h),fun h=>⟨by omega,?_⟩⟩
 obtain ⟨b1,b2,s5,s6⟩:=s4 (by omega) h
 have hw:IntKind.i64.wrap (p*l.getD i 0)=p*l.getD i 0:=Bb (by omega) (by omega)
 rw[hw]
 refine⟨fun hd=>⟨by omega,fun h4=>no (s5 h4 (by omega)),fun h4=>⟨(i+1,p*l.getD i 0),s6 h4 (by omega),by simp only;omega,Bb (by omega) (by omega),rfl⟩⟩,fun hd=>⟨fun h4=>absurd h4 (by have:=hh.h2;omega),fun _=>⟨(i+1,p),s3 (by omega),by simp only;omega,Bb (by omega) (by omega),rfl⟩⟩⟩
def conR:Con:=C7
theorem Bdh:ConOk Try.prog conR:=BA
def Gi(p:Int->Bool):List Int->Nat->Int
 | [],_=>-1
 |d::r,i=>if p d then (i:Int) else Gi p r (i+1)
theorem MM(p:Int->Bool):∀(l:List Int) (i:Nat),decide (0<=Gi p l i)=l.any p
 | [],i=>rfl
 |d::r,i=>by
  rw[Gi,List.any_cons]
  split
  ·rename_i h;rw[h];simp
  ·rename_i h
   rw[MM p r (i+1)]
   simp[h]
structure IdxHead (p:Int->Bool) (l:List Int) (i:Nat):Prop where
 hi:i<=l.length
 hg:Gi p (l.drop i) i=Gi p l 0
theorem IdxHead.step{p:Int->Bool}{l:List Int}{i:Nat}(h:IdxHead p l i)(hlt:i<l.length):(p (l.getD i 0)=true->Gi p l 0=i)/\(p (l.getD i 0)=false->IdxHead p l (i+1)):=by
 have hg:=h.hg
 rw[BZ hlt,Gi] at hg
 refine⟨fun e=>?_,fun e=>?_⟩
 ·rw[if_pos e] at hg;exact hg.symm
 ·rw[if_neg (by rw[e];exact Bool.false_ne_true)] at hg;exact⟨by omega,hg⟩
theorem IdxHead.done{p:Int->Bool}{l:List Int}{i:Nat}(h:IdxHead p l i)(hge:¬(i:Int)<l.length):Gi p l 0 = -1:=by
 have hg:=h.hg
 have:i=l.length:=by have:=h.hi;omega
 rw[this,List.drop_length,Gi] at hg
 exact hg.symm
def annI(p:Int->Bool)(l:List Int)(keep:List Nat):LoopAnn:={ slots:=[8],keep:=keep,α:=Nat,st:=fun i=>([.int .i64 i],⟨[],[]⟩),inv:=fun i=>IdxHead p l i,mu:=fun i=>l.length-i }
noncomputable def Eidx(l:List Int)(v:Int):Senv:={ EC C7 19 2 [4,5,7,8,9,16] (fun _=>([],[])) with
 ann:=fun b _ _=>match b with
  |0=>some (annI (fun d=>v==d) l [0,1,6,7])
  |_=>none }
def Xm(a:Int)(b:List Int)(c:Nat):Prop:=IdxHead (fun (d:Int)=>a==d) b c
def QfJ(a:List Int):D:=SI a
theorem BdO(l:List Int)(v:Int)(hl:l.length<=maxLen):ACalls Try.prog 87 [isl l .any,.int .i64 v] ⟨[],[]⟩ (SpecR (sC [isl l .any,.int .i64 v] (.int .i64 (Gi (fun d=>v==d) l 0))) ()):=by
 refine Bh (A:=sC _ _) (x:=()) (E:=Eidx l v) (eOk BA rfl) Try.func87 rfl (by kernel_rfl) rfl (by simp[sC,Eidx,EC,E0]) ?_
 refine Bl (T :=
  (∃(x:Nat),Xm v l x/\(Z0=(↑x:Int)/\True)/\True/\True)/\∀(x:Nat),Xm v l x->ifB (decide ((↑x:Int)<(LI l))) (Bd (Z0<=(↑x:Int)/\(↑x:Int)<(LI l)) (ifB (v==GI l (Int.toNat (↑x:Int))) (RT ((↑x:Int)=Gi (fun (d:Int)=>v==d) l N0)) ((SM (QfJ l)/\SM (ZI v)/\SM D.unk/\SM (ZI (LI l))/\True)/\∃(y:Nat),Xm v l y/\LN l-y<LN l-x/\(IntKind.wrap IntKind.i64 ((↑x:Int)+Z1)=(↑y:Int)/\True)/\True/\True))) (RT ((-1:Int)=Gi (fun (d:Int)=>v==d) l N0))) (by kernel_rfl) ?_
 delta GI LI LN N0 N1 SI SM Z0 Z1 ZI Xm QfJ RT
 simp only[Int.toNat_natCast,Bj,Bc,decide_eq_true_eq,decide_eq_false_iff_not,true_and,and_true,exists_const]
 simp only[maxLen] at hl
 refine⟨⟨0,⟨Nat.zero_le _,by simp⟩,rfl⟩,fun i hh=>⟨fun hlt=>?_,fun hge=>(hh.done hge).symm⟩⟩
 have hlt':i<l.length:=by omega
 obtain ⟨s1,s2⟩:=hh.step hlt'
 exact⟨by omega,fun h=>(s1 h).symm,fun h=>⟨i+1,s2 h,by omega,Bb (by omega) (by omega)⟩⟩
noncomputable def Eneg(l:List Int):Senv:={ EC C7 19 2 [4,5,7,8,9,16] (fun _=>([],[])) with
 ann:=fun b _ _=>match b with
  |0=>some (annI (fun d=>decide (d<0)) l [0,1,6,7])
  |_=>none }
def Xn(a:List Int)(b:Nat):Prop:=IdxHead (fun (d:Int)=>decide (d<Z0)) a b
def ZC(a:List Int):Int:=Gi (fun (d:Int)=>decide (d<Z0)) a N0
def QfK(a:List Int):D:=SI a
theorem BdT(l:List Int)(hl:l.length<=maxLen):ACalls Try.prog 55 [isl l .any,.fn (.func 83) [] []] ⟨[],[]⟩ (SpecR (sC [isl l .any,.fn (.func 83) [] []] (.int .i64 (Gi (fun d=>decide (d<0)) l 0))) ()):=by
 refine Bh (A:=sC _ _) (x:=()) (E:=Eneg l) (eOk BA rfl) Try.func55 rfl (by kernel_rfl) rfl (by simp[sC,Eneg,EC,E0]) ?_
 refine Bl (T :=
  (∃(x:Nat),Xn l x/\(Z0=(↑x:Int)/\True)/\True/\True)/\∀(x:Nat),Xn l x->ifB (decide ((↑x:Int)<(LI l))) (Bd (Z0<=(↑x:Int)/\(↑x:Int)<(LI l)) (True/\ifB (decide (GI l (Int.toNat (↑x:Int))<Z0)) (RT ((↑x:Int)=ZC l)) ((SM (QfK l)/\SM (D.fn (Fn.func (83:Nat)) [] [])/\SM D.unk/\SM (ZI (LI l))/\True)/\∃(y:Nat),Xn l y/\LN l-y<LN l-x/\(IntKind.wrap IntKind.i64 ((↑x:Int)+Z1)=(↑y:Int)/\True)/\True/\True))) (RT ((-1:Int)=ZC l))) (by kernel_rfl) ?_
 delta GI LI LN N0 N1 SI SM Z0 Z1 ZI Xn ZC QfK RT
 simp only[Int.toNat_natCast,Bj,Bc,decide_eq_true_eq,decide_eq_false_iff_not,true_and,and_true,exists_const]
 simp only[maxLen] at hl
 refine⟨⟨0,⟨Nat.zero_le _,by simp⟩,rfl⟩,fun i hh=>⟨fun hlt=>?_,fun hge=>(hh.done hge).symm⟩⟩
 have hlt':i<l.length:=by omega
 obtain ⟨s1,s2⟩:=hh.step hlt'
 exact⟨by omega,fun h=>(s1 (decide_eq_true h)).symm,fun h=>⟨i+1,s2 (decide_eq_false h),by omega,Bb (by omega) (by omega)⟩⟩
theorem BK(l:List Int):IntsP l.length (fun i=>[D.int .i64 (l.getD i 0)]):=fun _ _=>rfl
def Tk:Con:=fun k ds S=>match k with
 |87=>match ds with
  | [.sl 1 n f _,.int .i64 v]=>some (pC ds (.int .i64 (Gi (fun d=>v==d) (BF n f) 0)) (IntsP n f/\n<=maxLen))
  |_=>none
 |55=>match ds with
  | [.sl 1 n f _,.fn (.func 83) [] []]=>some (pC ds (.int .i64 (Gi (fun d=>decide (d<0)) (BF n f) 0)) (IntsP n f/\n<=maxLen))
  |_=>none
 |30=>match ds with
  | [.sl 1 n f _]=>some (pC ds (.bool (Bu (BF n f))) (IntsP n f))
  |_=>none
 |82=>match ds with
  | [.sl 1 n f _]=>some (pC ds (.int .i64 ((goO (BF n f) 1).getD 65537)) (IntsP n f/\(∀z∈BF n f,0<=z)/\n<=maxLen))
  |_=>none
 |k=>conR k ds S
theorem CU(n:Nat)(f:Nat->List D):(BF n f).length=n:=by simp[BF]
theorem Cp{k:Nat}{ds us:List D}{d:D}(hw:Bo ds us)(h:ACalls Try.prog k us ⟨[],[]⟩ (SpecR (sC us d) ())):ACalls Try.prog k ds ⟨[],[]⟩ (SpecR (sC ds d) ()) :=
 (ACalls.weakArgs h hw).mono fun _ _ ⟨_,_h1,h2,h3⟩=>⟨(),trivial,h2,h3⟩
theorem Ix:ConOk Try.prog Tk:=by
 intro k ds S A h
 unfold Tk at h
 split at h
 ·split at h
  ·injection h with h;subst h
   exact Ea fun ⟨h1,h2⟩=>⟨Bq _,Cp (us:=[isl (BF _ _) .any,_]) ⟨(B8 h1).1,Ez _,trivial⟩ (BdO _ _ (by rw[CU];exact h2))⟩
  ·cases h
 ·split at h
  ·injection h with h;subst h
   exact Ea fun ⟨h1,h2⟩=>⟨Bq _,Cp (us:=[isl (BF _ _) .any,_]) ⟨(B8 h1).1,Ez _,trivial⟩ (BdT _ (by rw[CU];exact h2))⟩
  ·cases h
 ·split at h
  ·injection h with h;subst h
   exact Ea fun h1=>⟨Bq _,Cp (B8 h1) (Oy _)⟩
  ·cases h
 ·split at h
  ·injection h with h;subst h
   exact Ea fun ⟨h1,h2,h3⟩=>⟨Bq _,Cp (B8 h1) (Bcm _ h2 (by rw[CU];exact h3))⟩
  ·cases h
 ·exact Bdh _ _ _ _ h
noncomputable def Eprod(l:List Int):Senv:={ EC Tk 19 1 [2,3,5,7,8,9,10,11] (fun _=>([],[])) with
 ann:=fun b _ _=>match b with
  |0=>some { slots:=[10,3],keep:=[8,9],α:=Nat×Int,st:=fun y=>([.int .i64 y.1,.int .i64 y.2],⟨[],[]⟩),inv:=fun y=>GoHead l y.1 y.2,mu:=fun y=>l.length-y.1 }
  |_=>none }
def QfL(a:List Int):D:=SI a
theorem Bdb(l:List Int)(h:Bu l=true):ACalls Try.prog 52 [isl l .any] ⟨[],[]⟩ (SpecR (sC [isl l .any] (.int .i64 (BW l))) ()):=by
 refine Bh (A:=sC _ _) (x:=()) (E:=Eprod l) (eOk Ix rfl) Try.func52 rfl (by kernel_rfl) rfl (by simp[sC,Eprod,EC,E0]) ?_
 refine Bl (T :=
  ((IntsP (LN l) fun i=>[ZI (GI l i)])/\LN l<=9223372036854775807)/\∀(y:Unit),True->True/\ifB (decide (Z0<=Gi (fun (d:Int)=>Z0==d) (BF (LN l) fun i=>[ZI (GI l i)]) N0)) (RT (Z0=BW l)) ((∃(x:Nat×Int),GoHead l x.1 x.2/\(Z0=(NI x.1)/\Z1=x.2/\True)/\True/\True)/\∀(x:Nat×Int),GoHead l x.1 x.2->ifB (decide ((NI x.1)<(LI l))) (Bd (Z0<=(NI x.1)/\(NI x.1)<(LI l)) ((SM (QfL l)/\SM (ZI (LI l))/\True)/\∃(y:Nat×Int),GoHead l y.1 y.2/\LN l-y.1<LN l-x.1/\(IntKind.wrap IntKind.i64 ((NI x.1)+Z1)=(NI y.1)/\IntKind.wrap IntKind.i64 (x.2*GI l (TN x.1))=y.2/\True)/\True/\True)) (RT (x.2=BW l)))) (by kernel_rfl) ?_
 delta GI LI LN N0 N1 NI SI SM TN Z0 Z1 ZI QfL RT
 simp only[CA,MM,Int.toNat_natCast,Bj,Bc,decide_eq_true_eq,decide_eq_false_iff_not,true_and,and_true,exists_const]
 simp only[Bu,Bool.and_eq_true,decide_eq_true_eq] at h
 have hcon:(l.any fun d=>0==d)=l.contains 0:=by
  rw[Bool.eq_iff_iff,List.contains_iff_mem,List.any_eq_true]
  constructor
  ·rintro ⟨z,hz,e⟩
   have e:0=z:=by simpa using e
   rw[e];exact hz
  ·exact fun hm=>⟨0,hm,rfl⟩
 rw[hcon]
 refine⟨⟨BK l,by omega⟩,fun _ _=>⟨fun hz=>by rw[BW,if_pos hz],fun hz=>⟨⟨(0,1),GoHead.init l,rfl,rfl⟩,?_⟩⟩⟩
 rintro ⟨i,p⟩ hh
 simp only at hh ⊢
 refine⟨fun hlt=>?_,fun hge=>by rw[BW,if_neg (by rw[hz];exact Bool.false_ne_true),hh.done hge];rfl⟩
 have hlt':i<l.length:=by omega
 obtain ⟨s1,s2,s3,s4⟩:=hh.step hlt'
 have hne:l.getD i 0≠0:=by
  intro e
  have:l.contains 0=true:=by
   rw[List.contains_iff_mem,<- e,List.getD_eq_getElem?_getD,List.getElem?_eq_getElem hlt'];exact List.getElem_mem hlt'
  rw[this] at hz;cases hz
 have n1:¬l.getD i 0<0:=fun e=>by rw[s1 e] at h;exact absurd h.2 (by simp)
 have n2:¬65536<l.getD i 0:=fun e=>by rw[s2 e] at h;exact absurd h.2 (by simp)
 obtain ⟨b1,b2,s5,s6⟩:=s4 n1 n2
 have n3:¬65536<p*l.getD i 0:=fun e=>by rw[s5 e hne] at h;exact absurd h.2 (by simp)
 exact⟨by omega,(i+1,p*l.getD i 0),s6 n3 hne,by simp only;omega,Bb (by omega) (by omega),Bb (by omega) (by omega)⟩
noncomputable def Edims(l:List Int):Senv:={ EC Tk 21 1 [2,3,6,10,17,20] (fun _=>([],[])) with
 ann:=fun b _ _=>match b with
  |0=>some { slots:=[3],keep:=[0],α:=Nat,st:=fun i=>([.int .i64 i],⟨[],[]⟩),inv:=fun i=>i<=l.length/\∀z∈l.take i,0<=z,mu:=fun i=>l.length-i }
  |_=>none }
theorem TJ:∀(l:List Int) (p:Int),p<=65536->∀q,goO l p=some q->q<=65536
 | [],p,hp,q,h=>by rw[goO] at h;injection h with h;omega
 |d::r,p,hp,q,h=>by
  rw[goO] at h
  split at h
  ·cases h
  ·split at h
   ·exact TJ r p hp q h
   ·split at h
    ·cases h
    ·exact TJ r _ (by omega) q h
def B0(s:List Int):Int:=if 8<s.length then 15 else if s.any (fun d=>decide (d<0)) then 16 else if (goO s 1).isSome then 0 else 21
def Jn(a:List Int):Int:=B0 a
def Xo(a:Nat)(b:List Int):Prop:=a<=LN b/\∀(z:Int),z∈List.take a b->Z0<=z
def QfM(a:List Int):D:=SI a
def ZD(a:List Int):List Int:=BF (LN a) fun i=>[ZI (GI a i)]
theorem Bdc(l:List Int):ACalls Try.prog 60 [isl l .any] ⟨[],[]⟩ (SpecR (sC [isl l .any] (.int .i64 (B0 l))) ()):=by
 refine Bh (A:=sC _ _) (x:=()) (E:=Edims l) (eOk Ix rfl) Try.func60 rfl (by kernel_rfl) rfl (by simp[sC,Edims,EC,E0]) ?_
 refine Bl (T :=
  ifB (decide ((8:Int)<(LI l))) (RT ((15:Int)=Jn l)) ((∃(x:Nat),Xo x l/\(Z0=(↑x:Int)/\True)/\True/\True)/\∀(x:Nat),Xo x l->ifB (decide ((↑x:Int)<(LI l))) (Bd (Z0<=(↑x:Int)/\(↑x:Int)<(LI l)) (ifB (decide (GI l (Int.toNat (↑x:Int))<Z0)) (RT ((16:Int)=Jn l)) ((SM (QfM l)/\True)/\∃(y:Nat),Xo y l/\LN l-y<LN l-x/\(IntKind.wrap IntKind.i64 ((↑x:Int)+Z1)=(↑y:Int)/\True)/\True/\True))) (((IntsP (LN l) fun i=>[ZI (GI l i)])/\(∀(z:Int),z∈ZD l->Z0<=z)/\LN l<=9223372036854775807)/\∀(y:Unit),True->ifB (decide ((65536:Int)<Option.getD (goO (ZD l) Z1) (65537:Int))) (RT ((21:Int)=Jn l)) (RT (Z0=Jn l))))) (by kernel_rfl) ?_
 delta GI LI LN N1 SI SM Z0 Z1 ZI Jn Xo QfM ZD RT
 simp only[CA,Int.toNat_natCast,Bj,Bc,decide_eq_true_eq,decide_eq_false_iff_not,true_and,and_true,exists_const]
 have tk:∀i,i<l.length->∀P:Int->Prop,(∀z∈l.take i,P z)->P (l.getD i 0)->∀z∈l.take (i+1),P z:=fun i hi P h1 h2 z hz=>by
  rw[List.take_add_one,List.mem_append] at hz
  rcases hz with hz | hz
  ·exact h1 z hz
  ·rw[List.getElem?_eq_getElem hi] at hz
   simp at hz
   rw[hz]
   simpa[List.getD_eq_getElem?_getD,hi] using h2
 refine⟨fun h=>?_,fun h8=>⟨⟨0,⟨Nat.zero_le _,by simp⟩,rfl⟩,fun i hh=>⟨fun hlt=>?_,fun hge=>?_⟩⟩⟩
 ·have:8<l.length:=by omega
  simp[B0,this]
 ·have hlt':i<l.length:=by omega
  have h8':¬8<l.length:=by omega
  refine⟨by omega,fun h=>?_,fun h=>⟨i+1,⟨by omega,tk i hlt' _ hh.2 (by omega)⟩,by omega,Bb (by omega) (by omega)⟩⟩
  have:l.any (fun d=>decide (d<0))=true:=by
   rw[List.any_eq_true]
   refine⟨l.getD i 0,?_,decide_eq_true h⟩
   rw[List.getD_eq_getElem?_getD,List.getElem?_eq_getElem hlt'];exact List.getElem_mem hlt'
  rw[B0,if_neg h8',if_pos this]
 ·have hi:i=l.length:=by omega
  rw[hi,List.take_length] at hh
  have h8':¬8<l.length:=by omega
  have hnn:¬l.any (fun d=>decide (d<0))=true:=by
   rw[List.any_eq_true]
   rintro ⟨z,hz,h⟩
   have:=hh.2 z hz
   simp at h
   omega
  refine⟨⟨BK l,hh.2,by omega⟩,fun _ _=>?_⟩
  rw[B0,if_neg h8',if_neg hnn]
  have hb:=TJ l 1 (by omega)
  cases hg:goO l 1 with
  |none=>simp
  |some p=>have:=hb p hg;simp;omega
noncomputable def Ecount(l:List Int):Senv:={ EC Tk 17 1 [2,3,7,14] (fun _=>([],[])) with
 ann:=fun b _ _=>match b with
  |0=>some { slots:=[3],keep:=[0],α:=Nat,st:=fun i=>([.int .i64 i],⟨[],[]⟩),inv:=fun i=>i<=l.length/\∀z∈l.take i,z≠0,mu:=fun i=>l.length-i }
  |_=>none }
def Xp(a:Nat)(b:List Int):Prop:=a<=LN b/\∀(z:Int),z∈List.take a b->z≠Z0
def QfN(a:List Int):D:=SI a
def ZE(a:List Int):List Int:=BF (LN a) fun i=>[ZI (GI a i)]
theorem BaR(l:List Int)(h:B0 l=0):ACalls Try.prog 61 [isl l .any] ⟨[],[]⟩ (SpecR (sC [isl l .any] (.int .i64 (BW l))) ()):=by
 refine Bh (A:=sC _ _) (x:=()) (E:=Ecount l) (eOk Ix rfl) Try.func61 rfl (by kernel_rfl) rfl (by simp[sC,Ecount,EC,E0]) ?_
 refine Bl (T :=
  (∃(x:Nat),Xp x l/\(Z0=(↑x:Int)/\True)/\True/\True)/\∀(x:Nat),Xp x l->ifB (decide ((↑x:Int)<(LI l))) (Bd (Z0<=(↑x:Int)/\(↑x:Int)<(LI l)) (ifB (GI l (Int.toNat (↑x:Int))==Z0) (RT (Z0=BW l)) ((SM (QfN l)/\True)/\∃(y:Nat),Xp y l/\LN l-y<LN l-x/\(IntKind.wrap IntKind.i64 ((↑x:Int)+Z1)=(↑y:Int)/\True)/\True/\True))) (((IntsP (LN l) fun i=>[ZI (GI l i)])/\(∀(z:Int),z∈ZE l->Z0<=z)/\LN l<=9223372036854775807)/\∀(y:Unit),True->RT (Option.getD (goO (ZE l) Z1) (65537:Int)=BW l))) (by kernel_rfl) ?_
 delta GI LI LN N1 SI SM Z0 Z1 ZI Xp QfN ZE RT
 simp only[CA,Int.toNat_natCast,Bj,Bc,decide_eq_true_eq,decide_eq_false_iff_not,true_and,and_true,exists_const]
 have tk:∀i,i<l.length->∀P:Int->Prop,(∀z∈l.take i,P z)->P (l.getD i 0)->∀z∈l.take (i+1),P z:=fun i hi P h1 h2 z hz=>by
  rw[List.take_add_one,List.mem_append] at hz
  rcases hz with hz | hz
  ·exact h1 z hz
  ·rw[List.getElem?_eq_getElem hi] at hz
   simp at hz
   rw[hz]
   simpa[List.getD_eq_getElem?_getD,hi] using h2
 have hl8:l.length<=8:=by
  unfold B0 at h
  split at h
  ·cases h
  ·omega
 have hnn:∀z∈l,0<=z:=by
  intro z hz
  unfold B0 at h
  split at h
  ·cases h
  ·split at h
   ·cases h
   ·rename_i hn
    rw[List.any_eq_true] at hn
    by_cases h0:z<0
    ·exact (hn ⟨z,hz,decide_eq_true h0⟩).elim
    ·omega
 have hg:(goO l 1).isSome=true:=by
  unfold B0 at h
  (repeat' split at h)<;>first | assumption | (cases h;done)
 refine⟨⟨0,⟨Nat.zero_le _,by simp⟩,rfl⟩,fun i hh=>⟨fun hlt=>?_,fun hge=>?_⟩⟩
 ·have hlt':i<l.length:=by omega
  refine⟨by omega,fun h=>?_,fun h=>⟨i+1,⟨by omega,tk i hlt' _ hh.2 (by simpa using h)⟩,by omega,Bb (by omega) (by omega)⟩⟩
  have h0:l.getD i 0=0:=by simpa using h
  have:l.contains 0=true:=by
   rw[List.contains_iff_mem,<- h0,List.getD_eq_getElem?_getD,List.getElem?_eq_getElem hlt'];exact List.getElem_mem hlt'
  rw[BW,if_pos this]
 ·have hi:i=l.length:=by omega
  rw[hi,List.take_length] at hh
  refine⟨⟨BK l,hnn,by omega⟩,fun _ _=>?_⟩
  have:¬l.contains 0=true:=by
   rw[List.contains_iff_mem]
   exact fun hm=>hh.2 0 hm rfl
  rw[BW,if_neg this]
  cases hgo:goO l 1 with
  |none=>rw[hgo] at hg;cases hg
  |some p=>rfl
def By(k:Int)(s:List Int)(nn ni:Nat):Int :=
 if k=1\/k=2\/k=3 then
  if B0 s≠0 then B0 s
  else if ((if k=3 then (ni:Int) else nn)≠BW s)\/((if k=3 then (nn:Int) else ni)≠0) then 16 else 0
 else 14
def Te:Con:=fun k ds S=>match k with
 |52=>match ds with
  | [.sl 1 n f _]=>some (pC ds (.int .i64 (BW (BF n f))) (IntsP n f/\Bu (BF n f)=true))
  |_=>none
 |60=>match ds with
  | [.sl 1 n f _]=>some (pC ds (.int .i64 (B0 (BF n f))) (IntsP n f))
  |_=>none
 |61=>match ds with
  | [.sl 1 n f _]=>some (pC ds (.int .i64 (BW (BF n f))) (IntsP n f/\B0 (BF n f)=0))
  |_=>none
 |k=>Tk k ds S
theorem In:ConOk Try.prog Te:=by
 intro k ds S A h
 unfold Te at h
 split at h
 ·split at h
  ·injection h with h;subst h
   exact Ea fun ⟨h1,h2⟩=>⟨Bq _,Cp (B8 h1) (Bdb _ h2)⟩
  ·cases h
 ·split at h
  ·injection h with h;subst h
   exact Ea fun h1=>⟨Bq _,Cp (B8 h1) (Bdc _)⟩
  ·cases h
 ·split at h
  ·injection h with h;subst h
   exact Ea fun ⟨h1,h2⟩=>⟨Bq _,Cp (B8 h1) (BaR _ h2)⟩
  ·cases h
 ·exact Ix _ _ _ _ h
noncomputable def Eform:Senv:=EC Te 44 5 [12,13,16,20,25,29,34] (fun id=>match id with | 1=>([0,1,2,3,4,5,6,7],[]) | _=>([],[]))
def Kr(a:List Int):Prop:=IntsP (LN a) fun i=>[ZI (GI a i)]
def ZF(a:List Int):Prop:=Kr a/\LN a<=9223372036854775807
def Xq(a:List Int):List Int:=BF (LN a) fun i=>[ZI (GI a i)]
def ZG(a:List Int):Bool:=decide (Z0<=Gi (fun (d:Int)=>decide (d<Z0)) (Xq a) N0)
def Q4(a:Int)(b:List Int)(c d:Nat):Prop:=True/\∃(_y:Unit),True/\(16:Int)=By a b c d/\True/\True
def ZH(a:List Int):Bool:=Bu (Xq a)
def Jo(a:List Int):Bool:=!ZH a
def ZJ(a:Int)(b:List Int)(c d:Nat):Prop:=True/\Q4 a b c d
def ZK(a:List Int):Prop:=Kr a/\ZH a=true
def ZL(a:Nat)(b:List Int):Bool:=(↑a:Int) != BW (Xq b)
def ZM(a:Nat)(b:List Int)(c:Int)(d e:Nat):Prop:=SM a/\ifB (decide ((8:Int)<(LI b))) (True/\∃(_y:Unit),True/\(15:Int)=By c b d e/\True/\True) (SM a/\ZF b/\∀(_y:Unit),True->True/\ifB (ZG b) (Q4 c b d e) (SM a/\Kr b/\∀(_y:Unit),True->ifB (Jo b) (True/\∃(_y:Unit),True/\(21:Int)=By c b d e/\True/\True) (SM a/\Kr b/\∀(_y:Unit),True->ifB (Jo b) (ZJ c b d e) (ZK b/\∀(_y:Unit),True->True/\ifB (ZL d b) (Q4 c b d e) (ifB ((↑e:Int) != Z0) (Q4 c b d e) (True/\∃(_y:Unit),True/\Z0=By c b d e/\True/\True))))))
def ZN(a:Int)(b:Nat)(c:List Int)(d e:Nat):Prop:=ifB (a==3) (SM b/\ifB (decide ((8:Int)<(LI c))) (True/\∃(_y:Unit),True/\(15:Int)=By a c d e/\True/\True) (SM b/\ZF c/\∀(_y:Unit),True->True/\ifB (ZG c) (Q4 a c d e) (SM b/\Kr c/\∀(_y:Unit),True->ifB (Jo c) (True/\∃(_y:Unit),True/\(21:Int)=By a c d e/\True/\True) (SM b/\Kr c/\∀(_y:Unit),True->ifB (Jo c) (ZJ a c d e) (ZK c/\∀(_y:Unit),True->True/\ifB (ZL e c) (Q4 a c d e) (ifB ((↑d:Int) != Z0) (Q4 a c d e) (True/\∃(_y:Unit),True/\Z0=By a c d e/\True/\True))))))) (True/\∃(_y:Unit),True/\(14:Int)=By a c d e/\True/\True)
theorem Bdf(k : Int)(s : List Int)(nn ni : Nat)(g h : Nat -> List D)(hs : s.length<=maxLen)(hn : nn<=maxLen)(hi : ni<=maxLen) :
  ACalls Try.prog 65 [.agg [.int .i64 k,isl s .any,.sl 1 nn g .any,.sl 4 ni h .any]] ⟨[],[]⟩ (SpecR (sC [.agg [.int .i64 k,isl s .any,.sl 1 nn g .any,.sl 4 ni h .any]] (.int .i64 (By k s nn ni))) ()):=by
 refine Bh (A:=sC _ _) (x:=()) (E:=Eform) (eOk In rfl) Try.func65 rfl (by kernel_rfl) rfl (by simp[sC,Eform,EC,E0]) ?_
 refine Bl (T :=
  ∀(x:Nat),True->SM x/\SM x/\SM x/\ifB (k==Z1) (ifB (k==Z1) (ZM x s k nn ni) (ZN k x s nn ni)) (ifB (k==2) (ZM x s k nn ni) (ZN k x s nn ni))) (by kernel_rfl) ?_
 delta GI LI LN N0 SM Z0 Z1 ZI Kr ZF ZM ZN Xq ZG Q4 ZH Jo ZJ ZK ZL
 simp only[CA,MM,Bj,decide_eq_true_eq,decide_eq_false_iff_not,true_and,and_true,beq_iff_eq,bne_iff_ne,beq_eq_false_iff_ne,ne_eq,exists_const,forall_const]
 simp only[maxLen] at hs hn hi
 have n8:(8<(s.length:Int))↔8<s.length:=by omega
 simp only[n8]
 repeat' (first
  |exact BK s
  |refine And.intro ?_ ?_
  |intro _)
 all_goals first
  |omega
  |(simp_all[By,B0,Bu];done)
  |grind [By,B0,Bu]
  |skip
 all_goals trace_state
def Arr.k:Arr->Int | .mk k _ _ _=>k
def Arr.sh:Arr->List Int | .mk _ s _ _=>s
def Arr.nu:Arr->List Int | .mk _ _ n _=>n
def Arr.it:Arr->List Arr | .mk _ _ _ i=>i
def Arr.row1(a:Arr):List D:=[.int .i64 a.k,isl a.sh .any,isl a.nu .any,gsl 4 Arr.row a.it]
def Arr.row2(a:Arr):List D:=[.int .i64 a.k,isl a.sh .any,isl a.nu .any,gsl 4 Arr.row1 a.it]
theorem Ri(l:List Arr):(Iv l).length=l.length:=by rw[Cg];simp
theorem Bd2(a:Arr):wkL a.row a.row1:=by
 cases a with
 |mk k s n is =>
  simp only[Arr.row,Arr.row1,Arr.k,Arr.sh,Arr.nu,Arr.it,gsl,isl,wkL,wkD,Bp,Ba]
  refine⟨⟨by simp[kEq],trivial⟩,⟨by simp,trivial,fun i _=>by simp[kEq],by simp[BJ]⟩,⟨by simp,trivial,fun i _=>by simp[kEq],by simp[BJ]⟩,⟨by simp,Ri is,fun i hi=>?_,by simp[BJ]⟩,trivial⟩
  rw[Ri] at hi
  have:(Iv is).getD i []=(is.getD i default).row:=by
   rw[Cg];simp[List.getD_eq_getElem?_getD,hi]
  rw[this]
  exact Be _
theorem CE(a:Arr):wkL a.row1 a.row2:=by
 simp only[Arr.row1,Arr.row2,gsl,isl,wkL,wkD,Bp,Ba]
 exact⟨⟨by simp[kEq],trivial⟩,⟨by simp,trivial,fun i _=>by simp[kEq],by simp[BJ]⟩,⟨by simp,trivial,fun i _=>by simp[kEq],by simp[BJ]⟩,⟨by simp,trivial,fun i _=>Bd2 _,by simp[BJ]⟩,trivial⟩
def MW(z:Int):Bool:=decide (-4611686018427387903<=z)&&decide (z<=4611686018427387903)
def Ub(z:Int):Bool:=decide (0<=z)&&decide (z<=1114111)&&(decide (z<55296)||decide (57343<z))
def CM(k z:Int):Bool:=(k==1&&!MW z)||(k==2&&!Ub z)
mutual
def Bi:Arr->Int×Int×Int
 |.mk k s n is =>
  if By k s n.length is.length≠0 then (By k s n.length is.length,0,0)
  else if n.any (CM k) then (17,0,0)
  else match BT is 0 ((n.length:Int)+is.length) with
   |none=>(17,0,0)
   |some r=>if 16<r.1\/262144<r.2 then (21,0,0) else (0,r.1,r.2)
def BT:List Arr->Int->Int->Option (Int×Int)
 | [],d,w=>some (d,w)
 |x::r,d,w=>if (Bi x).1≠0 then none else BT r (if d<(Bi x).2.1+1 then (Bi x).2.1+1 else d) (if 262145<w+(Bi x).2.2 then 262145 else w+(Bi x).2.2)
end
theorem Uh:∀(l:List Arr) (d w d' w':Int),BT l d w=some (d',w')->0<=d->0<=w->(∀x∈l,(Bi x).1=0->0<=(Bi x).2.1/\0<=(Bi x).2.2)->0<=d'/\0<=w'
 | [],d,w,d',w',h,h1,h2,_=>by
  rw[BT] at h;injection h with h;injection h with e1 e2;omega
 |x::r,d,w,d',w',h,h1,h2,h3=>by
  rw[BT] at h
  split at h
  ·cases h
  ·rename_i hx
   have hx:(Bi x).1=0:=by simpa using hx
   have:=h3 x (by simp) hx
   refine Uh r _ _ d' w' h ?_ ?_ fun y hy=>h3 y (by simp[hy])
   ·split<;>omega
   ·split<;>omega
theorem Cb:∀(a:Arr),(0<=(Bi a).2.1/\(Bi a).2.1<=16)/\0<=(Bi a).2.2/\(Bi a).2.2<=262144
 |.mk k s n is=>by
  rw[Bi]
  split
  ·simp
  ·split
   ·simp
   ·split
    ·simp
    ·rename_i r hr
     split
     ·simp
     ·rename_i hb
      have:=Uh is 0 _ r.1 r.2 hr (by omega) (by omega) fun x hx _=>by
       have:=Cb x
       omega
      simp only
      omega
termination_by a=>SizeOf.sizeOf a
decreasing_by
 have:=List.sizeOf_lt_of_mem hx
 simp;omega
noncomputable def Enum:Senv:=EC C7 9 1 [2] (fun _=>([],[]))
def Xr(a:Int):Bool:=bif decide ((-4611686018427387903:Int)<=a) then decide (a<=4611686018427387903) else false
theorem Bem(z:Int):ACalls Try.prog 66 [.int .i64 z] ⟨[],[]⟩ (SpecR (sC [.int .i64 z] (.bool (MW z))) ()):=by
 refine Bh (A:=sC _ _) (x:=()) (E:=Enum) (eOk BA rfl) Try.func66 rfl (by kernel_rfl) rfl (by simp[sC,Enum,EC,E0]) ?_
 refine Bl (T :=
  ifB (decide ((-4611686018427387903:Int)<=z)) (decide (z<=4611686018427387903)=Xr z/\True) (false=Xr z/\True)/\RT (Xr z=MW z)) (by kernel_rfl) ?_
 delta Xr RT
 simp only[Bj,decide_eq_true_eq,decide_eq_false_iff_not,true_and,and_true,Bool.cond_false_right,exists_const]
 refine⟨⟨fun h=>by rw[decide_eq_true h];rfl,fun h=>by rw[decide_eq_false h];rfl⟩,rfl⟩
noncomputable def Echr:Senv:=EC C7 17 1 [2] (fun _=>([],[]))
def Jp(a:Int):Bool:=bif bif decide (Z0<=a) then decide (a<=1114111) else false then bif decide (a<55296) then true else decide ((57343:Int)<a) else false
def ZO(a:Int):Prop:=false=Jp a/\True
theorem Bd4(z:Int):ACalls Try.prog 67 [.int .i64 z] ⟨[],[]⟩ (SpecR (sC [.int .i64 z] (.bool (Ub z))) ()):=by
 refine Bh (A:=sC _ _) (x:=()) (E:=Echr) (eOk BA rfl) Try.func67 rfl (by kernel_rfl) rfl (by simp[sC,Echr,EC,E0]) ?_
 refine Bl (T :=
  ifB (decide (Z0<=z)) (ifB (decide (z<=1114111)) (ifB (decide (z<55296)) (true=Jp z/\True) (decide ((57343:Int)<z)=Jp z/\True)) (ZO z)) (ZO z)/\RT (Jp z=Ub z)) (by kernel_rfl) ?_
 delta Z0 Jp ZO RT
 simp only[Bj,decide_eq_true_eq,decide_eq_false_iff_not,true_and,and_true,Bool.cond_false_right,Bool.cond_true_left,exists_const]
 refine⟨⟨fun h1=>⟨fun h2=>⟨fun h3=>by simp[h1,h2,h3],fun h3=>by simp[h1,h2,h3]⟩,fun h2=>by simp[h1,h2]⟩,fun h1=>by simp[h1]⟩,rfl⟩
def ER(row:Arr->List D)(xb:Nat)(q:Arr->Prop):FnSpec where
 β:=Arr
 α:=Unit
 args:=fun a=>[.agg (row a),.ref 1 xb 0]
 st:=fun _=>⟨[(1,xb,.cells [.fn (.func 64) [] [.ref 1 xb 0]])],[]⟩
 pre:=q
 post:=fun _ _=>True
 res:=fun a _=>.ret (.tup [.int .i64 (Bi a).1,.int .i64 (Bi a).2.1,.int .i64 (Bi a).2.2])
 out:=fun _ _=>⟨[(1,xb,.cells [.fn (.func 64) [] [.ref 1 xb 0]])],[]⟩
def WQ(xb:Nat)(its:List Arr):Con:=fun k ds S=>match k with
 |64=>some (ER Arr.row1 xb (fun b=>b∈its))
 |65=>match ds with
  | [.agg [.int .i64 k,.sl 1 n f _,.sl 1 nn _g _,.sl 4 ni _h _]]=>some (pC ds (.int .i64 (By k (BF n f) nn ni)) (IntsP n f/\n<=maxLen/\nn<=maxLen/\ni<=maxLen))
  |_=>none
 |66=>match ds with
  | [.int .i64 z]=>some (pC [.int .i64 z] (.bool (MW z)) True)
  |_=>none
 |67=>match ds with
  | [.int .i64 z]=>some (pC [.int .i64 z] (.bool (Ub z)) True)
  |_=>none
 |k=>Te k ds S
theorem Bae{xb:Nat}{its:List Arr}(ih:∀b∈its,ACalls Try.prog 64 ((ER Arr.row2 xb (fun _=>True)).args b) ((ER Arr.row2 xb (fun _=>True)).st b) (SpecR (ER Arr.row2 xb (fun _=>True)) b)):ConOk Try.prog (WQ xb its):=by
 intro k ds S A h
 unfold WQ at h
 split at h
 ·injection h with h;subst h
  refine ConOk.plain (fun b hb=>?_) rfl rfl
  refine ((ih b hb).wkArgs ?_).mono fun _ _ ⟨y,h1,h2,h3⟩=>⟨y,h1,h2,h3⟩
  simp only[ER,wkL,wkD]
  exact⟨CE b,by simp[Bp,Ba]⟩
 ·split at h
  ·rename_i k n f _ nn g _ ni g' _
   injection h with h;subst h
   refine Ea fun ⟨h1,h2,h3,h4⟩=>⟨Bq _,Cp (us:=[.agg [.int .i64 k,isl (BF n f) .any,.sl 1 nn g .any,.sl 4 ni g' .any]]) ?_ (Bdf _ _ _ _ _ _ (by rw[CU];exact h2) h3 h4)⟩
   refine⟨?_,trivial⟩
   simp only[Bp,Bo]
   refine⟨by simp[Ba,kEq],(B8 h1).1,?_,?_,trivial⟩
   ·simp[Ba,BJ]
   ·simp[Ba,BJ]
  ·cases h
 ·split at h
  ·injection h with h;subst h
   exact Ea fun _=>⟨Bq _,Bem _⟩
  ·cases h
 ·split at h
  ·injection h with h;subst h
   exact Ea fun _=>⟨Bq _,Bd4 _⟩
  ·cases h
 ·exact In _ _ _ _ h
theorem TK(a : Arr) : Bi a=if By a.k a.sh a.nu.length a.it.length≠0 then (By a.k a.sh a.nu.length a.it.length, 0, 0)
  else if a.nu.any (CM a.k) then (17,0,0)
  else match BT a.it 0 ((a.nu.length:Int)+a.it.length) with
   |none=>(17,0,0)
   |some r=>if 16<r.1\/262144<r.2 then (21,0,0) else (0,r.1,r.2):=by
 cases a with
 |mk k s n is=>rw[Bi];rfl
theorem BbN{s:List Int}:BW s<=65536:=by
 unfold BW
 split
 ·omega
 ·cases hg:goO s 1 with
  |none=>simp
  |some p=>have:=TJ s 1 (by omega) p hg;simpa using this
theorem Et{k:Int}{s:List Int}{nn ni:Nat}(h:By k s nn ni=0):nn<=65536/\ni<=65536:=by
 have hs:=BbN (s:=s)
 unfold By at h
 by_cases hk:k=1\/k=2\/k=3
 ·rw[if_pos hk] at h
  by_cases hd:B0 s≠0
  ·rw[if_pos hd] at h;exact (hd h).elim
  ·rw[if_neg hd] at h
   by_cases hc:((if k=3 then (ni:Int) else nn)≠BW s)\/((if k=3 then (nn:Int) else ni)≠0)
   ·rw[if_pos hc] at h;omega
   ·simp only[not_or,ne_eq,Decidable.not_not] at hc
    obtain ⟨c1,c2⟩:=hc
    by_cases k3:k=3<;>simp only[k3,if_true,if_false] at c1 c2<;>omega
 ·rw[if_neg hk] at h;omega
theorem CI{α:Type}[Inhabited α]{l:List α}{i:Nat}(h:i<l.length):l.getD i default∈l:=by
 rw[List.getD_eq_getElem?_getD,List.getElem?_eq_getElem h];exact List.getElem_mem h
def cutV(k:Int)(d8:D)(S:St):Option LoopAnn :=
 match d8 with
 |.int _ z=>some { slots:=[45],keep:=[],α:=Unit,st:=fun _=>([.bool (CM k z)],S),inv:=fun _=>True,mu:=fun _=>0 }
 |_=>none
noncomputable def Evis(xb:Nat)(a:Arr):Senv:={ EC (WQ xb a.it) 87 7 [8,9,10,12,13,14,15,19,22,23,24,25,45,55,56,57,58,69,84] (fun id=>match id with | 10=>([0,1,2,3,4,5,6,7,8],[]) | _=>([],[])) with
 cut:=fun id env S=>match id with
  |7=>cutV a.k (Ab.look env 8) S
  |_=>none
 ann:=fun b _ S=>match b with
  |0=>some { slots:=[24],keep:=[0,1,2,22,23],α:=Nat,st:=fun i=>([.int .i64 i],S),inv:=fun i=>i<=a.nu.length/\∀z∈a.nu.take i,CM a.k z=false,mu:=fun i=>a.nu.length-i }
  |2=>some { slots:=[57,9,10],keep:=[0,1,2,55,56],α:=Nat×Int×Int,st:=fun y=>([.int .i64 y.1,.int .i64 y.2.1,.int .i64 y.2.2],S),inv:=fun y=>y.1<=a.it.length/\0<=y.2.1/\y.2.1<=17/\0<=y.2.2/\y.2.2<=262145/\BT (a.it.drop y.1) y.2.1 y.2.2=BT a.it 0 ((a.nu.length:Int)+a.it.length),mu:=fun y=>a.it.length-y.1 }
  |_=>none }
def Q5(a:Arr):Nat:=LN (Arr.sh a)
def KK(a:Arr)(b:Nat):List D:=[ZI (GI (Arr.sh a) b)]
def Jq(a:Arr):List Int:=Arr.nu a
def QC(a:Arr):Nat:=LN (Jq a)
def Ks(a:Arr):List Arr:=Arr.it a
def QE(a:Arr):Nat:=LN (Ks a)
def QP(a:Arr):Int:=Arr.k a
def ZP(a:Arr):Int:=By (QP a) (BF (Q5 a) fun i=>KK a i) (QC a) (QE a)
def KL(a:Arr):Int:=Prod.fst (Bi a)
def Xs(a:Arr):Prop:=Z0=Prod.fst (Prod.snd (Bi a))/\Z0=Prod.snd (Prod.snd (Bi a))/\True
def ZQ(a:Nat):Prop:=SM a/\(SM (D.fn (Fn.func (64:Nat)) [] [D.ref N1 a N0])/\True)/\True
def KM(a:Nat):Prop:=ZQ a/\True
def Xt(a:Nat)(b:Arr):Prop:=a<=QC b/\∀(z:Int),z∈List.take a (Jq b)->CM (QP b) z=false
def Xu(a:Arr)(b:Nat):List D:=[ZI (GI (Jq a) b)]
def Jr:Arr:=DA
def KN(a:Arr)(b:Nat):Arr:=List.getD (Ks a) b Jr
def QfO(a:Arr)(b:Nat):List Int:=Arr.sh (KN a b)
def QfP(a:Arr)(b:Nat):List Int:=Arr.nu (KN a b)
def ZR(a:Arr)(b:Nat):List Arr:=Arr.it (KN a b)
def ZS(a:Arr)(b:Nat):List D:=[ZI (Arr.k (KN a b)),SI (QfO a b),SI (QfP a b),D.sl N4 (LN (ZR a b)) (fun i=>Arr.row (List.getD (ZR a b) i Jr)) Mode.any]
def Q6(a:Nat)(b:Arr)(c:Nat):Prop:=(SM a/\(SM (QP b)/\(SM (Q5 b)/\(∀(i:Nat),i<Q5 b->SM (KK b i))/\True)/\(SM (QC b)/\(∀(i:Nat),i<QC b->SM (Xu b i))/\True)/\(SM (QE b)/\(∀(i:Nat),i<QE b->SM (ZS b i))/\True)/\True)/\ZQ c)/\True
def Js(a:Arr):Int:=(NI (QC a))
def Xv(a:Arr)(b:Nat):Int:=GI (Jq a) (Int.toNat (↑b:Int))
def Jt(a:Arr)(b:Nat):Bool:=CM (QP a) (Xv a b)
def ZT(a:Nat)(b:Arr)(c d:Nat):Prop:=SM a/\ifB (QP b==2) (True/\∀(_y:Unit),True->∃(_x:Unit),True/\((!Ub (Xv b c))=Jt b c/\True)/\Q6 a b d) (∃(_x:Unit),True/\(false=Jt b c/\True)/\Q6 a b d)
def ZU(a:Arr)(b:Nat):Prop:=True/\∃(_y:Unit),True/\((17:Int)=KL a/\Xs a)/\KM b
def ZV(a:Arr):D:=D.sl N1 (QC a) (fun i=>Xu a i) Mode.any
def ZW(a:Arr):D:=D.sl N4 (QE a) (fun i=>ZS a i) Mode.any
def QfQ(a:Arr):D:=D.agg [ZI (QP a),D.sl N1 (Q5 a) (fun i=>KK a i) Mode.any,ZV a,ZW a]
def ZX(a:Arr):Prop:=SM (QfQ a)
def Ju(a:Arr):Int:=(NI (QE a))
def ZY(a:Arr):Int:=Js a+Ju a
def Xw(a:Nat)(b:Arr)(c d:Int):Prop:=a<=QE b/\Z0<=c/\c<=17/\Z0<=d/\d<=262145/\BT (List.drop a (Ks b)) c d=BT (Ks b) Z0 (ZY b)
def Jv(a:Arr)(b:Nat):Arr:=List.getD (Ks a) (Int.toNat (↑b:Int)) Jr
def ZZ(a:Arr)(b:Nat):List Int:=Arr.sh (Jv a b)
def Z2(a:Arr)(b:Nat):Nat:=LN (ZZ a b)
def Z3(a:Arr)(b:Nat):List Int:=Arr.nu (Jv a b)
def Z4(a:Arr)(b:Nat):Nat:=LN (Z3 a b)
def Z5(a:Arr)(b:Nat):List Arr:=Arr.it (Jv a b)
def Z6(a:Arr)(b:Nat):Nat:=LN (Z5 a b)
def Xx(a b:Int):Bool:=bif decide ((16:Int)<a) then true else decide ((262144:Int)<b)
theorem BcK(xb : Nat)(a : Arr)(ha : a.nu.length<=maxLen /\ a.it.length<=maxLen /\ a.sh.length<=maxLen)(ih : ∀b∈a.it, ACalls Try.prog 64 ((ER Arr.row2 xb (fun _=>True)).args b) ((ER Arr.row2 xb (fun _=>True)).st b) (SpecR (ER Arr.row2 xb (fun _=>True)) b)) :
  ACalls Try.prog 64 ((ER Arr.row2 xb (fun _=>True)).args a) ((ER Arr.row2 xb (fun _=>True)).st a) (SpecR (ER Arr.row2 xb (fun _=>True)) a):=by
 refine Bh (A:=ER Arr.row2 xb (fun _=>True)) (x:=a) (E:=Evis xb a) (eOk (Bae ih) rfl) Try.func64 rfl (by kernel_rfl) rfl (by simp[ER,Evis,EC,E0]) ?_
 refine Bl (T :=
  ∀(x:Nat),xb≠x/\True->SM x/\((IntsP (Q5 a) fun i=>KK a i)/\Q5 a<=9223372036854775807/\QC a<=9223372036854775807/\QE a<=9223372036854775807)/\∀(y:Unit),True->ifB (ZP a != Z0) (True/\∃(y:Unit),True/\(ZP a=KL a/\Xs a)/\KM xb) (SM x/\(∃(x_1:Nat),Xt x_1 a/\(Z0=(↑x_1:Int)/\True)/\Q6 x a xb)/\∀(x_1:Nat),Xt x_1 a->ifB (decide ((↑x_1:Int)<Js a)) (Bd (Z0<=(↑x_1:Int)/\(↑x_1:Int)<Js a) ((SM x/\ifB (QP a==Z1) (True/\∀(y:Unit),True->ifB (!MW (Xv a x_1)) (∃(x_2:Unit),True/\(true=Jt a x_1/\True)/\Q6 x a xb) (ZT x a x_1 xb)) (ZT x a x_1 xb))/\∀(x_2:Unit),True->ifB (Jt a x_1) (ZU a xb) ((ZX a/\SM (D.ref N1 xb N0)/\SM (D.ref N2 x N0)/\SM (ZV a)/\SM (ZI (Js a))/\True)/\∃(y:Nat),Xt y a/\QC a-y<QC a-x_1/\(IntKind.wrap IntKind.i64 ((↑x_1:Int)+Z1)=(↑y:Int)/\True)/\Q6 x a xb))) (SM x/\SM x/\SM x/\(∃(x_2:Nat×Int×Int),Xw x_2.1 a x_2.2.1 x_2.2.2/\(Z0=(NI x_2.1)/\Z0=x_2.2.1/\IntKind.wrap IntKind.i64 (ZY a)=x_2.2.2/\True)/\Q6 x a xb)/\∀(x_2:Nat×Int×Int),Xw x_2.1 a x_2.2.1 x_2.2.2->ifB (decide ((NI x_2.1)<Ju a)) (Bd (Z0<=(NI x_2.1)/\(NI x_2.1)<Ju a) (∀(x_3:Nat),x≠x_3/\xb≠x_3/\True->SM x_3/\SM xb/\SM x_3/\∃(x_4:Arr),((Arr.k (Jv a x_2.1)=QP x_4/\(Z2 a x_2.1=Q5 x_4/\(∀(i:Nat),i<Z2 a x_2.1->[ZI (GI (ZZ a x_2.1) i)]=KK x_4 i)/\True)/\(Z4 a x_2.1=QC x_4/\(∀(i:Nat),i<Z4 a x_2.1->[ZI (GI (Z3 a x_2.1) i)]=Xu x_4 i)/\True)/\(Z6 a x_2.1=QE x_4/\(∀(i:Nat),i<Z6 a x_2.1->Arr.row (List.getD (Z5 a x_2.1) i Jr)=Arr.row (KN x_4 i))/\True)/\True)/\SM xb/\True)/\KM xb/\x_4∈Ks a/\∀(y:Unit),True->ifB (KL x_4 != Z0) (ZU a xb) ((ZX a/\SM (D.ref N1 xb N0)/\SM (D.ref N2 x N0)/\SM (ZW a)/\SM (ZI (Ju a))/\True)/\∃(y:Nat×Int×Int),Xw y.1 a y.2.1 y.2.2/\QE a-y.1<QE a-x_2.1/\(IntKind.wrap IntKind.i64 ((NI x_2.1)+Z1)=(NI y.1)/\(if x_2.2.1<IntKind.wrap IntKind.i64 (Prod.fst (Prod.snd (Bi x_4))+Z1) then IntKind.wrap IntKind.i64 (Prod.fst (Prod.snd (Bi x_4))+Z1) else x_2.2.1)=y.2.1/\(if (262145:Int)<IntKind.wrap IntKind.i64 (x_2.2.2+Prod.snd (Prod.snd (Bi x_4))) then (262145:Int) else IntKind.wrap IntKind.i64 (x_2.2.2+Prod.snd (Prod.snd (Bi x_4))))=y.2.2/\True)/\Q6 x a xb))) (ifB (decide ((16:Int)<x_2.2.1)) (true=Xx x_2.2.1 x_2.2.2/\True) (decide ((262144:Int)<x_2.2.2)=Xx x_2.2.1 x_2.2.2/\True)/\ifB (Xx x_2.2.1 x_2.2.2) (True/\∃(y:Unit),True/\((21:Int)=KL a/\Xs a)/\KM xb) (True/\∃(y:Unit),True/\(Z0=KL a/\x_2.2.1=Prod.fst (Prod.snd (Bi a))/\x_2.2.2=Prod.snd (Prod.snd (Bi a))/\True)/\KM xb))))) (by kernel_rfl) ?_
 delta DA GI LN N0 N1 N2 N4 NI SI SM Z0 Z1 ZI ZP KL Xs ZQ KM Xt Xu Jr KN QfO QfP ZR ZS Q6 Js Xv Jt ZT ZU ZV Q5 ZW QfQ ZX Ju ZY Xw Jv ZZ Z2 Z3 KK Z4 Z5 Z6 Xx Jq QC Ks QE QP
 have da:(default:Arr)=Arr.mk 0 [] [] []:=rfl
 simp only[<- da,CA,Int.toNat_natCast,Bj,Bc,decide_eq_true_eq,decide_eq_false_iff_not,true_and,and_true,beq_iff_eq,bne_iff_ne,Bool.cond_true_left,beq_eq_false_iff_ne,ne_eq,exists_const,forall_const]
 intro x _
 have hA:=TK a
 obtain ⟨l1,l2,l3⟩:=ha
 have tt:(∀i:Nat,i<a.sh.length->True)/\(∀i:Nat,i<a.nu.length->True)/\∀i:Nat,i<a.it.length->True:=⟨fun _ _=>trivial,fun _ _=>trivial,fun _ _=>trivial⟩
 refine⟨⟨BK _,l3,l1,l2⟩,fun h=>?_,fun h=>⟨⟨0,⟨Nat.zero_le _,by simp⟩,rfl,tt⟩,fun i hi=>⟨fun hlt=>?_,fun hge=>?_⟩⟩⟩
 ·rw[hA,if_pos h];exact⟨rfl,rfl,rfl⟩
 ·have h0:By a.k a.sh a.nu.length a.it.length=0:=by simpa using h
  have hsm:=Et h0
  have hlt':i<a.nu.length:=by omega
  have hmem:a.nu.getD i 0∈a.nu:=by rw[List.getD_eq_getElem?_getD,List.getElem?_eq_getElem hlt'];exact List.getElem_mem hlt'
  have htk:a.nu.take (i+1)=a.nu.take i++[a.nu.getD i 0]:=by
   rw[List.take_add_one];simp[List.getD_eq_getElem?_getD,hlt']
  generalize a.nu.getD i 0=z at *
  refine⟨by omega,?_,fun hb=>?_,fun hb=>⟨i+1,⟨by omega,fun y hy=>?_⟩,by omega,Bb (by omega) (by omega),tt⟩⟩
  ·refine⟨fun k1=>⟨fun hn=>⟨by simp at hn;simp[CM,k1,hn],tt⟩,fun hn=>⟨fun k2=>by omega,fun k2=>⟨by simp at hn;simp[CM,k1,hn],tt⟩⟩⟩,fun k1=>⟨fun k2=>⟨by simp[CM,k2],tt⟩,fun k2=>⟨by simp[CM,k1,k2],tt⟩⟩⟩
  ·have:a.nu.any (CM a.k)=true:=List.any_eq_true.2 ⟨z,hmem,hb⟩
   rw[hA,if_neg (by simp[h0]),if_pos this]
   exact⟨rfl,rfl,rfl⟩
  ·rw[htk,List.mem_append] at hy
   rcases hy with hy | hy
   ·exact hi.2 y hy
   ·simp at hy;rw[hy];exact hb
 ·have h0:By a.k a.sh a.nu.length a.it.length=0:=by simpa using h
  have hsm:=Et h0
  have hii:i=a.nu.length:=by omega
  rw[hii,List.take_length] at hi
  have hany:¬a.nu.any (CM a.k)=true:=by
   rw[List.any_eq_true]
   rintro ⟨z,hz,hb⟩
   rw[hi.2 z hz] at hb
   cases hb
  rw[if_neg (by simp[h0]),if_neg hany] at hA
  refine⟨⟨(0,0,(a.nu.length:Int)+a.it.length),⟨Nat.zero_le _,Int.le_refl _,by simp,by simp only;omega,by simp only;omega,by simp⟩,⟨rfl,rfl,Bb (by omega) (by omega)⟩,tt⟩,?_⟩
  rintro ⟨j,d,w⟩ ⟨b1,b2,b3,b4,b5,hch⟩
  simp only at b1 b2 b3 b4 b5 hch ⊢
  refine⟨fun hlt=>⟨by omega,fun x3 _=>?_⟩,fun hge=>?_⟩
  ·have hlt':j<a.it.length:=by omega
   have hbd:=Cb (a.it.getD j default)
   rw[CV hlt',BT] at hch
   refine⟨a.it.getD j default,⟨rfl,⟨rfl,fun _ _=>rfl⟩,⟨rfl,fun _ _=>rfl⟩,rfl,fun _ _=>rfl⟩,CI hlt',fun herr=>?_,fun hok=>?_⟩
   ·rw[if_pos herr] at hch
    rw[<- hch] at hA
    rw[hA]
    exact⟨rfl,rfl,rfl⟩
   ·have hok:(Bi (a.it.getD j default)).1=0:=by simpa using hok
    rw[if_neg (fun hne=>hne hok)] at hch
    have w1:IntKind.i64.wrap ((Bi (a.it.getD j default)).2.1+1)=(Bi (a.it.getD j default)).2.1+1:=Bb (by omega) (by omega)
    have w2:IntKind.i64.wrap (w+(Bi (a.it.getD j default)).2.2)=w+(Bi (a.it.getD j default)).2.2:=Bb (by omega) (by omega)
    rw[w1,w2]
    refine⟨(j+1,(if d<(Bi (a.it.getD j default)).2.1+1 then (Bi (a.it.getD j default)).2.1+1 else d),(if 262145<w+(Bi (a.it.getD j default)).2.2 then 262145 else w+(Bi (a.it.getD j default)).2.2)),⟨by simp only;omega,?_,?_,?_,?_,hch⟩,by simp only;omega,⟨Bb (by omega) (by omega),rfl,rfl⟩,tt⟩
    ·simp only;split<;>omega
    ·simp only;split<;>omega
    ·simp only;split<;>omega
    ·simp only;split<;>omega
  ·have hj:j=a.it.length:=by omega
   rw[hj,List.drop_length,BT] at hch
   rw[<- hch] at hA
   simp only at hA
   refine⟨⟨fun h1=>by rw[decide_eq_true h1];rfl,fun h1=>by rw[decide_eq_false h1];rfl⟩,fun hc=>?_,fun hc=>?_⟩
   ·rw[Bool.or_eq_true,decide_eq_true_eq,decide_eq_true_eq] at hc
    rw[if_pos hc] at hA
    rw[hA];exact⟨rfl,rfl,rfl⟩
   ·rw[Bool.or_eq_false_iff,decide_eq_false_iff_not,decide_eq_false_iff_not] at hc
    rw[if_neg (by omega)] at hA
    rw[hA];exact⟨rfl,rfl,rfl⟩
theorem RO:∀(a:Arr),a.ok->∀xb,ACalls Try.prog 64 ((ER Arr.row2 xb (fun _=>True)).args a) ((ER Arr.row2 xb (fun _=>True)).st a) (SpecR (ER Arr.row2 xb (fun _=>True)) a)
 |.mk k s n is,h,xb=>by
  have h':=h
  simp only[Arr.ok] at h'
  obtain ⟨_,_,_,h1,h2,h3,h4⟩:=h'
  refine BcK xb (.mk k s n is) ⟨h2,h3,h1⟩ fun b hb=>?_
  have hb':b∈is:=hb
  exact RO b ((Cf _).1 h4 b hb') xb
termination_by a=>SizeOf.sizeOf a
decreasing_by
 have:=List.sizeOf_lt_of_mem hb'
 simp;omega
theorem BcG(a:Arr)(ha:a.ok)(xb:Nat)(q:Arr->Prop):ACalls Try.prog 64 ((ER Arr.row1 xb q).args a) ((ER Arr.row1 xb q).st a) (SpecR (ER Arr.row1 xb q) a):=by
 refine ((RO a ha xb).wkArgs ?_).mono fun _ _ ⟨y,h1,h2,h3⟩=>⟨y,h1,h2,h3⟩
 simp only[ER,wkL,wkD]
 exact⟨CE a,by simp[Bp,Ba]⟩
def BbD(a:Arr):Con:=fun k ds _=>match k with
 |64=>match ds with
  | [_,.ref _ xb _]=>some (ER Arr.row1 xb (fun b=>b=a))
  |_=>none
 |_=>none
theorem Bbx{a:Arr}(ha:a.ok):ConOk Try.prog (BbD a):=by
 intro k ds S A h
 unfold BbD at h
 split at h
 ·split at h
  ·injection h with h;subst h
   refine ConOk.plain (fun b hb=>?_) rfl rfl
   have hb:b=a:=hb
   rw[hb]
   exact BcG a ha _ _
  ·cases h
 ·cases h
noncomputable def Eri(a:Arr):Senv:=EC (BbD a) 16 7 [] (fun _=>([],[]))
def Z7(a:Arr)(b:Nat):List D:=Arr.row (GA (Arr.it a) b)
theorem Mz(a:Arr)(ha:a.ok):ACalls Try.prog 45 [.agg a.row1] ⟨[],[]⟩ (SpecR (sC [.agg a.row1] (.int .i64 (Bi a).1)) ()):=by
 refine Bh (A:=sC _ _) (x:=()) (E:=Eri a) (eOk (Bbx ha) rfl) Try.func45 rfl (by kernel_rfl) rfl (by simp[sC,Eri,EC,E0]) ?_
 refine Bl (T :=
  ∀(x:Nat),True->∀(x_1:Nat),x≠x_1/\True->SM x_1/\SM x_1/\SM x/\∃(x:Arr),((Arr.k a=Arr.k x/\(LN (Arr.sh a)=LN (Arr.sh x)/\(∀(i:Nat),i<LN (Arr.sh a)->[ZI (GI (Arr.sh a) i)]=[ZI (GI (Arr.sh x) i)])/\True)/\(LN (Arr.nu a)=LN (Arr.nu x)/\(∀(i:Nat),i<LN (Arr.nu a)->[ZI (GI (Arr.nu a) i)]=[ZI (GI (Arr.nu x) i)])/\True)/\(LN (Arr.it a)=LN (Arr.it x)/\(∀(i:Nat),i<LN (Arr.it a)->Z7 a i=Z7 x i)/\True)/\True)/\SM x_1/\True)/\((SM x_1/\(D.fn (Fn.func (64:Nat)) [] [D.ref (max (N0+N1) N0) x_1 N0]=D.fn (Fn.func (64:Nat)) [] [D.ref N1 x_1 N0]/\True)/\True)/\True)/\x=a/\∀(y:Unit),True->RT (Prod.fst (Bi x)=Prod.fst (Bi a))) (by kernel_rfl) ?_
 delta DA GA GI LN N0 N1 SM Z0 ZI Z7 RT
 intro x _ x1 hx
 exact⟨rfl,rfl,rfl,a,⟨⟨rfl,⟨rfl,fun _ _=>rfl,trivial⟩,⟨rfl,fun _ _=>rfl,trivial⟩,⟨rfl,fun _ _=>rfl,trivial⟩,trivial⟩,rfl,trivial⟩,⟨⟨rfl,⟨rfl,trivial⟩,trivial⟩,trivial⟩,rfl,fun _ _=>⟨trivial,(),trivial,rfl,trivial,trivial⟩⟩
noncomputable def Ernum:Senv:=EC C7 9 1 [2] (fun _=>([],[]))
def Xy(a:Int):Bool:=bif decide ((-4611686018427387903:Int)<=a) then decide (a<=4611686018427387903) else false
theorem Bdp(z:Int):ACalls Try.prog 62 [.int .i64 z] ⟨[],[]⟩ (SpecR (sC [.int .i64 z] (.bool (MW z))) ()):=by
 refine Bh (A:=sC _ _) (x:=()) (E:=Ernum) (eOk BA rfl) Try.func62 rfl (by kernel_rfl) rfl (by simp[sC,Ernum,EC,E0]) ?_
 refine Bl (T :=
  ifB (decide ((-4611686018427387903:Int)<=z)) (decide (z<=4611686018427387903)=Xy z/\True) (false=Xy z/\True)/\RT (Xy z=MW z)) (by kernel_rfl) ?_
 delta Xy RT
 simp only[Bj,decide_eq_true_eq,decide_eq_false_iff_not,true_and,and_true,Bool.cond_false_right,exists_const]
 refine⟨⟨fun h=>by rw[decide_eq_true h];rfl,fun h=>by rw[decide_eq_false h];rfl⟩,rfl⟩
noncomputable def Erchr:Senv:=EC C7 17 1 [2] (fun _=>([],[]))
def Jw(a:Int):Bool:=bif bif decide (Z0<=a) then decide (a<=1114111) else false then bif decide (a<55296) then true else decide ((57343:Int)<a) else false
def Z8(a:Int):Prop:=false=Jw a/\True
theorem Bc5(z:Int):ACalls Try.prog 63 [.int .i64 z] ⟨[],[]⟩ (SpecR (sC [.int .i64 z] (.bool (Ub z))) ()):=by
 refine Bh (A:=sC _ _) (x:=()) (E:=Erchr) (eOk BA rfl) Try.func63 rfl (by kernel_rfl) rfl (by simp[sC,Erchr,EC,E0]) ?_
 refine Bl (T :=
  ifB (decide (Z0<=z)) (ifB (decide (z<=1114111)) (ifB (decide (z<55296)) (true=Jw z/\True) (decide ((57343:Int)<z)=Jw z/\True)) (Z8 z)) (Z8 z)/\RT (Jw z=Ub z)) (by kernel_rfl) ?_
 delta Z0 Jw Z8 RT
 simp only[Bj,decide_eq_true_eq,decide_eq_false_iff_not,true_and,and_true,Bool.cond_false_right,Bool.cond_true_left,exists_const]
 refine⟨⟨fun h1=>⟨fun h2=>⟨fun h3=>by simp[h1,h2,h3],fun h3=>by simp[h1,h2,h3]⟩,fun h2=>by simp[h1,h2]⟩,fun h1=>by simp[h1]⟩,rfl⟩
def BG(k:Int)(nn ni:Nat):Int:=if k=1\/k=2 then nn else if k=3 then ni else 0
noncomputable def Esz:Senv:=EC C7 16 3 [4,5,11] (fun _=>([],[]))
def Z9(a b:Nat)(c:Int)(d:Nat):Prop:=SM a/\True/\∃(_y:Unit),True/\(↑b:Int)=BG c b d/\True/\True
def Ha(a:Int)(b c d:Nat):Prop:=ifB (a==3) (SM b/\True/\∃(_y:Unit),True/\(↑c:Int)=BG a d c/\True/\True) (True/\∃(_y:Unit),True/\Z0=BG a d c/\True/\True)
theorem Beu(k : Int)(ns nn ni : Nat)(f g h : Nat -> List D) :
  ACalls Try.prog 43 [.agg [.int .i64 k,.sl 1 ns f .any,.sl 1 nn g .any,.sl 4 ni h .any]] ⟨[],[]⟩ (SpecR (sC [.agg [.int .i64 k,.sl 1 ns f .any,.sl 1 nn g .any,.sl 4 ni h .any]] (.int .i64 (BG k nn ni))) ()):=by
 refine Bh (A:=sC _ _) (x:=()) (E:=Esz) (eOk BA rfl) Try.func43 rfl (by kernel_rfl) rfl (by simp[sC,Esz,EC,E0]) ?_
 refine Bl (T :=
  ∀(x:Nat),True->SM x/\ifB (k==Z1) (ifB (k==Z1) (Z9 x nn k ni) (Ha k x ni nn)) (ifB (k==2) (Z9 x nn k ni) (Ha k x ni nn))) (by kernel_rfl) ?_
 delta SM Z0 Z1 Z9 Ha
 simp only[Bj,true_and,and_true,beq_iff_eq,beq_eq_false_iff_ne,ne_eq,exists_const,forall_const]
 repeat' (first
  |refine And.intro ?_ ?_
  |intro _)
 all_goals first
  |(simp_all[BG];done)
  |grind [BG]
  |trace_state
def RV:Con:=fun k ds S=>match k with
 |43=>match ds with
  | [.agg [.int .i64 k,.sl 1 _ _ _,.sl 1 nn _ _,.sl 4 ni _ _]]=>some (pC ds (.int .i64 (BG k nn ni)) True)
  |_=>none
 |62=>match ds with
  | [.int .i64 z]=>some (pC [.int .i64 z] (.bool (MW z)) True)
  |_=>none
 |63=>match ds with
  | [.int .i64 z]=>some (pC [.int .i64 z] (.bool (Ub z)) True)
  |_=>none
 |k=>Te k ds S
theorem Uo:ConOk Try.prog RV:=by
 intro k ds S A h
 unfold RV at h
 split at h
 ·split at h
  ·rename_i k ns f _ nn g _ ni g' _
   injection h with h;subst h
   refine Ea fun _=>⟨Bq _,Cp (us:=[.agg [.int .i64 k,.sl 1 ns f .any,.sl 1 nn g .any,.sl 4 ni g' .any]]) ?_ (Beu _ _ _ _ _ _ _)⟩
   refine⟨?_,trivial⟩
   simp only[Bp,Bo]
   refine⟨by simp[Ba,kEq],?_,?_,?_,trivial⟩
   ·simp[Ba,BJ]
   ·simp[Ba,BJ]
   ·simp[Ba,BJ]
  ·cases h
 ·split at h
  ·injection h with h;subst h
   exact Ea fun _=>⟨Bq _,Bdp _⟩
  ·cases h
 ·split at h
  ·injection h with h;subst h
   exact Ea fun _=>⟨Bq _,Bc5 _⟩
  ·cases h
 ·exact In _ _ _ _ h
mutual
def wtA:Arr->Int
 |.mk k _ n is=>min (wtL k is (BG k n.length is.length)) 262145
def wtL(k:Int):List Arr->Int->Int
 | [],n=>n
 |x::r,n=>if k=3/\n<=262144 then wtL k r (n+wtA x) else n
end
theorem T2(a:Arr):wtA a=min (wtL a.k a.it (BG a.k a.nu.length a.it.length)) 262145:=by
 cases a with
 |mk k s n is=>rw[wtA];rfl
theorem R1(k:Int):∀(l:List Arr) (n:Int),0<=n->(∀x∈l,0<=wtA x)->0<=wtL k l n
 | [],n,h,_=>by rw[wtL];exact h
 |x::r,n,h,h2=>by
  rw[wtL]
  have:=h2 x (by simp)
  split
  ·exact R1 k r _ (by omega) fun y hy=>h2 y (by simp[hy])
  ·exact h
theorem Ep:∀(a:Arr),0<=wtA a/\wtA a<=262145
 |.mk k s n is=>by
  rw[wtA]
  have hs:0<=BG k n.length is.length:=by unfold BG;split<;>(try split)<;>omega
  have:=R1 k is _ hs fun x hx=>(Ep x).1
  omega
termination_by a=>SizeOf.sizeOf a
decreasing_by
 have:=List.sizeOf_lt_of_mem hx
 simp;omega
def sRc(row:Arr->List D)(q:Arr->Prop)(r:Arr->D):FnSpec where
 β:=Arr
 α:=Unit
 args:=fun a=>[.agg (row a)]
 st:=fun _=>⟨[],[]⟩
 pre:=q
 post:=fun _ _=>True
 res:=fun a _=>.ret (r a)
 out:=fun _ _=>⟨[],[]⟩
def Bb7(its:List Arr):Con:=fun k ds S=>match k with
 |18=>some (sRc Arr.row1 (fun b=>b∈its) (fun b=>.int .i64 (wtA b)))
 |k=>RV k ds S
theorem Ro{k:Nat}{q q':Arr->Prop}{r:Arr->D}{b:Arr}(h:ACalls Try.prog k ((sRc Arr.row2 q r).args b) ⟨[],[]⟩ (SpecR (sRc Arr.row2 q r) b)):ACalls Try.prog k ((sRc Arr.row1 q' r).args b) ⟨[],[]⟩ (SpecR (sRc Arr.row1 q' r) b):=by
 refine (h.wkArgs ?_).mono fun _ _ ⟨y,h1,h2,h3⟩=>⟨y,h1,h2,h3⟩
 simp only[sRc,wkL,wkD]
 exact⟨CE b,trivial⟩
theorem Bbz{its:List Arr}(ih:∀b∈its,ACalls Try.prog 18 ((sRc Arr.row2 (fun _=>True) (fun b=>.int .i64 (wtA b))).args b) ⟨[],[]⟩ (SpecR (sRc Arr.row2 (fun _=>True) (fun b=>.int .i64 (wtA b))) b)):ConOk Try.prog (Bb7 its):=by
 intro k ds S A h
 unfold Bb7 at h
 split at h
 ·injection h with h;subst h
  exact ConOk.plain (fun b hb=>Ro (ih b hb)) rfl rfl
 ·exact Uo _ _ _ _ h
noncomputable def Ewt(a:Arr):Senv:={ EC (Bb7 a.it) 33 5 [20] (fun _=>([],[])) with
 ann:=fun b _ S=>match b with
  |0=>some { slots:=[3,4],keep:=[0,1,2],α:=Nat×Int,st:=fun y=>([.int .i64 y.2,.int .i64 y.1],S),inv:=fun y=>y.1<=a.it.length/\0<=y.2/\y.2<=maxLen/\wtL a.k (a.it.drop y.1) y.2=wtL a.k a.it (BG a.k a.nu.length a.it.length),mu:=fun y=>a.it.length-y.1 }
  |_=>none }
def Kt(a:Arr):List Arr:=Arr.it a
def Qy(a:Arr):Nat:=LN (Kt a)
def QQ(a:Arr):Int:=Arr.k a
def KO(a:Arr):Nat:=LN (Arr.nu a)
def Hb(a:Arr):Int:=BG (QQ a) (KO a) (Qy a)
def Xz(a:Nat)(b:Arr)(c:Int):Prop:=a<=Qy b/\Z0<=c/\c<=9223372036854775807/\wtL (QQ b) (List.drop a (Kt b)) c=wtL (QQ b) (Kt b) (Hb b)
def Jx(a:Arr):Nat:=LN (Arr.sh a)
def XA(a:Arr)(b:Nat):List D:=[ZI (GI (Arr.sh a) b)]
def XB(a:Arr)(b:Nat):List D:=[ZI (GI (Arr.nu a) b)]
def Jy:Arr:=DA
def KP(a:Arr)(b:Nat):Arr:=List.getD (Kt a) b Jy
def QfR(a:Arr)(b:Nat):List Int:=Arr.sh (KP a b)
def QfS(a:Arr)(b:Nat):List Int:=Arr.nu (KP a b)
def Hc(a:Arr)(b:Nat):List Arr:=Arr.it (KP a b)
def Hd(a:Arr)(b:Nat):List D:=[ZI (Arr.k (KP a b)),SI (QfR a b),SI (QfS a b),D.sl N4 (LN (Hc a b)) (fun i=>Arr.row (List.getD (Hc a b) i Jy)) Mode.any]
def He(a:Nat)(b:Arr):Prop:=(SM a/\(SM (QQ b)/\(SM (Jx b)/\(∀(i:Nat),i<Jx b->SM (XA b i))/\True)/\(SM (KO b)/\(∀(i:Nat),i<KO b->SM (XB b i))/\True)/\(SM (Qy b)/\(∀(i:Nat),i<Qy b->SM (Hd b i))/\True)/\True)/\True)/\True
def XC(a:Nat)(b:Arr)(c:Int):Bool:=bif bif decide ((↑a:Int)<(NI (Qy b))) then QQ b==3 else false then decide (c<=262144) else false
def Hf(a:Nat)(b:Arr)(c:Int):Prop:=false=XC a b c/\True
def Jz(a:Arr)(b:Nat):Arr:=List.getD (Kt a) (Int.toNat (↑b:Int)) Jy
def Hg(a:Arr)(b:Nat):List Int:=Arr.sh (Jz a b)
def Hh(a:Arr)(b:Nat):Nat:=LN (Hg a b)
def Hi(a:Arr)(b:Nat):List Int:=Arr.nu (Jz a b)
def Hj(a:Arr)(b:Nat):Nat:=LN (Hi a b)
def Hk(a:Arr)(b:Nat):List Arr:=Arr.it (Jz a b)
def Hl(a:Arr)(b:Nat):Nat:=LN (Hk a b)
def QfT(a:Arr):D:=D.agg [ZI (QQ a),D.sl N1 (Jx a) (fun i=>XA a i) Mode.any,D.sl N1 (KO a) (fun i=>XB a i) Mode.any,D.sl N4 (Qy a) (fun i=>Hd a i) Mode.any]
theorem Bdm(a : Arr)(ha : a.nu.length<=maxLen /\ a.it.length<=maxLen /\ a.sh.length<=maxLen)(ih : ∀b∈a.it, ACalls Try.prog 18 ((sRc Arr.row2 (fun _=>True) (fun b=>.int .i64 (wtA b))).args b) ⟨[], []⟩ (SpecR (sRc Arr.row2 (fun _=>True) (fun b=>.int .i64 (wtA b))) b)) :
  ACalls Try.prog 18 ((sRc Arr.row2 (fun _=>True) (fun b=>.int .i64 (wtA b))).args a) ⟨[],[]⟩ (SpecR (sRc Arr.row2 (fun _=>True) (fun b=>.int .i64 (wtA b))) a):=by
 refine Bh (A:=sRc Arr.row2 (fun _=>True) (fun b=>.int .i64 (wtA b))) (x:=a) (E:=Ewt a) (eOk (Bbz ih) rfl) Try.func18 rfl (by kernel_rfl) rfl (by simp[sRc,Ewt,EC,E0]) ?_
 refine Bl (T :=
  ∀(x:Nat),True->SM x/\True/\∀(y:Unit),True->(∃(x_1:Nat×Int),Xz x_1.1 a x_1.2/\(Hb a=x_1.2/\Z0=(NI x_1.1)/\True)/\He x a)/\∀(x_1:Nat×Int),Xz x_1.1 a x_1.2->(SM x/\ifB (decide ((NI x_1.1)<(NI (Qy a)))) (SM x/\ifB (QQ a==3) (decide (x_1.2<=262144)=XC x_1.1 a x_1.2/\True) (Hf x_1.1 a x_1.2)) (Hf x_1.1 a x_1.2))/\ifB (XC x_1.1 a x_1.2) (SM x/\Bd (Z0<=(NI x_1.1)/\(NI x_1.1)<(NI (Qy a))) (∃(x_2:Arr),((Arr.k (Jz a x_1.1)=QQ x_2/\(Hh a x_1.1=Jx x_2/\(∀(i:Nat),i<Hh a x_1.1->[ZI (GI (Hg a x_1.1) i)]=XA x_2 i)/\True)/\(Hj a x_1.1=KO x_2/\(∀(i:Nat),i<Hj a x_1.1->[ZI (GI (Hi a x_1.1) i)]=XB x_2 i)/\True)/\(Hl a x_1.1=Qy x_2/\(∀(i:Nat),i<Hl a x_1.1->Arr.row (List.getD (Hk a x_1.1) i Jy)=Arr.row (KP x_2 i))/\True)/\True)/\True)/\(True/\True)/\x_2∈Kt a/\∀(y:Unit),True->(SM (QfT a)/\SM (D.ref N0 x N0)/\SM (ZI Z0)/\True)/\∃(y:Nat×Int),Xz y.1 a y.2/\Qy a-y.1<Qy a-x_1.1/\(IntKind.wrap IntKind.i64 (x_1.2+wtA x_2)=y.2/\IntKind.wrap IntKind.i64 ((NI x_1.1)+Z1)=(NI y.1)/\True)/\He x a)) (RT ((if (262145:Int)<x_1.2 then (262145:Int) else x_1.2)=wtA a))) (by kernel_rfl) ?_
 delta DA GI LN N0 N1 N4 NI SI SM Z0 Z1 ZI Xz Jx XA XB Jy KP QfR QfS Hc Hd He XC Hf Jz Hg Hh Hi Hj Hk Hl QfT Kt Qy QQ KO Hb RT
 have da:(default:Arr)=Arr.mk 0 [] [] []:=rfl
 simp only[<- da,Int.toNat_natCast,Bj,Bc,decide_eq_true_eq,decide_eq_false_iff_not,true_and,and_true,beq_iff_eq,Bool.cond_false_right,Bool.and_eq_true,Bool.and_eq_false_iff,beq_eq_false_iff_ne,ne_eq,exists_const,forall_const]
 obtain ⟨l1,l2,l3⟩:=ha
 simp only[maxLen] at l1 l2 l3
 have tt:(∀i:Nat,i<a.sh.length->True)/\(∀i:Nat,i<a.nu.length->True)/\∀i:Nat,i<a.it.length->True:=⟨fun _ _=>trivial,fun _ _=>trivial,fun _ _=>trivial⟩
 have hsz:0<=BG a.k a.nu.length a.it.length/\BG a.k a.nu.length a.it.length<=9223372036854775807:=by
  unfold BG;split<;>(try split)<;>omega
 refine⟨⟨(0,BG a.k a.nu.length a.it.length),⟨Nat.zero_le _,hsz.1,hsz.2,rfl⟩,⟨rfl,rfl⟩,tt⟩,?_⟩
 rintro ⟨j,n⟩ ⟨b1,b2,b3,hch⟩
 simp only at b1 b2 b3 hch ⊢
 refine⟨⟨fun h1=>⟨fun h2=>by simp[h1,h2],fun h2=>by simp[h2]⟩,fun h1=>by simp[h1]⟩,fun ⟨⟨h1,h2⟩,h3⟩=>⟨by omega,?_⟩,fun hc=>?_⟩
 ·have hlt':j<a.it.length:=by omega
  have hbd:=Ep (a.it.getD j default)
  rw[CV hlt',wtL,if_pos ⟨h2,h3⟩] at hch
  refine⟨a.it.getD j default,⟨rfl,⟨rfl,fun _ _=>rfl⟩,⟨rfl,fun _ _=>rfl⟩,rfl,fun _ _=>rfl⟩,CI hlt',(j+1,n+wtA (a.it.getD j default)),⟨by simp only;omega,by simp only;omega,by simp only;omega,hch⟩,by simp only;omega,⟨Bb (by omega) (by omega),Bb (by omega) (by omega)⟩,tt⟩
 ·have he:wtL a.k (a.it.drop j) n=n:=by
   by_cases hj:j<a.it.length
   ·rw[CV hj,wtL,if_neg (by rintro ⟨h2,h3⟩;rcases hc with (h | h) | h<;>omega)]
   ·rw[List.drop_eq_nil_of_le (by omega),wtL]
  rw[he] at hch
  rw[T2,<- hch]
  split<;>omega
theorem WK:∀(a:Arr),a.ok->ACalls Try.prog 18 ((sRc Arr.row2 (fun _=>True) (fun b=>.int .i64 (wtA b))).args a) ⟨[],[]⟩ (SpecR (sRc Arr.row2 (fun _=>True) (fun b=>.int .i64 (wtA b))) a)
 |.mk k s n is,h=>by
  have h':=h
  simp only[Arr.ok] at h'
  obtain ⟨_,_,_,h1,h2,h3,h4⟩:=h'
  refine Bdm (.mk k s n is) ⟨h2,h3,h1⟩ fun b hb=>?_
  have hb':b∈is:=hb
  exact WK b ((Cf _).1 h4 b hb')
termination_by a=>SizeOf.sizeOf a
decreasing_by
 have:=List.sizeOf_lt_of_mem hb'
 simp;omega
theorem Ur:∀(l:List Arr) (d d' w':Int),BT l d 262145=some (d',w')->w'=262145
 | [],d,d',w',h=>by rw[BT] at h;injection h with h;injection h with e1 e2;omega
 |x::r,d,d',w',h=>by
  rw[BT] at h
  have:=Cb x
  split at h
  ·cases h
  ·have e:(if (262145:Int)<262145+(Bi x).2.2 then 262145 else 262145+(Bi x).2.2)=262145:=by split<;>omega
   rw[e] at h;exact Ur r _ d' w' h
theorem RJ(k:Int):∀(l:List Arr) (d w d' w':Int),BT l d w=some (d',w')->(k=3\/l=[])->(∀x∈l,(Bi x).1=0->wtA x=(Bi x).2.2)->∀n,min n 262145=w->min (wtL k l n) 262145=w'
 | [],d,w,d',w',h,_,_,n,hn=>by
  rw[BT] at h;injection h with h;injection h with e1 e2;rw[wtL];omega
 |x::r,d,w,d',w',h,hk,h3,n,hn=>by
  have hk:k=3:=hk.resolve_right (by simp)
  rw[BT] at h
  have hb:=Cb x
  split at h
  ·cases h
  ·rename_i hx
   have hx:(Bi x).1=0:=by simpa using hx
   have hwx:=h3 x (by simp) hx
   rw[wtL]
   by_cases hn2:n<=262144
   ·rw[if_pos ⟨hk,hn2⟩]
    refine RJ k r _ _ d' w' h (.inl hk) (fun y hy=>h3 y (by simp[hy])) _ ?_
    split<;>omega
   ·rw[if_neg (fun e=>hn2 e.2)]
    have hw:w=262145:=by omega
    rw[hw] at h
    have:(if (262145:Int)<262145+(Bi x).2.2 then 262145 else 262145+(Bi x).2.2)=262145:=by split<;>omega
    rw[this] at h
    have:=Ur r _ _ _ h
    omega
theorem R9{k:Int}{s:List Int}{nn ni:Nat}(h:By k s nn ni=0):(k=3/\nn=0)\/((k=1\/k=2)/\ni=0):=by
 unfold By at h
 by_cases hk:k=1\/k=2\/k=3
 ·rw[if_pos hk] at h
  by_cases hd:B0 s≠0
  ·rw[if_pos hd] at h;exact (hd h).elim
  ·rw[if_neg hd] at h
   by_cases hc:((if k=3 then (ni:Int) else nn)≠BW s)\/((if k=3 then (nn:Int) else ni)≠0)
   ·rw[if_pos hc] at h;omega
   ·simp only[not_or,ne_eq,Decidable.not_not] at hc
    obtain ⟨c1,c2⟩:=hc
    by_cases k3:k=3
    ·simp only[k3,if_true] at c2;left;omega
    ·simp only[k3,if_false] at c2;right;omega
 ·rw[if_neg hk] at h;omega
theorem BdG{a:Arr}{r:Int×Int}(h0:By a.k a.sh a.nu.length a.it.length=0)(hr:BT a.it 0 ((a.nu.length:Int)+a.it.length)=some r)(h3:∀x∈a.it,(Bi x).1=0->wtA x=(Bi x).2.2):wtA a=r.2:=by
 have hz:=R9 h0
 have hs:=Et h0
 rw[T2]
 refine RJ a.k a.it 0 _ r.1 r.2 hr ?_ h3 _ ?_
 ·rcases hz with ⟨h1,_⟩ | ⟨_,h2⟩
  ·exact .inl h1
  ·exact .inr (List.length_eq_zero_iff.1 h2)
 ·unfold BG
  rcases hz with ⟨h1,h2⟩ | ⟨h1,h2⟩
  ·rw[if_neg (by omega),if_pos h1];omega
  ·rw[if_pos h1];omega
theorem Uc:∀(a:Arr),(Bi a).1=0->wtA a=(Bi a).2.2
 |.mk k s n is,h=>by
  have ih:∀x∈(Arr.mk k s n is).it,(Bi x).1=0->wtA x=(Bi x).2.2:=fun x hx=>by
   have hx':x∈is:=hx
   exact Uc x
  have hA:=TK (Arr.mk k s n is)
  generalize Arr.mk k s n is=a at *
  by_cases h0:By a.k a.sh a.nu.length a.it.length=0
  ·rw[if_neg (fun e=>e h0)] at hA
   by_cases h1:a.nu.any (CM a.k)=true
   ·rw[if_pos h1] at hA;rw[hA] at h;cases h
   ·rw[if_neg h1] at hA
    cases hr:BT a.it 0 ((a.nu.length:Int)+a.it.length) with
    |none=>rw[hr] at hA;simp only at hA;rw[hA] at h;cases h
    |some r =>
     rw[hr] at hA
     simp only at hA
     split at hA
     ·rw[hA] at h;cases h
     ·rw[hA];exact BdG h0 hr ih
  ·rw[if_pos h0] at hA;rw[hA] at h;exact (h0 h).elim
termination_by a=>SizeOf.sizeOf a
decreasing_by
 have:=List.sizeOf_lt_of_mem hx'
 simp;omega
def Mf(b:Arr):D:=.tup [.int .i64 (Bi b).1,.int .i64 (Bi b).2.1]
def BaN(a:Arr):Con:=fun k ds S=>match k with
 |44=>some (sRc Arr.row1 (fun b=>b∈a.it) (fun b=>.tup [.int .i64 (Bi b).1,.int .i64 (Bi b).2.1]))
 |18=>some (sRc Arr.row2 (fun b=>b=a) (fun b=>.int .i64 (wtA b)))
 |k=>RV k ds S
theorem BbK{a:Arr}(ha:a.ok)(ih:∀b∈a.it,ACalls Try.prog 44 ((sRc Arr.row2 (fun _=>True) Mf).args b) ⟨[],[]⟩ (SpecR (sRc Arr.row2 (fun _=>True) Mf) b)):ConOk Try.prog (BaN a):=by
 intro k ds S A h
 unfold BaN at h
 split at h
 ·injection h with h;subst h
  exact ConOk.plain (fun b hb=>Ro (r:=Mf) (ih b hb)) rfl rfl
 ·injection h with h;subst h
  refine ConOk.plain (fun b hb=>?_) rfl rfl
  have hb:b=a:=hb
  rw[hb]
  exact (WK a ha).mono fun _ _ ⟨y,h1,h2,h3⟩=>⟨y,h1,h2,h3⟩
 ·exact Uo _ _ _ _ h
def cutW(a:Arr)(d:D)(S:St):Option LoopAnn :=
 match d with
 |.int _ i=>some { slots:=[76],keep:=[],α:=Unit,st:=fun _=>([.bool (CM a.k (a.nu.getD i.toNat 0))],S),inv:=fun _=>True,mu:=fun _=>0 }
 |_=>none
noncomputable def Eck(a:Arr):Senv:={ EC (BaN a) 107 11 [18,23,30,43,48,76,81,94,105] (fun id=>match id with | 9=>([0,2,3,1,4,5,6,7,8,9],[1,4]) | _=>([],[])) with
 cut:=fun id env S=>match id with
  |14=>cutW a (Ab.look env 6) S
  |_=>none
 ann:=fun b _ S=>match b with
  |0=>some { slots:=[6],keep:=[0,1,2,3],α:=Nat,st:=fun i=>([.int .i64 i],S),inv:=fun i=>i<=a.nu.length/\∀z∈a.nu.take i,CM a.k z=false,mu:=fun i=>a.nu.length-i }
  |2=>some { slots:=[8,7],keep:=[0,1,2,3],α:=Nat×Int×Int,st:=fun y=>([.int .i64 y.1,.int .i64 y.2.1],S),inv:=fun y=>y.1<=a.it.length/\0<=y.2.1/\y.2.1<=17/\0<=y.2.2/\y.2.2<=262145/\BT (a.it.drop y.1) y.2.1 y.2.2=BT a.it 0 ((a.nu.length:Int)+a.it.length),mu:=fun y=>a.it.length-y.1 }
  |_=>none }
def Qm(a:Arr):Int:=Arr.k a
def XD(a:Arr):Bool:=bif decide (Qm a<Z1) then true else decide ((3:Int)<Qm a)
def Q7(a:Arr):Int:=Prod.fst (Bi a)
def KQ(a:Arr):Prop:=Z0=Prod.fst (Prod.snd (Bi a))/\True
def QL(a:Arr):Nat:=LN (Arr.sh a)
def Q8(a:Arr)(b:Nat):List D:=[ZI (GI (Arr.sh a) b)]
def Hm(a:Arr):Prop:=IntsP (QL a) fun i=>Q8 a i
def Hn(a:Arr):List Int:=BF (QL a) fun i=>Q8 a i
def XE(a:Arr):Int:=B0 (Hn a)
def Ho(a:Arr):D:=D.sl N1 (QL a) (fun i=>Q8 a i) Mode.any
def Hp(a:Nat)(b:Arr):Prop:=SM a/\SM (Ho b)
def Hq(a:Arr):Prop:=Hm a/\XE a=Z0
def JA(a:Arr):List Int:=Arr.nu a
def Qu(a:Arr):Nat:=LN (JA a)
def Ku(a:Arr):List Arr:=Arr.it a
def Qv(a:Arr):Nat:=LN (Ku a)
def Hr(a:Arr):Bool:=BG (Qm a) (Qu a) (Qv a) != BW (Hn a)
def JB(a:Arr):Prop:=True/\∃(_y:Unit),True/\((16:Int)=Q7 a/\KQ a)/\True/\True
def KR(a:Arr):Int:=(NI (Qu a))
def XF(a:Nat)(b:Arr):Prop:=a<=Qu b/\∀(z:Int),z∈List.take a (JA b)->CM (Qm b) z=false
def KS(a:Arr)(b:Nat):List D:=[ZI (GI (JA a) b)]
def JC:Arr:=DA
def KT(a:Arr)(b:Nat):Arr:=List.getD (Ku a) b JC
def QfU(a:Arr)(b:Nat):List Int:=Arr.sh (KT a b)
def QfV(a:Arr)(b:Nat):List Int:=Arr.nu (KT a b)
def Hs(a:Arr)(b:Nat):List Arr:=Arr.it (KT a b)
def JD(a:Arr)(b:Nat):List D:=[ZI (Arr.k (KT a b)),SI (QfU a b),SI (QfV a b),D.sl N4 (LN (Hs a b)) (fun i=>Arr.row (List.getD (Hs a b) i JC)) Mode.any]
def Q9(a:Nat)(b:Arr):Prop:=(SM a/\(SM (Qm b)/\(SM (QL b)/\(∀(i:Nat),i<QL b->SM (Q8 b i))/\True)/\(SM (Qu b)/\(∀(i:Nat),i<Qu b->SM (KS b i))/\True)/\(SM (Qv b)/\(∀(i:Nat),i<Qv b->SM (JD b i))/\True)/\True)/\True)/\True
def XG(a:Arr)(b:Nat):Int:=GI (JA a) (Int.toNat (↑b:Int))
def JE(a:Arr)(b:Nat):Bool:=CM (Qm a) (XG a b)
def Ht(a:Nat)(b:Arr)(c:Nat):Prop:=SM a/\ifB (Qm b==2) (SM a/\Bd (Z0<=(↑c:Int)/\(↑c:Int)<KR b) (True/\∀(_y:Unit),True->∃(_x:Unit),True/\((!Ub (XG b c))=JE b c/\True)/\Q9 a b)) (∃(_x:Unit),True/\(false=JE b c/\True)/\Q9 a b)
def Hu(a:Arr):Prop:=True/\∃(_y:Unit),True/\((17:Int)=Q7 a/\KQ a)/\True/\True
def QfW(a:Arr):D:=D.agg [ZI (Qm a),Ho a,D.sl N1 (Qu a) (fun i=>KS a i) Mode.any,D.sl N4 (Qv a) (fun i=>JD a i) Mode.any]
def Hv(a:Arr)(b:Nat):Prop:=SM (QfW a)/\SM (D.ref N0 b N0)/\SM (ZI Z0)/\SM (ZI Z0)/\True
def JF(a:Arr):Int:=(NI (Qv a))
def XH(a:Nat)(b:Arr)(c d:Int):Prop:=a<=Qv b/\Z0<=c/\c<=17/\Z0<=d/\d<=262145/\BT (List.drop a (Ku b)) c d=BT (Ku b) Z0 (KR b+JF b)
def JG(a:Arr)(b:Nat):Arr:=List.getD (Ku a) (Int.toNat (↑b:Int)) JC
def Hw(a:Arr)(b:Nat):List Int:=Arr.sh (JG a b)
def Hx(a:Arr)(b:Nat):Nat:=LN (Hw a b)
def Hy(a:Arr)(b:Nat):List Int:=Arr.nu (JG a b)
def Hz(a:Arr)(b:Nat):Nat:=LN (Hy a b)
def HA(a:Arr)(b:Nat):List Arr:=Arr.it (JG a b)
def HB(a:Arr)(b:Nat):Nat:=LN (HA a b)
def HC(a:Arr):Prop:=True/\∃(_y:Unit),True/\((21:Int)=Q7 a/\KQ a)/\True/\True
def HD(a:Arr)(b:Nat):Prop:=(∃(x:Nat),XF x a/\(Z0=(↑x:Int)/\True)/\Q9 b a)/\∀(x:Nat),XF x a->SM b/\ifB (decide ((↑x:Int)<KR a)) ((SM b/\ifB (Qm a==Z1) (SM b/\Bd (Z0<=(↑x:Int)/\(↑x:Int)<KR a) (True/\∀(_y:Unit),True->ifB (!MW (XG a x)) (∃(_x_1:Unit),True/\(true=JE a x/\True)/\Q9 b a) (Ht b a x))) (Ht b a x))/\∀(_x_1:Unit),True->ifB (JE a x) (Hu a) (Hv a b/\∃(y:Nat),XF y a/\Qu a-y<Qu a-x/\(IntKind.wrap IntKind.i64 ((↑x:Int)+Z1)=(↑y:Int)/\True)/\Q9 b a)) ((∃(x:Nat×Int×Int),XH x.1 a x.2.1 x.2.2/\(Z0=(NI x.1)/\Z0=x.2.1/\True)/\Q9 b a)/\∀(x:Nat×Int×Int),XH x.1 a x.2.1 x.2.2->SM b/\ifB (decide ((NI x.1)<JF a)) (SM b/\Bd (Z0<=(NI x.1)/\(NI x.1)<JF a) (∃(x_1:Arr),((Arr.k (JG a x.1)=Qm x_1/\(Hx a x.1=QL x_1/\(∀(i:Nat),i<Hx a x.1->[ZI (GI (Hw a x.1) i)]=Q8 x_1 i)/\True)/\(Hz a x.1=Qu x_1/\(∀(i:Nat),i<Hz a x.1->[ZI (GI (Hy a x.1) i)]=KS x_1 i)/\True)/\(HB a x.1=Qv x_1/\(∀(i:Nat),i<HB a x.1->Arr.row (List.getD (HA a x.1) i JC)=Arr.row (KT x_1 i))/\True)/\True)/\True)/\(True/\True)/\x_1∈Ku a/\∀(_y:Unit),True->ifB (Q7 x_1 != Z0) (Hu a) (Hv a b/\∃(y:Nat×Int×Int),XH y.1 a y.2.1 y.2.2/\Qv a-y.1<Qv a-x.1/\(IntKind.wrap IntKind.i64 ((NI x.1)+Z1)=(NI y.1)/\(if x.2.1<IntKind.wrap IntKind.i64 (Prod.fst (Prod.snd (Bi x_1))+Z1) then IntKind.wrap IntKind.i64 (Prod.fst (Prod.snd (Bi x_1))+Z1) else x.2.1)=y.2.1/\True)/\Q9 b a))) (ifB (decide ((16:Int)<x.2.1)) (HC a) (SM b/\∃(x_1:Arr),((Qm a=Qm x_1/\(QL a=QL x_1/\(∀(i:Nat),i<QL a->Q8 a i=Q8 x_1 i)/\True)/\(Qu a=Qu x_1/\(∀(i:Nat),i<Qu a->KS a i=KS x_1 i)/\True)/\(Qv a=Qv x_1/\(∀(i:Nat),i<Qv a->JD a i=JD x_1 i)/\True)/\True)/\True)/\(True/\True)/\x_1=a/\∀(_y:Unit),True->ifB (decide ((262144:Int)<wtA x_1)) (HC a) (True/\∃(_y:Unit),True/\(Z0=Q7 a/\x.2.1=Prod.fst (Prod.snd (Bi a))/\True)/\True/\True))))
theorem BcM(a : Arr)(hok : a.ok)(ha : a.nu.length<=maxLen /\ a.it.length<=maxLen /\ a.sh.length<=maxLen)(ih : ∀b∈a.it, ACalls Try.prog 44 ((sRc Arr.row2 (fun _=>True) Mf).args b) ⟨[], []⟩ (SpecR (sRc Arr.row2 (fun _=>True) Mf) b)) :
  ACalls Try.prog 44 ((sRc Arr.row2 (fun _=>True) Mf).args a) ⟨[],[]⟩ (SpecR (sRc Arr.row2 (fun _=>True) Mf) a):=by
 refine Bh (A:=sRc Arr.row2 (fun _=>True) Mf) (x:=a) (E:=Eck a) (eOk (BbK hok ih) rfl) Try.func44 rfl (by kernel_rfl) rfl (by simp[sRc,Eck,EC,E0]) ?_
 simp only[sRc,Mf]
 refine Bl (T :=
  ∀(x:Nat),True->(SM x/\ifB (decide (Qm a<Z1)) (true=XD a/\True) (SM x/\decide ((3:Int)<Qm a)=XD a/\True))/\ifB (XD a) (True/\∃(y:Unit),True/\((14:Int)=Q7 a/\KQ a)/\True/\True) (SM x/\Hm a/\∀(y:Unit),True->ifB (XE a != Z0) (True/\∃(y:Unit),True/\(XE a=Q7 a/\KQ a)/\True/\True) (SM x/\SM x/\ifB (Qm a==3) (SM x/\SM x/\SM x/\True/\∀(y:Unit),True->Hp x a/\Hq a/\∀(y:Unit),True->ifB (Hr a) (JB a) (ifB (decide (Z0<KR a)) (JB a) (HD a x))) (SM x/\SM x/\True/\∀(y:Unit),True->Hp x a/\Hq a/\∀(y:Unit),True->ifB (Hr a) (JB a) (ifB (decide (Z0<JF a)) (JB a) (HD a x)))))) (by kernel_rfl) ?_
 delta DA GI LN N0 N1 N4 NI SI SM Z0 Z1 ZI Qm XD Hp Hq JA Qu Ku Qv Hr JB KR XF Q7 KS JC KT QfU QfV Hs JD Q9 XG JE KQ Ht Hu QfW Hv JF XH JG Hw Hx Hy QL Hz HA HB HC HD Q8 Hm Hn XE Ho
 have da:(default:Arr)=Arr.mk 0 [] [] []:=rfl
 simp only[<- da,CA,Int.toNat_natCast,Bj,Bc,decide_eq_true_eq,decide_eq_false_iff_not,true_and,and_true,beq_iff_eq,bne_iff_ne,Bool.cond_true_left,beq_eq_false_iff_ne,ne_eq,exists_const,forall_const]
 have hA:=TK a
 obtain ⟨l1,l2,l3⟩:=ha
 simp only[maxLen] at l1 l2 l3
 have tt:(∀i:Nat,i<a.sh.length->True)/\(∀i:Nat,i<a.nu.length->True)/\∀i:Nat,i<a.it.length->True:=⟨fun _ _=>trivial,fun _ _=>trivial,fun _ _=>trivial⟩
 have bad:∀e,By a.k a.sh a.nu.length a.it.length=e->e≠0->e=(Bi a).1/\0=(Bi a).2.1:=fun e h1 h2=>by
  rw[if_pos (by rw[h1];exact h2),h1] at hA
  rw[hA];exact⟨rfl,rfl⟩
 refine⟨⟨fun h=>by simp[h],fun h=>by simp[h]⟩,fun h=>bad 14 ?_ (by decide),fun h=>⟨BK _,fun hd=>bad _ ?_ hd,fun hd=>?_⟩⟩
 ·rw[Bool.or_eq_true,decide_eq_true_eq,decide_eq_true_eq] at h
  unfold By;rw[if_neg (by omega)]
 ·rw[Bool.or_eq_false_iff,decide_eq_false_iff_not,decide_eq_false_iff_not] at h
  unfold By;rw[if_pos (by omega),if_pos hd]
 rw[Bool.or_eq_false_iff,decide_eq_false_iff_not,decide_eq_false_iff_not] at h
 have hd0:B0 a.sh=0:=by simpa using hd
 have hk:a.k=1\/a.k=2\/a.k=3:=by omega
 have hf:By a.k a.sh a.nu.length a.it.length=if ((if a.k=3 then (a.it.length:Int) else a.nu.length)≠BW a.sh)\/((if a.k=3 then (a.nu.length:Int) else a.it.length)≠0) then 16 else 0:=by
  unfold By;rw[if_pos hk,if_neg (fun e=>e hd0)]
 have hsz:BG a.k a.nu.length a.it.length=if a.k=3 then (a.it.length:Int) else a.nu.length:=by
  unfold BG
  by_cases k3:a.k=3
  ·rw[if_neg (by omega),if_pos k3,if_pos k3]
  ·rw[if_pos (by omega),if_neg k3]
 rw[<- hsz] at hf
 refine⟨fun k3=>⟨⟨BK _,hd0⟩,fun hs=>bad 16 (by rw[hf,if_pos (.inl hs)]) (by decide),fun hs=>⟨fun ho=>bad 16 (by rw[hf,if_pos (.inr (by rw[if_pos k3];omega))]) (by decide),fun ho=>?_⟩⟩,
  fun k3=>⟨⟨BK _,hd0⟩,fun hs=>bad 16 (by rw[hf,if_pos (.inl hs)]) (by decide),fun hs=>⟨fun ho=>bad 16 (by rw[hf,if_pos (.inr (by rw[if_neg k3];omega))]) (by decide),fun ho=>?_⟩⟩⟩
 all_goals
  have hs':BG a.k a.nu.length a.it.length=BW a.sh:=by simpa using hs
  have h0:By a.k a.sh a.nu.length a.it.length=0:=by
   rw[hf,if_neg]
   rintro (h1 | h1)
   ·exact h1 hs'
   ·simp only[k3,if_true,if_false] at h1;omega
  clear hf hs hsz
  have hsm:=Et h0
  refine⟨⟨0,⟨Nat.zero_le _,by simp⟩,rfl,tt⟩,fun i hi=>⟨fun hlt=>?_,fun hge=>?_⟩⟩
  ·have hlt':i<a.nu.length:=by omega
   have hmem:a.nu.getD i 0∈a.nu:=by rw[List.getD_eq_getElem?_getD,List.getElem?_eq_getElem hlt'];exact List.getElem_mem hlt'
   have htk:a.nu.take (i+1)=a.nu.take i++[a.nu.getD i 0]:=by
    rw[List.take_add_one];simp[List.getD_eq_getElem?_getD,hlt']
   generalize a.nu.getD i 0=z at *
   refine⟨⟨fun k1=>⟨⟨by omega,hlt⟩,fun hn=>⟨by simp at hn;simp[CM,k1,hn],tt⟩,fun hn=>⟨fun k2=>by omega,fun k2=>⟨by simp at hn;simp[CM,k1,hn],tt⟩⟩⟩,fun k1=>⟨fun k2=>⟨⟨by omega,hlt⟩,by simp[CM,k2],tt⟩,fun k2=>⟨by simp[CM,k1,k2],tt⟩⟩⟩,fun hb=>?_,fun hb=>⟨i+1,⟨by omega,fun y hy=>?_⟩,by omega,Bb (by omega) (by omega),tt⟩⟩
   ·have:a.nu.any (CM a.k)=true:=List.any_eq_true.2 ⟨z,hmem,hb⟩
    rw[if_neg (fun e=>e h0),if_pos this] at hA
    rw[hA]
    exact⟨rfl,rfl⟩
   ·rw[htk,List.mem_append] at hy
    rcases hy with hy | hy
    ·exact hi.2 y hy
    ·simp at hy;rw[hy];exact hb
  ·have hii:i=a.nu.length:=by omega
   rw[hii,List.take_length] at hi
   have hany:¬a.nu.any (CM a.k)=true:=by
    rw[List.any_eq_true]
    rintro ⟨z,hz,hb⟩
    rw[hi.2 z hz] at hb
    cases hb
   rw[if_neg (fun e=>e h0),if_neg hany] at hA
   refine⟨⟨(0,0,(a.nu.length:Int)+a.it.length),⟨Nat.zero_le _,Int.le_refl _,by simp,by simp only;omega,by simp only;omega,by simp⟩,⟨rfl,rfl⟩,tt⟩,?_⟩
   rintro ⟨j,d,w⟩ ⟨b1,b2,b3,b4,b5,hch⟩
   simp only at b1 b2 b3 b4 b5 hch ⊢
   refine⟨fun hlt=>⟨⟨by omega,hlt⟩,?_⟩,fun hge=>?_⟩
   ·have hlt':j<a.it.length:=by omega
    have hbd:=Cb (a.it.getD j default)
    rw[CV hlt',BT] at hch
    refine⟨a.it.getD j default,⟨rfl,⟨rfl,fun _ _=>rfl⟩,⟨rfl,fun _ _=>rfl⟩,rfl,fun _ _=>rfl⟩,CI hlt',fun herr=>?_,fun hok=>?_⟩
    ·rw[if_pos herr] at hch
     rw[<- hch] at hA
     rw[hA]
     exact⟨rfl,rfl⟩
    ·have hok:(Bi (a.it.getD j default)).1=0:=by simpa using hok
     rw[if_neg (fun hne=>hne hok)] at hch
     have w1:IntKind.i64.wrap ((Bi (a.it.getD j default)).2.1+1)=(Bi (a.it.getD j default)).2.1+1:=Bb (by omega) (by omega)
     rw[w1]
     refine⟨(j+1,(if d<(Bi (a.it.getD j default)).2.1+1 then (Bi (a.it.getD j default)).2.1+1 else d),(if 262145<w+(Bi (a.it.getD j default)).2.2 then 262145 else w+(Bi (a.it.getD j default)).2.2)),⟨by simp only;omega,?_,?_,?_,?_,hch⟩,by simp only;omega,⟨Bb (by omega) (by omega),rfl⟩,tt⟩
     ·simp only;split<;>omega
     ·simp only;split<;>omega
     ·simp only;split<;>omega
     ·simp only;split<;>omega
   ·have hj:j=a.it.length:=by omega
    rw[hj,List.drop_length,BT] at hch
    have hw:=BdG h0 hch.symm fun x _ hx=>Uc x hx
    rw[<- hch] at hA
    simp only at hA hw
    refine⟨fun hc=>?_,fun hc=>⟨a,⟨rfl,⟨rfl,fun _ _=>rfl⟩,⟨rfl,fun _ _=>rfl⟩,rfl,fun _ _=>rfl⟩,rfl,fun hq=>?_,fun hq=>?_⟩⟩
    ·rw[if_pos (.inl hc)] at hA
     rw[hA];exact⟨rfl,rfl⟩
    ·rw[if_pos (.inr (by omega))] at hA
     rw[hA];exact⟨rfl,rfl⟩
    ·rw[if_neg (by omega)] at hA
     rw[hA];exact⟨rfl,rfl⟩
theorem BaM:∀(a:Arr),a.ok->ACalls Try.prog 44 ((sRc Arr.row2 (fun _=>True) Mf).args a) ⟨[],[]⟩ (SpecR (sRc Arr.row2 (fun _=>True) Mf) a)
 |.mk k s n is,h=>by
  have h':=h
  simp only[Arr.ok] at h'
  obtain ⟨_,_,_,h1,h2,h3,h4⟩:=h'
  refine BcM (.mk k s n is) h ⟨h2,h3,h1⟩ fun b hb=>?_
  have hb':b∈is:=hb
  exact BaM b ((Cf _).1 h4 b hb')
termination_by a=>SizeOf.sizeOf a
decreasing_by
 have:=List.sizeOf_lt_of_mem hb'
 simp;omega
theorem BeA{k:Nat}{row:Arr->List D}{q q':Arr->Prop}{r:Arr->D}{b:Arr}(h:ACalls Try.prog k ((sRc row q r).args b) ⟨[],[]⟩ (SpecR (sRc row q r) b)):ACalls Try.prog k ((sRc row q' r).args b) ⟨[],[]⟩ (SpecR (sRc row q' r) b) :=
 h.mono fun _ _ ⟨y,h1,h2,h3⟩=>⟨y,h1,h2,h3⟩
def BcT(a:Arr):D:=.int .i64 (Bi a).1
def Bbr(a:Arr):Con:=fun k _ _=>match k with
 |44=>some (sRc Arr.row2 (fun b=>b=a) (fun b=>.tup [.int .i64 (Bi b).1,.int .i64 (Bi b).2.1]))
 |45=>some (sRc Arr.row1 (fun b=>b=a) (fun b=>.int .i64 (Bi b).1))
 |_=>none
theorem Bcb{a:Arr}(ha:a.ok):ConOk Try.prog (Bbr a):=by
 intro k ds S A h
 unfold Bbr at h
 split at h
 ·injection h with h;subst h
  refine ConOk.plain (fun b hb=>?_) rfl rfl
  have hb:b=a:=hb
  rw[hb]
  exact BeA (r:=Mf) (BaM a ha)
 ·injection h with h;subst h
  refine ConOk.plain (fun b hb=>?_) rfl rfl
  have hb:b=a:=hb
  rw[hb]
  exact (Mz a ha).mono fun _ _ ⟨y,h1,h2,h3⟩=>⟨(),trivial,h2,h3⟩
 ·cases h
noncomputable def Err(a:Arr):Senv:=EC (Bbr a) 11 5 [] (fun _=>([],[]))
def HE:Arr:=DA
def JH(a:Arr)(b:Nat):Arr:=List.getD (Arr.it a) b HE
def QfX(a:Arr)(b:Nat):List Int:=Arr.sh (JH a b)
def QfY(a:Arr)(b:Nat):List Int:=Arr.nu (JH a b)
def HF(a:Arr)(b:Nat):List Arr:=Arr.it (JH a b)
def HG(a:Arr)(b:Nat):List D:=[ZI (Arr.k (JH a b)),SI (QfX a b),SI (QfY a b),D.sl N4 (LN (HF a b)) (fun i=>Arr.row (List.getD (HF a b) i HE)) Mode.any]
theorem Bd3(a:Arr)(ha:a.ok):ACalls Try.prog 19 ((sRc Arr.row2 (fun _=>True) BcT).args a) ⟨[],[]⟩ (SpecR (sRc Arr.row2 (fun _=>True) BcT) a):=by
 refine Bh (A:=sRc Arr.row2 (fun _=>True) BcT) (x:=a) (E:=Err a) (eOk (Bcb ha) rfl) Try.func19 rfl (by kernel_rfl) rfl (by simp[sRc,Err,EC,E0]) ?_
 simp only[sRc,BcT]
 refine Bl (T :=
  ∀(x:Nat),True->SM x/\∃(x:Arr),((Arr.k a=Arr.k x/\(LN (Arr.sh a)=LN (Arr.sh x)/\(∀(i:Nat),i<LN (Arr.sh a)->[ZI (GI (Arr.sh a) i)]=[ZI (GI (Arr.sh x) i)])/\True)/\(LN (Arr.nu a)=LN (Arr.nu x)/\(∀(i:Nat),i<LN (Arr.nu a)->[ZI (GI (Arr.nu a) i)]=[ZI (GI (Arr.nu x) i)])/\True)/\(LN (Arr.it a)=LN (Arr.it x)/\(∀(i:Nat),i<LN (Arr.it a)->HG a i=HG x i)/\True)/\True)/\True)/\(True/\True)/\x=a/\∀(y:Unit),True->RT (Prod.fst (Bi x)=Prod.fst (Bi a))) (by kernel_rfl) ?_
 delta DA GI LN N1 N4 SI SM Z0 ZI HE JH QfX QfY HF HG RT
 simp only[and_true,exists_const]
 intro x _
 exact⟨trivial,a,⟨rfl,⟨rfl,fun _ _=>rfl⟩,⟨rfl,fun _ _=>rfl⟩,rfl,fun _ _=>rfl⟩,trivial,rfl,fun _ _=>⟨trivial,trivial,rfl⟩⟩
def _root_.Go.Ab.cellsO(os:List (Nat×Nat×AObj))(k:Nat):List D:=match Bx os k with
 |some (_,.cells ds)=>ds
 |_=>[]
theorem ACalls.wkEnd{P:Program}{k:FuncId}{ds:List D}{S:St}{R R':AEnd->St->Prop}(h:ACalls P k ds S R)(hr:∀r S',R r S'->∃r',(∀C e,RepEnd C r e->RepEnd C r' e)/\R' r' S'):ACalls P k ds S R' :=
 ⟨h.1,fun C F args w ha hs=>(h.2 C F args w ha hs).mono fun _ _ ⟨C',_r,S',h1,h2,h3,h4⟩=>let ⟨r',q0,q2⟩:=hr _ _ h4;⟨C',r',S',h1,h2,q0 _ _ h3,q2⟩⟩
theorem Bcc(a:Arr):wkL a.row1 a.row:=by
 cases a with
 |mk k s n is =>
  simp only[Arr.row,Arr.row1,Arr.k,Arr.sh,Arr.nu,Arr.it,gsl,isl,wkL,wkD,Bp,Ba]
  refine⟨⟨by simp[kEq],trivial⟩,⟨by simp,trivial,fun i _=>by simp[kEq],by simp[BJ]⟩,⟨by simp,trivial,fun i _=>by simp[kEq],by simp[BJ]⟩,⟨by simp,by simp[Cg],fun i hi=>?_,by simp[BJ]⟩,trivial⟩
  have:(Iv is).getD i []=(is.getD i default).row:=by
   rw[Cg];simp[List.getD_eq_getElem?_getD,hi]
  rw[this]
  exact Be _
theorem BaV{k:Int}{s:List Int}{nn ni:Nat}(h:By k s nn ni=0):s.length<=8:=by
 unfold By at h
 by_cases hk:k=1\/k=2\/k=3
 ·rw[if_pos hk] at h
  by_cases hd:B0 s≠0
  ·rw[if_pos hd] at h;exact (hd h).elim
  ·have hd:B0 s=0:=by simpa using hd
   unfold B0 at hd
   by_cases h8:8<s.length
   ·rw[if_pos h8] at hd;omega
   ·omega
 ·rw[if_neg hk] at h;omega
def _root_.Go.Ab.refKey:D->Nat
 |.ref k _ _=>k
 |_=>0
def _root_.Go.Ab.vkey(os:List (Nat×Nat×AObj))(k:Nat):Nat:=match cellsO os k with
 | [_,_,_,.vs kv _ _ _ _]=>kv
 |_=>0
def zrow:List D:=[.int .i64 0,.sl 1 0 (fun _=>[]) .nil,.sl 1 0 (fun _=>[]) .nil,.sl 1 0 (fun _=>[]) .nil]
def clR(its:List Arr)(i j:Nat):List D:=match Nat.blt j i with
 |true=>(its.getD j default).row1
 |false=>zrow
def sCl(row row':Arr->List D)(q:Arr->Prop):FnSpec where
 β:=Arr
 α:=Unit
 args:=fun a=>[.agg (row a)]
 st:=fun _=>⟨[],[]⟩
 pre:=q
 post:=fun _ _=>True
 res:=fun a _=>.ret (.agg (row' a))
 out:=fun _ _=>⟨[],[]⟩
def Rj(its:List Arr):Con:=fun k _ _=>match k with
 |54=>some (sCl Arr.row1 Arr.row1 (fun b=>b∈its))
 |_=>none
theorem MY{its:List Arr}{i j:Nat}(h:j<i):clR its i j=(its.getD j default).row1:=by
 unfold clR
 have:Nat.blt j i=true:=by simpa using h
 rw[this]
theorem BbH{its:List Arr}{i j:Nat}(h:¬j<i):clR its i j=zrow:=by
 unfold clR
 cases hb:Nat.blt j i with
 |false=>rfl
 |true=>exact (h (by simpa using hb)).elim
noncomputable def Ecl(a:Arr):Senv:={ EC (Rj a.it) 47 6 [32,33,34,35] (fun id=>match id with | 1=>([0,1,2,3,4,6,7,8,10,11,12,5,9,13,14,15,16],[5,9,13,15,16]) | 7=>([0,1,2,3,4,5,6],[4,6]) | _=>([],[])) with
 gz:=fun r=>match r with
  |9=>[.cell 17 1,.cell 17 2,.cell 17 3]
  |_=>[]
 cut:=fun id _ S=>match id with
  |1=>some { slots:=[3],keep:=[],α:=(Nat×Nat)×Nat×Nat,st:=fun y=>([.ref 17 y.2.2 0],⟨[(17,y.2.2,.cells [.int .i64 a.k,.vs 7 y.1.1 a.sh.length a.sh.length 1,.vs 11 y.1.2 a.nu.length a.nu.length 1,.vs 15 y.2.1 a.it.length a.it.length 4]),(15,y.2.1,.vec 4 a.it.length a.it.length (clR a.it 0)),(11,y.1.2,.vec 1 a.nu.length a.nu.length (fun _=>[.int .i64 0])),(7,y.1.1,.vec 1 a.sh.length a.sh.length (fun _=>[.int .i64 0]))]++S.objs,[]⟩),inv:=fun _=>True,mu:=fun _=>0 }
  |_=>none
 ann:=fun b env S=>match b with
  |0=>some { slots:=[34],keep:=[1,2,3,32,33],α:=Nat,st:=fun i=>([.int .i64 i],⟨ET S.objs (vkey S.objs (refKey (Ab.look env 3))) (.vec 4 a.it.length a.it.length (clR a.it i)),S.toks⟩),inv:=fun i=>i<=a.it.length,mu:=fun i=>a.it.length-i }
  |_=>none }
def Qz(a:Arr):Nat:=LN (Arr.sh a)
def Qb(a:Arr):Int:=(NI (Qz a))
def Qj(a:Arr):Int:=(8:Int)*Qb a
def QR(a:Arr):List Arr:=Arr.it a
def Qi(a:Arr):Nat:=LN (QR a)
def JI:Arr:=DA
def KU(a:Arr)(b:Nat):Arr:=List.getD (QR a) b JI
def QfZ(a:Arr)(b:Nat):List Int:=Arr.sh (KU a b)
def Qf0(a:Arr)(b:Nat):List Int:=Arr.nu (KU a b)
def HH(a:Arr)(b:Nat):List Arr:=Arr.it (KU a b)
def XI(a:Arr)(b:Nat):List D:=[ZI (Arr.k (KU a b)),SI (QfZ a b),SI (Qf0 a b),D.sl N4 (LN (HH a b)) (fun i=>Arr.row (List.getD (HH a b) i JI)) Mode.any]
def Qf1(a:Arr):D:=D.sl N4 (Qi a) (fun i=>XI a i) Mode.any
def HI(a:Arr):Prop:=SM (Qf1 a)
def Qn(a:Nat)(b:Arr):Prop:=SM a/\HI b
def QA(a:Arr):Nat:=LN (Arr.nu a)
def JJ(a:Arr)(b:Nat):List D:=[ZI (GI (Arr.nu a) b)]
def HJ(a:Arr):D:=D.sl N1 (QA a) (fun i=>JJ a i) Mode.any
def Qo(a:Nat)(b:Arr):Prop:=SM a/\SM (HJ b)
def XJ(a:Arr):Int:=Arr.k a
def HK(a:Arr):D:=ZI (XJ a)
def Qe(a:Nat)(b:Arr):Prop:=SM a/\SM (HK b)
def Qd(a:Arr):Int:=(NI (QA a))
def Qk(a:Arr):Int:=(8:Int)*Qd a
def Qs(a b c d:Nat):Prop:=a≠b/\c≠b/\d≠b/\True
def Qa(a:Arr):Int:=(NI (Qi a))
def Ql(a:Arr):Int:=(80:Int)*Qa a
def Qf(a b c d e:Nat):Prop:=a≠b/\Qs c b d e
def Qg(a b c d e f:Nat):Prop:=a≠b/\Qf c b d e f
def JK(a:Arr):Prop:=SM (XJ a)
def JL(a:Arr):Prop:=Int.toNat (Qb a)=Qz a
def JM(a:Arr):Prop:=Int.toNat (Qd a)=QA a
def JN(a:Arr):Prop:=Int.toNat (Qa a)=Qi a
def XK:D:=D.sl N1 N0 (fun _x=>[]) Mode.nil
def HL:Prop:=SM [ZI Z0]
def XL:Prop:=SM N0/\(∀(i:Nat),i<N0->Es (List D) [] [])/\True
def Ka(a:Arr):Prop:=SM (Qz a)
def JO(a:Arr)(b:Nat):List D:=[ZI (GI (Arr.sh a) b)]
def HM(a:Arr):Prop:=∀(i:Nat),i<Qz a->SM (JO a i)
def HN(a:Arr):Prop:=Ka a/\HM a/\True
def Kb(a:Arr):Prop:=SM (QA a)
def HO(a:Arr):Prop:=∀(i:Nat),i<QA a->SM (JJ a i)
def HP(a:Arr):Prop:=Kb a/\HO a/\True
def QM(a:Arr):Prop:=SM (Qi a)
def KV(a:Nat)(b:Arr):Prop:=a<Qi b
def HQ(a b:Nat)(c:Arr):Prop:=SM a/\(SM Z0/\XL/\XL/\XL/\True)/\SM b/\(JK c/\HN c/\HP c/\(QM c/\(∀(i:Nat),KV i c->SM (XI c i))/\True)/\True)/\True
def Qh(a:Nat)(b:Arr)(c d e f g:Nat):Prop:=Qe a b/\SM c/\∃(x:(Nat×Nat)×Nat×Nat),True/\(c=x.2.2/\True)/\(c=x.2.2/\(JK b/\(d=x.1.1/\JL b/\JL b)/\(e=x.1.2/\JM b/\JM b)/\(f=x.2.1/\JN b/\JN b)/\True)/\f=x.2.1/\(JN b/\JN b/\∀(i:Nat),i<Int.toNat (Qa b)->[ZI Z0,XK,XK,XK]=clR (QR b) N0 i)/\e=x.1.2/\(JM b/\JM b/\∀(i:Nat),i<Int.toNat (Qd b)->HL)/\d=x.1.1/\(JL b/\JL b/\∀(i:Nat),i<Int.toNat (Qb b)->HL)/\HQ g a b)/\True
def HR(a:Arr):D:=D.sl N1 (Qz a) (fun i=>JO a i) Mode.any
def Qp(a:Nat)(b:Arr):Prop:=SM a/\SM (HR b)
def HS(a:Arr)(b c d:Nat):Prop:=JK a/\(SM b/\Ka a/\Ka a)/\(SM c/\Kb a/\Kb a)/\(SM d/\QM a/\QM a)/\True
def JP(a:Arr)(b c:Nat):List D:=clR (QR a) b c
def HT(a:Nat)(b:Arr)(c d e:Nat):Prop:=SM a/\(Kb b/\Kb b/\HO b)/\SM c/\(Ka b/\Ka b/\HM b)/\HQ d e b
def JQ(a:Arr)(b:Nat):Arr:=List.getD (QR a) (Int.toNat (↑b:Int)) JI
def HU(a:Arr)(b:Nat):List Int:=Arr.sh (JQ a b)
def HV(a:Arr)(b:Nat):Nat:=LN (HU a b)
def HW(a:Arr)(b:Nat):List Int:=Arr.nu (JQ a b)
def HX(a:Arr)(b:Nat):Nat:=LN (HW a b)
def HY(a:Arr)(b:Nat):List Arr:=Arr.it (JQ a b)
def HZ(a:Arr)(b:Nat):Nat:=LN (HY a b)
def H1(a:Arr)(b:Nat):List D:=Arr.row (KU a b)
def Qf2(a:Nat)(b:Arr):D:=D.vs (15:Nat) a (Qi b) (Qi b) N4
def XM(a:D):Bool:=match a with | D.unk=>false | D.agg _cs=>false | D.tup _ds=>false | _x=>true
theorem Bc4(a : Arr)(ha : a.nu.length<=1000000 /\ a.it.length<=1000000 /\ a.sh.length<=1000000)(hc : ConOk Try.prog (Rj a.it)) :
  ACalls Try.prog 54 ((sCl Arr.row2 Arr.row2 (fun _=>True)).args a) ⟨[],[]⟩ (SpecR (sCl Arr.row2 Arr.row2 (fun _=>True)) a):=by
 refine Bh (A:=sCl Arr.row2 Arr.row2 (fun _=>True)) (x:=a) (E:=Ecl a) (eOk hc rfl) Try.func54 rfl (by kernel_rfl) rfl (by simp[sCl,Ecl,EC,E0]) ?_
 refine Bl (T :=
  ∀(x:Nat),True->∀(x_1:Nat),x≠x_1/\True->(SM x/\SM x/\SM x/\SM x/\Bd (Z0<=Qb a/\Qb a<=Qb a/\Qj a<=281474976710656/\Qb a<=9223372036854775807) (∀(x_2:Nat),x_1≠x_2/\x≠x_2/\True->Qn x a/\Qo x a/\Qe x a/\Bd (Z0<=Qd a/\Qd a<=Qd a/\Qk a<=281474976710656/\Qd a<=9223372036854775807) (∀(x_3:Nat),Qs x_2 x_3 x_1 x->Qn x a/\Qe x a/\Bd (Z0<=Qa a/\Qa a<=Qa a/\Ql a<=281474976710656/\Qa a<=9223372036854775807) (∀(x_4:Nat),Qf x_3 x_4 x_2 x_1 x->Qe x a/\∀(x_5:Nat),Qg x_4 x_5 x_3 x_2 x_1 x->Qh x a x_5 x_2 x_3 x_4 x_1)/\∀(x_4:Nat),Qf x_3 x_4 x_2 x_1 x->Qn x a/\Qe x a/\Bd (Z0<=Qa a/\Qa a<=Qa a/\Ql a<=281474976710656/\Qa a<=9223372036854775807) (∀(x_5:Nat),Qg x_4 x_5 x_3 x_2 x_1 x->Qh x a x_4 x_2 x_3 x_5 x_1))/\Bd (Z0<=Qa a/\Qa a<=Qa a/\Ql a<=281474976710656/\Qa a<=9223372036854775807) (∀(x_3:Nat),Qs x_2 x_3 x_1 x->Qo x a/\Qe x a/\Bd (Z0<=Qd a/\Qd a<=Qd a/\Qk a<=281474976710656/\Qd a<=9223372036854775807) (∀(x_4:Nat),Qf x_3 x_4 x_2 x_1 x->Qe x a/\∀(x_5:Nat),Qg x_4 x_5 x_3 x_2 x_1 x->Qh x a x_5 x_2 x_4 x_3 x_1)/\∀(x_4:Nat),Qf x_3 x_4 x_2 x_1 x->Qo x a/\Qe x a/\Bd (Z0<=Qd a/\Qd a<=Qd a/\Qk a<=281474976710656/\Qd a<=9223372036854775807) (∀(x_5:Nat),Qg x_4 x_5 x_3 x_2 x_1 x->Qh x a x_4 x_2 x_5 x_3 x_1))/\∀(x_3:Nat),Qs x_2 x_3 x_1 x->Qn x a/\Qo x a/\Qe x a/\Bd (Z0<=Qd a/\Qd a<=Qd a/\Qk a<=281474976710656/\Qd a<=9223372036854775807) (∀(x_4:Nat),Qf x_3 x_4 x_2 x_1 x->Qn x a/\Qe x a/\Bd (Z0<=Qa a/\Qa a<=Qa a/\Ql a<=281474976710656/\Qa a<=9223372036854775807) (∀(x_5:Nat),Qg x_4 x_5 x_3 x_2 x_1 x->Qh x a x_3 x_2 x_4 x_5 x_1))/\Bd (Z0<=Qa a/\Qa a<=Qa a/\Ql a<=281474976710656/\Qa a<=9223372036854775807) (∀(x_4:Nat),Qf x_3 x_4 x_2 x_1 x->Qo x a/\Qe x a/\Bd (Z0<=Qd a/\Qd a<=Qd a/\Qk a<=281474976710656/\Qd a<=9223372036854775807) (∀(x_5:Nat),Qg x_4 x_5 x_3 x_2 x_1 x->Qh x a x_3 x_2 x_5 x_4 x_1)))/\Bd (Z0<=Qd a/\Qd a<=Qd a/\Qk a<=281474976710656/\Qd a<=9223372036854775807) (∀(x_2:Nat),x_1≠x_2/\x≠x_2/\True->Qn x a/\Qp x a/\Qe x a/\Bd (Z0<=Qb a/\Qb a<=Qb a/\Qj a<=281474976710656/\Qb a<=9223372036854775807) (∀(x_3:Nat),Qs x_2 x_3 x_1 x->Qn x a/\Qe x a/\Bd (Z0<=Qa a/\Qa a<=Qa a/\Ql a<=281474976710656/\Qa a<=9223372036854775807) (∀(x_4:Nat),Qf x_3 x_4 x_2 x_1 x->Qe x a/\∀(x_5:Nat),Qg x_4 x_5 x_3 x_2 x_1 x->Qh x a x_5 x_3 x_2 x_4 x_1)/\∀(x_4:Nat),Qf x_3 x_4 x_2 x_1 x->Qn x a/\Qe x a/\Bd (Z0<=Qa a/\Qa a<=Qa a/\Ql a<=281474976710656/\Qa a<=9223372036854775807) (∀(x_5:Nat),Qg x_4 x_5 x_3 x_2 x_1 x->Qh x a x_4 x_3 x_2 x_5 x_1))/\Bd (Z0<=Qa a/\Qa a<=Qa a/\Ql a<=281474976710656/\Qa a<=9223372036854775807) (∀(x_3:Nat),Qs x_2 x_3 x_1 x->Qp x a/\Qe x a/\Bd (Z0<=Qb a/\Qb a<=Qb a/\Qj a<=281474976710656/\Qb a<=9223372036854775807) (∀(x_4:Nat),Qf x_3 x_4 x_2 x_1 x->Qe x a/\∀(x_5:Nat),Qg x_4 x_5 x_3 x_2 x_1 x->Qh x a x_5 x_4 x_2 x_3 x_1)/\∀(x_4:Nat),Qf x_3 x_4 x_2 x_1 x->Qp x a/\Qe x a/\Bd (Z0<=Qb a/\Qb a<=Qb a/\Qj a<=281474976710656/\Qb a<=9223372036854775807) (∀(x_5:Nat),Qg x_4 x_5 x_3 x_2 x_1 x->Qh x a x_4 x_5 x_2 x_3 x_1))/\∀(x_3:Nat),Qs x_2 x_3 x_1 x->Qn x a/\Qp x a/\Qe x a/\Bd (Z0<=Qb a/\Qb a<=Qb a/\Qj a<=281474976710656/\Qb a<=9223372036854775807) (∀(x_4:Nat),Qf x_3 x_4 x_2 x_1 x->Qn x a/\Qe x a/\Bd (Z0<=Qa a/\Qa a<=Qa a/\Ql a<=281474976710656/\Qa a<=9223372036854775807) (∀(x_5:Nat),Qg x_4 x_5 x_3 x_2 x_1 x->Qh x a x_3 x_4 x_2 x_5 x_1))/\Bd (Z0<=Qa a/\Qa a<=Qa a/\Ql a<=281474976710656/\Qa a<=9223372036854775807) (∀(x_4:Nat),Qf x_3 x_4 x_2 x_1 x->Qp x a/\Qe x a/\Bd (Z0<=Qb a/\Qb a<=Qb a/\Qj a<=281474976710656/\Qb a<=9223372036854775807) (∀(x_5:Nat),Qg x_4 x_5 x_3 x_2 x_1 x->Qh x a x_3 x_5 x_2 x_4 x_1)))/\Bd (Z0<=Qa a/\Qa a<=Qa a/\Ql a<=281474976710656/\Qa a<=9223372036854775807) (∀(x_2:Nat),x_1≠x_2/\x≠x_2/\True->Qo x a/\Qp x a/\Qe x a/\Bd (Z0<=Qb a/\Qb a<=Qb a/\Qj a<=281474976710656/\Qb a<=9223372036854775807) (∀(x_3:Nat),Qs x_2 x_3 x_1 x->Qo x a/\Qe x a/\Bd (Z0<=Qd a/\Qd a<=Qd a/\Qk a<=281474976710656/\Qd a<=9223372036854775807) (∀(x_4:Nat),Qf x_3 x_4 x_2 x_1 x->Qe x a/\∀(x_5:Nat),Qg x_4 x_5 x_3 x_2 x_1 x->Qh x a x_5 x_3 x_4 x_2 x_1)/\∀(x_4:Nat),Qf x_3 x_4 x_2 x_1 x->Qo x a/\Qe x a/\Bd (Z0<=Qd a/\Qd a<=Qd a/\Qk a<=281474976710656/\Qd a<=9223372036854775807) (∀(x_5:Nat),Qg x_4 x_5 x_3 x_2 x_1 x->Qh x a x_4 x_3 x_5 x_2 x_1))/\Bd (Z0<=Qd a/\Qd a<=Qd a/\Qk a<=281474976710656/\Qd a<=9223372036854775807) (∀(x_3:Nat),Qs x_2 x_3 x_1 x->Qp x a/\Qe x a/\Bd (Z0<=Qb a/\Qb a<=Qb a/\Qj a<=281474976710656/\Qb a<=9223372036854775807) (∀(x_4:Nat),Qf x_3 x_4 x_2 x_1 x->Qe x a/\∀(x_5:Nat),Qg x_4 x_5 x_3 x_2 x_1 x->Qh x a x_5 x_4 x_3 x_2 x_1)/\∀(x_4:Nat),Qf x_3 x_4 x_2 x_1 x->Qp x a/\Qe x a/\Bd (Z0<=Qb a/\Qb a<=Qb a/\Qj a<=281474976710656/\Qb a<=9223372036854775807) (∀(x_5:Nat),Qg x_4 x_5 x_3 x_2 x_1 x->Qh x a x_4 x_5 x_3 x_2 x_1))/\∀(x_3:Nat),Qs x_2 x_3 x_1 x->Qo x a/\Qp x a/\Qe x a/\Bd (Z0<=Qb a/\Qb a<=Qb a/\Qj a<=281474976710656/\Qb a<=9223372036854775807) (∀(x_4:Nat),Qf x_3 x_4 x_2 x_1 x->Qo x a/\Qe x a/\Bd (Z0<=Qd a/\Qd a<=Qd a/\Qk a<=281474976710656/\Qd a<=9223372036854775807) (∀(x_5:Nat),Qg x_4 x_5 x_3 x_2 x_1 x->Qh x a x_3 x_4 x_5 x_2 x_1))/\Bd (Z0<=Qd a/\Qd a<=Qd a/\Qk a<=281474976710656/\Qd a<=9223372036854775807) (∀(x_4:Nat),Qf x_3 x_4 x_2 x_1 x->Qp x a/\Qe x a/\Bd (Z0<=Qb a/\Qb a<=Qb a/\Qj a<=281474976710656/\Qb a<=9223372036854775807) (∀(x_5:Nat),Qg x_4 x_5 x_3 x_2 x_1 x->Qh x a x_3 x_5 x_4 x_2 x_1)))/\∀(x_2:Nat),x_1≠x_2/\x≠x_2/\True->Qn x a/\Qo x a/\Qp x a/\Qe x a/\Bd (Z0<=Qb a/\Qb a<=Qb a/\Qj a<=281474976710656/\Qb a<=9223372036854775807) (∀(x_3:Nat),Qs x_2 x_3 x_1 x->Qn x a/\Qo x a/\Qe x a/\Bd (Z0<=Qd a/\Qd a<=Qd a/\Qk a<=281474976710656/\Qd a<=9223372036854775807) (∀(x_4:Nat),Qf x_3 x_4 x_2 x_1 x->Qn x a/\Qe x a/\Bd (Z0<=Qa a/\Qa a<=Qa a/\Ql a<=281474976710656/\Qa a<=9223372036854775807) (∀(x_5:Nat),Qg x_4 x_5 x_3 x_2 x_1 x->Qh x a x_2 x_3 x_4 x_5 x_1))/\Bd (Z0<=Qa a/\Qa a<=Qa a/\Ql a<=281474976710656/\Qa a<=9223372036854775807) (∀(x_4:Nat),Qf x_3 x_4 x_2 x_1 x->Qo x a/\Qe x a/\Bd (Z0<=Qd a/\Qd a<=Qd a/\Qk a<=281474976710656/\Qd a<=9223372036854775807) (∀(x_5:Nat),Qg x_4 x_5 x_3 x_2 x_1 x->Qh x a x_2 x_3 x_5 x_4 x_1)))/\Bd (Z0<=Qd a/\Qd a<=Qd a/\Qk a<=281474976710656/\Qd a<=9223372036854775807) (∀(x_3:Nat),Qs x_2 x_3 x_1 x->Qn x a/\Qp x a/\Qe x a/\Bd (Z0<=Qb a/\Qb a<=Qb a/\Qj a<=281474976710656/\Qb a<=9223372036854775807) (∀(x_4:Nat),Qf x_3 x_4 x_2 x_1 x->Qn x a/\Qe x a/\Bd (Z0<=Qa a/\Qa a<=Qa a/\Ql a<=281474976710656/\Qa a<=9223372036854775807) (∀(x_5:Nat),Qg x_4 x_5 x_3 x_2 x_1 x->Qh x a x_2 x_4 x_3 x_5 x_1))/\Bd (Z0<=Qa a/\Qa a<=Qa a/\Ql a<=281474976710656/\Qa a<=9223372036854775807) (∀(x_4:Nat),Qf x_3 x_4 x_2 x_1 x->Qp x a/\Qe x a/\Bd (Z0<=Qb a/\Qb a<=Qb a/\Qj a<=281474976710656/\Qb a<=9223372036854775807) (∀(x_5:Nat),Qg x_4 x_5 x_3 x_2 x_1 x->Qh x a x_2 x_5 x_3 x_4 x_1)))/\Bd (Z0<=Qa a/\Qa a<=Qa a/\Ql a<=281474976710656/\Qa a<=9223372036854775807) (∀(x_3:Nat),Qs x_2 x_3 x_1 x->Qo x a/\Qp x a/\Qe x a/\Bd (Z0<=Qb a/\Qb a<=Qb a/\Qj a<=281474976710656/\Qb a<=9223372036854775807) (∀(x_4:Nat),Qf x_3 x_4 x_2 x_1 x->Qo x a/\Qe x a/\Bd (Z0<=Qd a/\Qd a<=Qd a/\Qk a<=281474976710656/\Qd a<=9223372036854775807) (∀(x_5:Nat),Qg x_4 x_5 x_3 x_2 x_1 x->Qh x a x_2 x_4 x_5 x_3 x_1))/\Bd (Z0<=Qd a/\Qd a<=Qd a/\Qk a<=281474976710656/\Qd a<=9223372036854775807) (∀(x_4:Nat),Qf x_3 x_4 x_2 x_1 x->Qp x a/\Qe x a/\Bd (Z0<=Qb a/\Qb a<=Qb a/\Qj a<=281474976710656/\Qb a<=9223372036854775807) (∀(x_5:Nat),Qg x_4 x_5 x_3 x_2 x_1 x->Qh x a x_2 x_5 x_4 x_3 x_1))))/\∀(x_2:(Nat×Nat)×Nat×Nat),True->SM x_2.2.2/\SM x/\SM x_2.1.1/\Qz a<=Qz a/\Ka a/\SM x_2.2.2/\SM x/\SM x_2.1.2/\QA a<=QA a/\Kb a/\SM x/\(∃(x_3:Nat),x_3<=Qi a/\(Z0=(↑x_3:Int)/\True)/\(SM x_2.2.2/\HS a x_2.1.1 x_2.1.2 x_2.2.1/\SM x_2.2.1/\(QM a/\QM a/\∀(i:Nat),KV i a->clR (QR a) N0 i=JP a x_3 i)/\HT x_2.1.2 a x_2.1.1 x_1 x)/\True)/\∀(x_3:Nat),x_3<=Qi a->ifB (decide ((↑x_3:Int)<Qa a)) (Bd (Z0<=(↑x_3:Int)/\(↑x_3:Int)<Qa a) (∀(x_4:Nat),x_2.2.2≠x_4/\Qg x_2.2.1 x_4 x_2.1.2 x_2.1.1 x_1 x->SM x_4/\SM x_2.2.2/\SM x_4/\∃(x_5:Arr),((Arr.k (JQ a x_3)=XJ x_5/\(HV a x_3=Qz x_5/\(∀(i:Nat),i<HV a x_3->[ZI (GI (HU a x_3) i)]=JO x_5 i)/\True)/\(HX a x_3=QA x_5/\(∀(i:Nat),i<HX a x_3->[ZI (GI (HW a x_3) i)]=JJ x_5 i)/\True)/\(HZ a x_3=Qi x_5/\(∀(i:Nat),i<HZ a x_3->Arr.row (List.getD (HY a x_3) i JI)=H1 x_5 i)/\True)/\True)/\True)/\(True/\True)/\x_5∈QR a/\∀(y:Unit),True->(SM x_2.2.2/\SM (Qf2 x_2.2.1 a))/\Bd (Z0<=(↑x_3:Int)/\(↑x_3:Int)<Qa a) (SM x_2.2.1/\Bd (Int.toNat (↑x_3:Int)<Qi a) ((SM (D.ref N0 x N0)/\SM (D.ref (max (N0+N1) N0) x_1 N0)/\SM (D.ref (17:Nat) x_2.2.2 N0)/\HI a/\SM (ZI (Qa a))/\True)/\∃(y:Nat),y<=Qi a/\Qi a-y<Qi a-x_3/\(IntKind.wrap IntKind.i64 ((↑x_3:Int)+Z1)=(↑y:Int)/\True)/\(SM x_2.2.2/\HS a x_2.1.1 x_2.1.2 x_2.2.1/\SM x_2.2.1/\(QM a/\QM a/\∀(i:Nat),KV i a->IH (clR (QR a) x_3) (Int.toNat (↑x_3:Int)) [HK x_5,HR x_5,HJ x_5,D.sl N4 (Qi x_5) (fun i=>H1 x_5 i) Mode.any] i=JP a y i)/\HT x_2.1.2 a x_2.1.1 x_1 x)/\True)))) (SM x_2.1.1/\Ka a/\Bd (Qz a<=Qz a) ((∀(i:Nat),i<Qz a->(List.all (JO a i) fun (x:D)=>XM x)=true)/\∀(t:Nat),SM x_2.1.2/\Kb a/\Bd (QA a<=QA a) ((∀(i:Nat),i<QA a->(List.all (JJ a i) fun (x:D)=>XM x)=true)/\∀(t:Nat),SM x_2.2.1/\QM a/\Bd (Qi a<=Qi a) ((∀(i:Nat),KV i a->(List.all (JP a x_3 i) fun (x:D)=>XM x)=true)/\∀(t:Nat),SM x_2.2.2/\SM x_1/\(SM x_1/\True)/\∃(y:Unit),True/\(JK a/\HN a/\HP a/\(QM a/\(∀(i:Nat),KV i a->JP a x_3 i=XI a i)/\True)/\True)/\True/\True))))) (by kernel_rfl) ?_
 delta DA GI LN N0 N1 N4 NI SI SM Z0 Z1 ZI Qz Qb XI Qf1 HI Qn QA JJ HJ Qo XJ HK Qj Qe Qd Qk Qs Qa Ql Qf Qg JK JL QR JM JN XK HL XL Ka JO HM HN Kb Qi HO HP QM KV HQ Qh HR Qp HS JP JI HT JQ HU HV HW HX HY HZ H1 Qf2 KU XM QfZ Qf0 HH
 have da:(default:Arr)=Arr.mk 0 [] [] []:=rfl
 simp only[<- da,eq_self,implies_true,Int.toNat_natCast,Bj,Bc,decide_eq_true_eq,decide_eq_false_iff_not,true_and,and_true,exists_const,forall_const,Nat.le_refl]
 obtain ⟨l1,l2,l3⟩:=ha
 refine fun x x1 hx=>⟨?_,?_⟩
 ·repeat' (first | (refine⟨((_,_),_,_),rfl,rfl,⟨rfl,rfl,rfl⟩,rfl,fun _ _=>rfl,rfl,rfl⟩) | (refine And.intro ?_ ?_) | intro _ | omega)
 refine fun y=>⟨⟨0,Nat.zero_le _,rfl,fun _ _=>rfl⟩,fun i hi=>⟨fun hlt=>⟨⟨by omega,hlt⟩,fun x4 _=>⟨a.it.getD i default,⟨rfl,⟨rfl,fun _ _=>rfl⟩,⟨rfl,fun _ _=>rfl⟩,rfl,fun _ _=>rfl⟩,CI (by omega),⟨by omega,hlt⟩,by omega,i+1,by omega,by omega,Bb (by omega) (by omega),fun j hj=>?_⟩⟩,fun hge=>⟨fun _ _=>rfl,fun _ _=>rfl,fun j hj=>?_,fun j hj=>?_⟩⟩⟩
 ·by_cases e:j=i
  ·subst e
   rw[MY (by omega)]
   simp only[IH,if_true]
   rfl
  ·simp only[IH,e,if_false]
   by_cases e2:j<i
   ·rw[MY e2,MY (by omega)]
   ·rw[BbH e2,BbH (by omega)]
 ·rw[MY (by omega)];rfl
 ·rw[MY (by omega)];rfl
theorem O7(a:Arr):wkL a.row2 a.row1:=by
 simp only[Arr.row1,Arr.row2,gsl,isl,wkL,wkD,Bp,Ba]
 exact⟨⟨by simp[kEq],trivial⟩,⟨by simp,trivial,fun i _=>by simp[kEq],by simp[BJ]⟩,⟨by simp,trivial,fun i _=>by simp[kEq],by simp[BJ]⟩,⟨by simp,trivial,fun i _=>Bcc _,by simp[BJ]⟩,trivial⟩
theorem Tg:∀(l:List Arr) (d w:Int) (r:Int×Int),BT l d w=some r->∀x∈l,(Bi x).1=0
 | [],_,_,_,_,x,hx=>by cases hx
 |y::l,d,w,r,h,x,hx=>by
  rw[BT] at h
  split at h
  ·cases h
  ·rename_i hy
   rcases List.mem_cons.1 hx with rfl | hx
   ·simpa using hy
   ·exact Tg l _ _ r h x hx
theorem I3{k:Int}{s n:List Int}{is:List Arr}(h:(Bi (.mk k s n is)).1=0):s.length<=8/\n.length<=65536/\is.length<=65536/\∀x∈is,(Bi x).1=0:=by
 rw[Bi] at h
 by_cases h0:By k s n.length is.length≠0
 ·rw[if_pos h0] at h;exact (h0 h).elim
 ·rw[if_neg h0] at h
  have h0:By k s n.length is.length=0:=by simpa using h0
  have hs:=Et h0
  refine⟨BaV h0,hs.1,hs.2,?_⟩
  by_cases hb:n.any (CM k)=true
  ·rw[if_pos hb] at h;simp at h
  ·rw[if_neg hb] at h
   cases hr:BT is 0 ((n.length:Int)+is.length) with
   |none=>rw[hr] at h;simp at h
   |some r=>exact Tg _ _ _ r hr
theorem WP:∀(a:Arr),(Bi a).1=0->ACalls Try.prog 54 [.agg a.row1] ⟨[],[]⟩ (SpecR (sCl Arr.row1 Arr.row1 (fun _=>True)) a)
 |.mk k s n is,h=>by
  obtain ⟨h1,h2,h3,h4⟩:=I3 h
  have hc:ConOk Try.prog (Rj (Arr.mk k s n is).it):=by
   intro k' ds S A hk
   unfold Rj at hk
   split at hk
   ·injection hk with hk;subst hk
    refine ConOk.plain (fun (b:Arr) hb=>?_) rfl rfl
    have hb':b∈is:=hb
    exact (WP b (h4 b hb')).mono fun _ _ ⟨y,q1,q2,q3⟩=>⟨y,q1,q2,q3⟩
   ·cases hk
  have hm:=Bc4 (.mk k s n is) ⟨by show n.length<=_;omega,by show is.length<=_;omega,by show s.length<=_;omega⟩ hc
  have hm2:ACalls Try.prog 54 [.agg (Arr.mk k s n is).row1] ⟨[],[]⟩ (SpecR (sCl Arr.row2 Arr.row2 (fun _=>True)) (.mk k s n is)):=by
   refine ACalls.wkArgs hm ?_
   simp only[sCl,wkL,wkD]
   exact⟨CE _,trivial⟩
  refine ACalls.wkEnd hm2 fun r S' ⟨y,q1,q2,q3⟩=>?_
  subst q2 q3
  refine⟨.ret (.agg (Arr.mk k s n is).row1),fun C e he=>?_,⟨(),trivial,rfl,rfl⟩⟩
  cases e with
  |returned v =>
   refine EW (.agg (Arr.mk k s n is).row2) _ ?_ C v he
   simp only[wkD]
   exact O7 _
  |panicked _=>exact he.elim
  |outgrown=>exact he.elim
termination_by a=>SizeOf.sizeOf a
decreasing_by
 have:=List.sizeOf_lt_of_mem hb'
 simp;omega
def pzL:List Int->Nat
 | []=>1
 |d::r=>if d=0 then pzL r else d.toNat*pzL r
theorem BbE:∀l:List Int,(∀d∈l,0<=d)->1<=pzL l
 | [],_=>Nat.le_refl _
 |d::r,h=>by
  have h1:=BbE r fun x hx=>h x (by simp[hx])
  have h2:=h d (by simp)
  rw[pzL]
  split
  ·exact h1
  ·exact Nat.mul_pos (by omega) h1
theorem Ih:∀(l:List Int) (p:Nat) (q:Int),1<=p->p<=65536->(goO l p=some q↔(∀d∈l,0<=d/\d<=65536)/\p*pzL l<=65536/\q=((p*pzL l:Nat):Int))
 | [],p,q,h1,h2=>by
  simp only[goO,pzL,Nat.mul_one,Option.some.injEq]
  constructor
  ·rintro rfl;exact⟨fun _ h=>(nomatch h),h2,rfl⟩
  ·rintro ⟨_,_,h⟩;exact h.symm
 |d::r,p,q,h1,h2=>by
  rw[goO]
  by_cases hd:d<0\/65536<d
  ·rw[if_pos hd]
   constructor
   ·intro h;cases h
   ·rintro ⟨h,_⟩
    have:=h d (by simp)
    omega
  ·rw[if_neg hd]
   by_cases h0:d=0
   ·rw[if_pos h0,Ih r p q h1 h2,pzL,if_pos h0]
    simp only[List.forall_mem_cons]
    constructor
    ·rintro ⟨a,b⟩;exact⟨⟨by omega,a⟩,b⟩
    ·rintro ⟨⟨_,a⟩,b⟩;exact⟨a,b⟩
   ·rw[if_neg h0]
    have e:(p:Int)*d=((p*d.toNat:Nat):Int):=by
     rw[Int.natCast_mul,Int.toNat_of_nonneg (by omega)]
    rw[e,pzL,if_neg h0,<- Nat.mul_assoc]
    by_cases hb:65536<((p*d.toNat:Nat):Int)
    ·rw[if_pos hb]
     constructor
     ·intro h;cases h
     ·rintro ⟨a,b,_⟩
      have:=BbE r fun x hx=>(a x (by simp[hx])).1
      have:p*d.toNat*1<=p*d.toNat*pzL r:=Nat.mul_le_mul_left _ this
      omega
    ·rw[if_neg hb,Ih r (p*d.toNat) q (Nat.mul_pos h1 (by omega)) (by omega)]
     simp only[List.forall_mem_cons]
     constructor
     ·rintro ⟨a,b⟩;exact⟨⟨by omega,a⟩,b⟩
     ·rintro ⟨⟨_,a⟩,b⟩;exact⟨a,b⟩
theorem Bv(l:List Int):Bu l=true↔l.length<=8/\(∀d∈l,0<=d/\d<=65536)/\pzL l<=65536:=by
 unfold Bu
 rw[Bool.and_eq_true,decide_eq_true_iff,Option.isSome_iff_exists]
 have h:=fun q=>Ih l 1 q (Nat.le_refl 1) (by omega)
 simp only[Nat.one_mul] at h
 constructor
 ·rintro ⟨h1,q,hq⟩
  obtain ⟨a,b,_⟩:=(h q).1 hq
  exact⟨h1,a,b⟩
 ·rintro ⟨h1,a,b⟩
  exact⟨h1,_,(h _).2 ⟨a,b,rfl⟩⟩
def shN(l:List Int):List Nat:=l.map Int.toNat
theorem BbA:∀ {l:List Int},(∀d∈l,0<=d)->(l.contains 0=false)->pzL l=prL (shN l)
 | [],_,_=>rfl
 |d::r,h,hc=>by
  simp only[List.contains_cons,Bool.or_eq_false_iff,beq_eq_false_iff_ne] at hc
  have hd:d≠0:=fun e=>hc.1 e.symm
  rw[pzL,if_neg hd,BbA (fun x hx=>h x (by simp[hx])) hc.2]
  rfl
theorem T9:∀ {l:List Int},l.contains 0=true->prL (shN l)=0
 |d::r,h=>by
  rw[List.contains_cons,Bool.or_eq_true,beq_iff_eq] at h
  show d.toNat*prL (shN r)=0
  rcases h with h | h
  ·rw[<- h];simp
  ·rw[T9 h,Nat.mul_zero]
theorem Io{l:List Int}(h:Bu l=true):BW l=(prL (shN l):Nat):=by
 obtain ⟨h1,h2,h3⟩:=(Bv l).1 h
 unfold BW
 cases hc:l.contains 0 with
 |true=>rw[if_pos rfl,T9 hc];rfl
 |false =>
  have h4:=(Ih l 1 _ (Nat.le_refl 1) (by omega)).2 ⟨h2,by simpa using h3,rfl⟩
  have h5:goO l 1=some ((pzL l:Nat):Int):=by simpa using h4
  rw[h5,BbA (fun d hd=>(h2 d hd).1) hc]
  simp
theorem ML:∀ {l l':List Arr},l'.Sublist l->∀ {d w d' w':Int} {r:Int×Int},BT l d w=some r->d'<=d->w'<=w->w<=262145->∃r',BT l' d' w'=some r'/\r'.1<=r.1/\r'.2<=r.2
 |_,_,.slnil,d,w,d',w',r,h,hd,hw,_=>by
  rw[BT] at h;injection h with h;subst h
  exact⟨(d',w'),by rw[BT],hd,hw⟩
 |_,_,.cons x s,d,w,d',w',r,h,hd,hw,hb=>by
  rw[BT] at h
  have hx:=Cb x
  split at h
  ·cases h
  ·refine ML s h ?_ ?_ ?_
   ·split<;>omega
   ·split<;>omega
   ·split<;>omega
 |_,_,.cons_cons x s,d,w,d',w',r,h,hd,hw,hb=>by
  rw[BT] at h ⊢
  have hx:=Cb x
  split at h
  ·cases h
  ·rename_i h0
   rw[if_neg h0]
   refine ML s h ?_ ?_ ?_
   ·split<;>split<;>omega
   ·split<;>split<;>omega
   ·split<;>omega
theorem Bca{k:Int}{s s' nu nu':List Int}{it it':List Arr}(h:(Bi (.mk k s nu it)).1=0)(hf:By k s' nu'.length it'.length=0)(h1:nu'.Sublist nu)(h2:it'.Sublist it):(Bi (.mk k s' nu' it')).1=0:=by
 obtain ⟨_,z1,z2,_⟩:=I3 h
 rw[Bi] at h ⊢
 rw[if_neg (by rw[hf];decide)]
 split at h
 ·rename_i h0;exact (h0 h).elim
 ·split at h
  ·simp at h
  ·rename_i hb
   have hb2:¬nu'.any (CM k)=true:=fun q=>by
    apply hb
    rw[List.any_eq_true] at q ⊢
    obtain ⟨x,hx,e⟩:=q
    exact⟨x,h1.subset hx,e⟩
   rw[if_neg hb2]
   cases hc:BT it 0 ((nu.length:Int)+it.length) with
   |none=>rw[hc] at h;simp at h
   |some r =>
    rw[hc] at h
    simp only at h
    split at h
    ·simp at h
    ·rename_i hr
     have l1:=h1.length_le
     have l2:=h2.length_le
     have hb3:(nu.length:Int)+it.length<=262145:=by
      unfold By at hf
      omega
     obtain ⟨r',e1,e2,e3⟩:=ML h2 hc (Int.le_refl 0) (show (nu'.length:Int)+it'.length<=(nu.length:Int)+it.length by omega) hb3
     rw[e1]
     simp only
     rw[if_neg (by omega)]
def Bn(a:Arr):Nat:=prL (shN a.sh.tail)
theorem Cv{a:Arr}(h:(Bi a).1=0):By a.k a.sh a.nu.length a.it.length=0:=by
 cases a with
 |mk k s n is =>
  rw[Bi] at h
  by_cases h0:By k s n.length is.length≠0
  ·rw[if_pos h0] at h;exact (h0 h).elim
  ·exact Decidable.not_not.1 h0
theorem MA(s:List Int):B0 s=0↔Bu s=true:=by
 rw[Bv]
 unfold B0
 have h:=fun q=>Ih s 1 q (Nat.le_refl 1) (by omega)
 simp only[Nat.one_mul] at h
 constructor
 ·intro e
  split at e
  ·omega
  ·split at e
   ·omega
   ·split at e
    ·rename_i h1 _ h3
     obtain ⟨q,hq⟩:=Option.isSome_iff_exists.1 h3
     obtain ⟨a,b,_⟩:=(h q).1 hq
     exact⟨by omega,a,b⟩
    ·omega
 ·rintro ⟨h1,h2,h3⟩
  have h5:goO s 1=some ((pzL s:Nat):Int):=by simpa using (h _).2 ⟨h2,h3,rfl⟩
  rw[if_neg (by omega),if_neg,h5]
  ·rfl
  ·intro q
   rw[List.any_eq_true] at q
   obtain ⟨x,hx,e⟩:=q
   have:=h2 x hx
   simp at e
   omega
theorem Cj{k:Int}{s:List Int}{nn ni:Nat}:By k s nn ni=0↔(k=1\/k=2\/k=3)/\Bu s=true/\(if k=3 then ni else nn)=prL (shN s)/\(if k=3 then nn else ni)=0:=by
 unfold By
 by_cases hk:k=1\/k=2\/k=3
 ·rw[if_pos hk]
  by_cases hd:B0 s=0
  ·have hr:=(MA s).1 hd
   rw[if_neg (by simpa using hd),Io hr]
   simp only[hk,hr,true_and]
   split<;>split<;>omega
  ·rw[if_pos hd]
   have hr:¬Bu s=true:=fun q=>hd ((MA s).2 q)
   simp only[hr]
   simpa using hd
 ·rw[if_neg hk]
  simp only[hk,false_and,iff_false]
  decide
theorem Cu{α:Type}(l:List α)(k i:Nat)(z:α):(l.drop k).getD i z=l.getD (k+i) z:=by
 simp[List.getD_eq_getElem?_getD]
theorem EZ{α:Type}(l:List α){k i:Nat}(h:i<k)(z:α):(l.take k).getD i z=l.getD i z:=by
 simp[List.getD_eq_getElem?_getD,List.getElem?_take_of_lt h]
def hp(s:List Nat)(ix:Nat->Nat):Nat->Nat
 |0=>0
 |j+1=>hp s ix j*s.getD j 0+ix j
noncomputable def Esiz:Senv:=EC Te 8 1 [2,5] (fun _=>([],[]))
def H2(a:List Int):Prop:=IntsP (LN a) fun i=>[ZI (GI a i)]
def H3(a:List Int):List Int:=BF (LN a) fun i=>[ZI (GI a i)]
def H4(a:List Int):Bool:=Bu (H3 a)
theorem Mj(l:List Int)(h:Bu l=true):ACalls Try.prog 32 [isl l .any] ⟨[],[]⟩ (SpecR (sC [isl l .any] (.int .i64 (BW l))) ()):=by
 refine Bh (A:=sC _ _) (x:=()) (E:=Esiz) (eOk In rfl) Try.func32 rfl (by kernel_rfl) rfl (by simp[sC,Esiz,EC,E0]) ?_
 refine Bl (T :=
  H2 l/\∀(y:Unit),True->ifB (!H4 l) (RT ((-1:Int)=BW l)) ((H2 l/\H4 l=true)/\∀(y:Unit),True->RT (BW (H3 l)=BW l))) (by kernel_rfl) ?_
 delta GI LN Z0 ZI H2 H3 H4 RT
 simp only[CA,Bj,true_and,and_true,exists_const,forall_const,h]
 exact⟨BK l,fun h=>(by simp at h),fun _=>BK l⟩
theorem Gl(a:Arr):wkL a.row a.row1:=by
 cases a with
 |mk k s n is =>
  simp only[Arr.row,Arr.row1,Arr.k,Arr.sh,Arr.nu,Arr.it,gsl,isl,wkL,wkD,Bp,Ba]
  refine⟨⟨by simp[kEq],trivial⟩,⟨by simp,trivial,fun i _=>by simp[kEq],by simp[BJ]⟩,⟨by simp,trivial,fun i _=>by simp[kEq],by simp[BJ]⟩,⟨by simp,by simp[Cg],fun i hi=>?_,by simp[BJ]⟩,trivial⟩
  have:(Iv is).getD i []=(is.getD i default).row:=by
   have hi:i<is.length:=by simpa[Cg] using hi
   rw[Cg];simp[List.getD_eq_getElem?_getD,hi]
  rw[this]
  exact Be _
def CD(k:Nat)(ds:List D)(d:D):Prop:=ACalls Try.prog k ds ⟨[],[]⟩ (SpecR (sC ds d) ())
def CS(k:Nat)(ds:List D)(S:St)(d:D):Prop:=ACalls Try.prog k ds S (fun r S'=>r=.ret d/\S'=S)
theorem CS.frame{k:Nat}{ds:List D}{S:St}{d:D}(F:St)(h:CS k ds S d):CS k ds (S.add F) d:=by
 refine ((ACalls.frame h F).from fun C F' w H=>H).mono ?_
 rintro r S' ⟨S0,⟨rfl,rfl⟩,rfl⟩
 exact⟨rfl,rfl⟩
theorem CD.at_{k:Nat}{ds:List D}{d:D}(h:CD k ds d)(S:St):CS k ds S d:=ACalls.whole S h
theorem CS.wk{k:Nat}{ds us:List D}{S:St}{d:D}(h:CS k us S d)(hw:wkL ds us):CS k ds S d:=ACalls.wkArgs h hw
theorem CS.cd{k:Nat}{ds:List D}{d:D}(h:CS k ds ⟨[],[]⟩ d):CD k ds d:=ACalls.mono h fun _ _ ⟨h1,h2⟩=>⟨(),trivial,h1,h2⟩
theorem Cn{k : Nat}{β : Type}{ds : List D}{S : St}{d : β -> D}{p : β -> Prop}(h : ∀x, p x -> CS k ds S (d x)) :
  (∀x,(pE ds S d p).pre x->ACalls Try.prog k ((pE ds S d p).args x) ((pE ds S d p).st x) (SpecR (pE ds S d p) x))/\(∀x,(pE ds S d p).fit=some x->(pE ds S d p).pre x->Bo ds ((pE ds S d p).args x)/\leS ((pE ds S d p).st x) S)/\((pE ds S d p).all=true->∀x,(pE ds S d p).pre x->Bo ds ((pE ds S d p).args x)/\(pE ds S d p).st x=S) :=
 ⟨fun x hp=>ACalls.mono (h x hp) fun _ _ ⟨h1,h2⟩=>⟨(),trivial,h1,h2⟩,fun _ e=>(by cases e),fun _ _ _=>⟨Bq ds,rfl⟩⟩
def pA(ds:List D)(S:St)(d:D)(p:Prop):FnSpec:=pE (β:=Unit) ds S (fun _=>d) fun _=>p
theorem Bw{k : Nat}{ds : List D}{S : St}{d : D}{p : Prop}(h : p -> CS k ds S d) :
  (∀x,(pA ds S d p).pre x->ACalls Try.prog k ((pA ds S d p).args x) ((pA ds S d p).st x) (SpecR (pA ds S d p) x))/\(∀x,(pA ds S d p).fit=some x->(pA ds S d p).pre x->Bo ds ((pA ds S d p).args x)/\leS ((pA ds S d p).st x) S)/\((pA ds S d p).all=true->∀x,(pA ds S d p).pre x->Bo ds ((pA ds S d p).args x)/\(pA ds S d p).st x=S) :=
 Cn fun _ hp=>h hp
def sS(ds:List D)(S:St)(d:D):FnSpec where
 β:=Unit
 α:=Unit
 args:=fun _=>ds
 st:=fun _=>S
 pre:=fun _=>True
 post:=fun _ _=>True
 res:=fun _ _=>.ret d
 out:=fun _ _=>S
theorem CS.of{k:Nat}{ds:List D}{S:St}{d:D}(h:ACalls Try.prog k ((sS ds S d).args ()) ((sS ds S d).st ()) (SpecR (sS ds S d) ())):CS k ds S d :=
 ACalls.mono h fun _ _ ⟨_,_,h2,h3⟩=>⟨h2,h3⟩
theorem CS.to{k:Nat}{ds:List D}{S S':St}{d:D}(h:CS k ds S' d)(h1:StTo S S')(h2:StTo S' S):CS k ds S d :=
 ACalls.to (ACalls.from h h1) fun r S0 ⟨e1,e2⟩=>⟨S,by rw[e2];exact h2,e1,rfl⟩
def WR{α:Type}(p:α->Bool):List α->Int->Int
 | [],_=>-1
 |x::r,i=>if p x then i else WR p r (i+1)
structure IdxG {α:Type} (p:α->Bool) (l:List α) (i:Nat):Prop where
 hi:i<=l.length
 hg:WR p (l.drop i) i=WR p l 0
theorem IdxG.step{α:Type}[Inhabited α]{p:α->Bool}{l:List α}{i:Nat}(h:IdxG p l i)(hlt:i<l.length):(p (l.getD i default)=true->WR p l 0=i)/\(p (l.getD i default)=false->IdxG p l (i+1)):=by
 have hg:=h.hg
 rw[CV hlt,WR] at hg
 refine⟨fun e=>?_,fun e=>?_⟩
 ·rw[if_pos e] at hg;exact hg.symm
 ·rw[if_neg (by rw[e];exact Bool.false_ne_true)] at hg;exact⟨by omega,hg⟩
theorem IdxG.done{α:Type}{p:α->Bool}{l:List α}{i:Nat}(h:IdxG p l i)(hge:¬(i:Int)<l.length):WR p l 0 = -1:=by
 have hg:=h.hg
 have:i=l.length:=by have:=h.hi;omega
 rw[this,List.drop_length,WR] at hg
 exact hg.symm
theorem CD.wk{k:Nat}{ds us:List D}{d:D}(h:CD k us d)(hw:wkL ds us):CD k ds d:=BeU hw h
def _root_.Go.Ab.endW(d:D)(e:AEnd)(_:St):Prop:=match e with
 |.ret d'=>wkD d' d
 |_=>False
theorem CD.ofW{k:Nat}{ds:List D}{d:D}(h:ACalls Try.prog k ds ⟨[],[]⟩ (Go.Ab.endW d)):CD k ds d:=by
 refine (ACalls.wkEnd h (R':=fun r _=>r=.ret d) fun r S' hr=>?_).to ?_
 ·refine⟨.ret d,fun C e he=>?_,rfl⟩
  unfold Go.Ab.endW at hr
  split at hr
  ·cases e with
   |returned v=>exact EW _ d hr C v he
   |panicked _=>exact he.elim
   |outgrown=>exact he.elim
  ·exact hr.elim
 ·rintro r S' rfl
  exact⟨⟨[],[]⟩,fun C F w H=>H.le ⟨List.nil_sublist _,List.nil_sublist _⟩,(),trivial,rfl,rfl⟩
theorem Rm{s:List Int}(h:∀d∈s,(0:Int)<=d/\d<=65536)(j:Nat):((shN s).getD j 0:Int)=s.getD j 0:=by
 simp only[shN,List.getD_eq_getElem?_getD,List.getElem?_map]
 cases hj:s[j]? with
 |none=>simp
 |some d =>
  have:=(h d (List.mem_of_getElem? hj)).1
  simp;omega
theorem GG(s:List Int):(shN s).length=s.length:=by simp[shN]
theorem BdD{s:List Int}(h:Bu s=true):prL (shN s)<=65536:=by
 obtain ⟨_,h2,h3⟩:=(Bv s).1 h
 cases hc:s.contains 0 with
 |true=>rw[T9 hc];omega
 |false=>rw[<- BbA (fun d hd=>(h2 d hd).1) hc];exact h3
theorem Ev(a:Arr):a.row.length=4:=by cases a;rfl
theorem Bci{C:Ctx}{u u' d d':D}(hu:∀v,Rep C u v->Rep C u' v)(hd:∀v,Rep C d v->Rep C d' v)(v:Value)(h:Rep C (.tup [u,d]) v):Rep C (.tup [u',d']) v:=by
 simp only[Rep,RepL] at h ⊢
 obtain ⟨vs,e,x,xs,e1,r1,y,ys,e2,r2,e3⟩:=h
 exact⟨vs,e,x,xs,e1,hu x r1,y,ys,e2,hd y r2,e3⟩
theorem CS.res{k:Nat}{ds:List D}{S:St}{d d':D}(h:CS k ds S d)(hw:∀C v,Rep C d v->Rep C d' v):CS k ds S d' :=
 (ACalls.wkEnd h (R':=fun r S'=>r=.ret d'/\S'=S) fun r S' hr=>⟨.ret d',fun C e he=>by
  obtain ⟨rfl,_⟩:=hr
  cases e with
  |returned v=>exact hw C v he
  |panicked _=>exact he.elim
  |outgrown=>exact he.elim,rfl,hr.2⟩)
theorem Baw(a:Arr)(C:Ctx)(v:Value)(h:Rep C (.agg a.row2) v):Rep C (.agg a.row1) v :=
 EW _ _ (by simp only[wkD];exact O7 a) C v h
theorem Bch:∀(a b:List Int),pzL (a++b)=pzL a*pzL b
 | [],b=>by simp[pzL]
 |d::a,b=>by
  rw[List.cons_append,pzL,pzL,Bch a b]
  split
  ·rfl
  ·rw[Nat.mul_assoc]
theorem WS:∀ {l:List Int},(∀d∈l,0<=d)->1<=pzL l
 | [],_=>by simp[pzL]
 |d::l,h=>by
  have ih:=WS (l:=l) fun x hx=>h x (by simp[hx])
  have:=h d (by simp)
  rw[pzL]
  split
  ·exact ih
  ·rename_i hd
   exact Nat.le_trans ih (Nat.le_mul_of_pos_left _ (by omega))
theorem Cz{l:List Int}(h:Bu l=true)(k:Nat):Bu (l.take k)=true/\Bu (l.drop k)=true:=by
 obtain ⟨h1,h2,h3⟩:=(Bv l).1 h
 have e:=Bch (l.take k) (l.drop k)
 rw[List.take_append_drop] at e
 have a1:=WS (l:=l.take k) fun d hd=>(h2 d (List.mem_of_mem_take hd)).1
 have a2:=WS (l:=l.drop k) fun d hd=>(h2 d (List.mem_of_mem_drop hd)).1
 have b1:pzL (l.take k)<=pzL l:=by rw[e];exact Nat.le_mul_of_pos_right _ a2
 have b2:pzL (l.drop k)<=pzL l:=by rw[e];exact Nat.le_mul_of_pos_left _ a1
 exact⟨(Bv _).2 ⟨by rw[List.length_take];omega,fun d hd=>h2 d (List.mem_of_mem_take hd),by omega⟩,(Bv _).2 ⟨by rw[List.length_drop];omega,fun d hd=>h2 d (List.mem_of_mem_drop hd),by omega⟩⟩
def oI:Ordering->Int
 |.lt=>-1
 |.eq=>0
 |.gt=>1
theorem Rh{o:Ordering}:oI o=0↔o=.eq:=by cases o<;>simp[oI]
theorem Rb{o:Ordering}:oI o<=0↔o.isLE=true:=by cases o<;>simp[oI]
theorem TW(a b:Ordering):oI (a.then b)=if oI a=0 then oI b else oI a:=by cases a<;>simp[oI]
def cI(a b:Int):Ordering:=compare a b
theorem BcH(a b:Int):cI a b=if a<b then .lt else if a=b then .eq else .gt:=rfl
theorem Bcn(a b:Int):oI (cI a b)=if a<b then -1 else if b<a then 1 else 0:=by
 rw[BcH]
 by_cases h:a<b
 ·rw[if_pos h,if_pos h];rfl
 ·rw[if_neg h,if_neg h]
  by_cases h2:a=b
  ·rw[if_pos h2,if_neg (by omega)];rfl
  ·rw[if_neg h2,if_pos (by omega)];rfl
theorem Bbk{a b:Int}:cI a b=.eq↔a=b:=by
 rw[BcH]
 by_cases h:a<b
 ·rw[if_pos h];simp;omega
 ·rw[if_neg h]
  by_cases h2:a=b
  ·rw[if_pos h2];simp[h2]
  ·rw[if_neg h2];simp[h2]
instance cI_tr:Std.TransCmp cI:=inferInstanceAs (Std.TransCmp (compare:Int->Int->Ordering))
structure Cel (E:Type) where
 l:List E
 s:List Nat
 i:Nat
def Eb{E:Type}(x:Cel E):List (Cel E):=(List.range (x.s.headD 0)).map fun k=>⟨x.l,x.s.tail,x.i+k*prL x.s.tail⟩
theorem Iz{E:Type}(x:Cel E):(Eb x).length=x.s.headD 0:=by simp[Eb]
def cel{E:Type}[Inhabited E](c:E->E->Ordering):Nat->Cel E->Cel E->Ordering
 |0,x,y=>c (x.l.getD x.i default) (y.l.getD y.i default)
 |n+1,x,y=>List.compareLex (cel c n) (Eb x) (Eb y)
instance cel_tr {E:Type} [Inhabited E] (c:E->E->Ordering) [hc:Std.TransCmp c]:∀n,Std.TransCmp (cel c n)
 |0=>{ eq_swap:=fun {_ _}=>Std.OrientedCmp.eq_swap (cmp:=c),isLE_trans:=fun {_ _ _}=>Std.TransCmp.isLE_trans (cmp:=c) }
 |n+1=>by
  have:=cel_tr c n
  exact { eq_swap:=fun {x y}=>Std.OrientedCmp.eq_swap (cmp:=List.compareLex (cel c n)) (a:=Eb x) (b:=Eb y),isLE_trans:=fun {x y z}=>Std.TransCmp.isLE_trans (cmp:=List.compareLex (cel c n)) (a:=Eb x) (b:=Eb y) (c:=Eb z) }
def Gh(f:Arr->Arr->Ordering)(a b:Arr):Ordering :=
 if a.k=b.k/\a.sh.length=b.sh.length then
  if a.k=3 then cel f a.sh.length ⟨a.it,shN a.sh,0⟩ ⟨b.it,shN b.sh,0⟩ else cel cI a.sh.length ⟨a.nu,shN a.sh,0⟩ ⟨b.nu,shN b.sh,0⟩
 else .eq
def Ca:Nat->Arr->Arr->Ordering
 |0,_,_=>.eq
 |n+1,a,b=>(cI a.k b.k).then ((cI a.sh.length b.sh.length).then ((Gh (Ca n) a b).then (List.compareLex cI a.sh b.sh)))
theorem Ud{α : Type}(c1 c2 : α -> α -> Ordering)[h1 : Std.TransCmp c1](hs : ∀a b, c1 a b=.eq -> c2 a b=(c2 b a).swap)
  (ht:∀a b c,c1 a b=.eq->c1 b c=.eq->(c2 a b).isLE->(c2 b c).isLE->(c2 a c).isLE):Std.TransCmp fun a b=>(c1 a b).then (c2 a b) where
 eq_swap:=fun {a b}=>by
  have e:c1 a b=(c1 b a).swap:=Std.OrientedCmp.eq_swap
  show (c1 a b).then (c2 a b)=((c1 b a).then (c2 b a)).swap
  rw[Ordering.swap_then,<- e]
  cases h:c1 a b with
  |lt=>rfl
  |gt=>rfl
  |eq=>rw[hs a b h]
 isLE_trans:=fun {a b c} hab hbc=>by
  have hab:((c1 a b).then (c2 a b)).isLE:=hab
  have hbc:((c1 b c).then (c2 b c)).isLE:=hbc
  show ((c1 a c).then (c2 a c)).isLE
  have e1:=Ordering.isLE_then_iff_and.1 hab
  have e2:=Ordering.isLE_then_iff_and.1 hbc
  have t:(c1 a c).isLE:=Std.TransCmp.isLE_trans e1.1 e2.1
  cases h1:c1 a b with
  |gt=>rw[h1] at e1;exact absurd e1.1 (by decide)
  |lt =>
   have:c1 a c=.lt:=Std.TransCmp.lt_of_lt_of_isLE h1 e2.1
   rw[this];rfl
  |eq =>
   cases h2:c1 b c with
   |gt=>rw[h2] at e2;exact absurd e2.1 (by decide)
   |lt =>
    have:c1 a c=.lt:=Std.TransCmp.lt_of_isLE_of_lt e1.1 h2
    rw[this];rfl
   |eq =>
    have:c1 a c=.eq:=Std.TransCmp.eq_trans h1 h2
    rw[this]
    rw[h1] at hab
    rw[h2] at hbc
    exact ht a b c h1 h2 hab hbc
instance on_tr {α β:Type} (c:β->β->Ordering) [Std.TransCmp c] (f:α->β):Std.TransCmp fun a b=>c (f a) (f b) where
 eq_swap:=fun {_ _}=>Std.OrientedCmp.eq_swap (cmp:=c)
 isLE_trans:=fun {_ _ _}=>Std.TransCmp.isLE_trans (cmp:=c)
theorem TH:∀n,Std.TransCmp (Ca n)
 |0=>{ eq_swap:=fun {_ _}=>rfl,isLE_trans:=fun {_ _ _} _ _=>rfl }
 |n+1=>by
  have ih:=TH n
  have t1:Std.TransCmp fun a b:Arr=>cI a.k b.k:=on_tr cI Arr.k
  have t2:Std.TransCmp fun a b:Arr=>cI a.sh.length b.sh.length:=on_tr cI fun a:Arr=>(a.sh.length:Int)
  have t4:Std.TransCmp fun a b:Arr=>List.compareLex cI a.sh b.sh:=on_tr (List.compareLex cI) Arr.sh
  have t12:Std.TransCmp fun a b:Arr=>(cI a.k b.k).then (cI a.sh.length b.sh.length) :=
   Ud (fun a b:Arr=>cI a.k b.k) (fun a b:Arr=>cI a.sh.length b.sh.length) (fun a b _=>t2.eq_swap) (fun a b c _ _=>t2.isLE_trans)
  have i3:=fun m=>cel_tr (Ca n) m
  have i4:=fun m=>cel_tr cI m
  have key:∀ {a b:Arr},(cI a.k b.k).then (cI a.sh.length b.sh.length)=.eq->a.k=b.k/\a.sh.length=b.sh.length:=fun h=>by
   obtain ⟨h1,h2⟩:=Ordering.then_eq_eq.1 h
   exact⟨Bbk.1 h1,by have:=Bbk.1 h2;omega⟩
  have t123:Std.TransCmp fun a b:Arr=>((cI a.k b.k).then (cI a.sh.length b.sh.length)).then (Gh (Ca n) a b):=by
   refine Ud (fun a b:Arr=>(cI a.k b.k).then (cI a.sh.length b.sh.length)) (Gh (Ca n)) (fun a b h=>?_) fun a b c h1 h2=>?_
   ·obtain ⟨e1,e2⟩:=key h
    have q1:Gh (Ca n) a b=_:=if_pos ⟨e1,e2⟩
    have q2:Gh (Ca n) b a=_:=if_pos ⟨e1.symm,e2.symm⟩
    rw[q1,q2,<- e1,<- e2]
    by_cases h3:a.k=3
    ·rw[if_pos h3,if_pos h3];exact (i3 _).eq_swap
    ·rw[if_neg h3,if_neg h3];exact (i4 _).eq_swap
   ·obtain ⟨e1,e2⟩:=key h1
    obtain ⟨e3,e4⟩:=key h2
    have q1:Gh (Ca n) a b=_:=if_pos ⟨e1,e2⟩
    have q2:Gh (Ca n) b c=_:=if_pos ⟨e3,e4⟩
    have q3:Gh (Ca n) a c=_:=if_pos ⟨e1.trans e3,e2.trans e4⟩
    rw[q1,q2,q3,<- e1,<- e2]
    by_cases h3:a.k=3
    ·rw[if_pos h3,if_pos h3,if_pos h3];exact (i3 _).isLE_trans
    ·rw[if_neg h3,if_neg h3,if_neg h3];exact (i4 _).isLE_trans
  have t:=Ud (fun a b:Arr=>((cI a.k b.k).then (cI a.sh.length b.sh.length)).then (Gh (Ca n) a b)) (fun a b:Arr=>List.compareLex cI a.sh b.sh) (fun a b _=>t4.eq_swap) (fun a b c _ _=>t4.isLE_trans)
  have e:Ca (n+1)=fun a b:Arr=>(((cI a.k b.k).then (cI a.sh.length b.sh.length)).then (Gh (Ca n) a b)).then (List.compareLex cI a.sh b.sh):=by
   funext a b
   rw[Ca];simp only[Ordering.then_assoc]
  rw[e]
  exact t
noncomputable def Eci:Senv:=EC C7 20 2 [4,5,6,11,12,13,16,19] (fun _=>([],[]))
def XN(a b:Int):Int:=oI (cI a b)
def H5(a b:Int):Prop:=True/\∃(_y:Unit),True/\Z0=XN a b/\True/\True
def H6(a b:Int):Prop:=True/\∃(_y:Unit),True/\(-1:Int)=XN a b/\True/\True
def H7(a b:Int):Prop:=True/\∃(_y:Unit),True/\Z1=XN a b/\True/\True
theorem W9(a b:Int):CD 72 [.int .i64 a,.int .i64 b] (.int .i64 (oI (cI a b))):=by
 refine Bh (A:=sC _ _) (x:=()) (E:=Eci) (eOk BA rfl) Try.func72 rfl (by kernel_rfl) rfl (by simp[sC,Eci,EC,E0]) ?_
 refine Bl (T :=
  True/\True/\ifB (a != a) (ifB (b != b) (H5 a b) (H6 a b)) (ifB (b != b) (H7 a b) (ifB (decide (a<b)) (H6 a b) (ifB (decide (b<a)) (H7 a b) (H5 a b))))) (by kernel_rfl) ?_
 delta Z0 Z1 XN H5 H6 H7
 rw[Bcn]
 simp only[eq_self,ne_eq,Bj,decide_eq_true_eq,decide_eq_false_iff_not,true_and,and_true,bne_iff_ne,bne_eq_false_iff_eq,exists_const,forall_const]
 repeat' (first | refine And.intro ?_ ?_ | intro _)
 all_goals (first | (split<;>(try split)<;>omega) | simp_all)
noncomputable def Eck2:Senv:=EC C7 20 2 [4,5,6,11,12,13,16,19] (fun _=>([],[]))
def XO(a b:Int):Int:=oI (cI a b)
def H8(a b:Int):Prop:=True/\∃(_y:Unit),True/\Z0=XO a b/\True/\True
def H9(a b:Int):Prop:=True/\∃(_y:Unit),True/\(-1:Int)=XO a b/\True/\True
def Qaa(a b:Int):Prop:=True/\∃(_y:Unit),True/\Z1=XO a b/\True/\True
theorem Beb(a b:Int):CD 71 [.int .i64 a,.int .i64 b] (.int .i64 (oI (cI a b))):=by
 refine Bh (A:=sC _ _) (x:=()) (E:=Eck2) (eOk BA rfl) Try.func71 rfl (by kernel_rfl) rfl (by simp[sC,Eck2,EC,E0]) ?_
 refine Bl (T :=
  True/\True/\ifB (a != a) (ifB (b != b) (H8 a b) (H9 a b)) (ifB (b != b) (Qaa a b) (ifB (decide (a<b)) (H9 a b) (ifB (decide (b<a)) (Qaa a b) (H8 a b))))) (by kernel_rfl) ?_
 delta Z0 Z1 XO H8 H9 Qaa
 rw[Bcn]
 simp only[eq_self,ne_eq,Bj,decide_eq_true_eq,decide_eq_false_iff_not,true_and,and_true,bne_iff_ne,bne_eq_false_iff_eq,exists_const,forall_const]
 repeat' (first | refine And.intro ?_ ?_ | intro _)
 all_goals (first | (split<;>(try split)<;>omega) | simp_all)
def orL:List Int->Int
 | []=>0
 |x::r=>if x=0 then orL r else x
noncomputable def Eor(l:List Int):Senv:={ EC C7 18 1 [2,3,5,6,7,8,9,14] (fun _=>([],[])) with
 ann:=fun b _ _=>match b with
  |0=>some { slots:=[8],keep:=[0,1,3,6,7],α:=Nat,st:=fun i=>([.int .i64 i],⟨[],[]⟩),inv:=fun i=>i<=l.length/\orL (l.drop i)=orL l,mu:=fun i=>l.length-i }
  |_=>none }
def XP(a:Nat)(b:List Int):Prop:=a<=LN b/\orL (List.drop a b)=orL b
def Qf3(a:List Int):D:=SI a
def Qab(a:List Int):Prop:=SM (Qf3 a)
theorem Be1(l:List Int)(hl:l.length<=100):CD 70 [isl l .any] (.int .i64 (orL l)):=by
 refine Bh (A:=sC _ _) (x:=()) (E:=Eor l) (eOk BA rfl) Try.func70 rfl (by kernel_rfl) rfl (by simp[sC,Eor,EC,E0]) ?_
 refine Bl (T :=
  (∃(x:Nat),XP x l/\(Z0=(↑x:Int)/\True)/\True/\True)/\∀(x:Nat),XP x l->ifB (decide ((↑x:Int)<(LI l))) (Bd (Z0<=(↑x:Int)/\(↑x:Int)<(LI l)) (ifB (GI l (Int.toNat (↑x:Int)) != Z0) (RT (GI l (Int.toNat (↑x:Int))=orL l)) ((Qab l/\SM D.unk/\SM (ZI Z0)/\Qab l/\SM (ZI (LI l))/\True)/\∃(y:Nat),XP y l/\LN l-y<LN l-x/\(IntKind.wrap IntKind.i64 ((↑x:Int)+Z1)=(↑y:Int)/\True)/\True/\True))) (RT (Z0=orL l))) (by kernel_rfl) ?_
 delta GI LI LN N1 SI SM Z0 Z1 ZI Qab XP Qf3 RT
 simp only[eq_self,ne_eq,Int.toNat_natCast,Bj,Bc,decide_eq_true_eq,decide_eq_false_iff_not,true_and,and_true,bne_iff_ne,bne_eq_false_iff_eq,exists_const]
 refine⟨⟨0,⟨Nat.zero_le _,by simp⟩,rfl⟩,fun x ⟨h1,h2⟩=>⟨fun h3=>?_,fun h3=>?_⟩⟩
 ·rw[BZ (by omega),orL] at h2
  refine⟨⟨by omega,h3⟩,fun h4=>?_,fun h4=>⟨x+1,⟨by omega,?_⟩,by omega,Bb (by omega) (by omega)⟩⟩
  ·rw[if_neg h4] at h2;exact h2
  ·rw[if_pos h4] at h2;exact h2
 ·rw[List.drop_eq_nil_of_le (by omega),orL] at h2
  exact h2
noncomputable def Esc(l r : List Int) : Senv:={ EC (fun k ds S=>match k with
  |72=>some (pE (β:=Int×Int) ds S (fun b=>.int .i64 (oI (cI b.1 b.2))) (fun b=>ds=[.int .i64 b.1,.int .i64 b.2]))
  |_=>none) 36 2 [4,5,6,7,8,9,10,11,12,19,28,35] (fun _=>([],[])) with
 ann:=fun b _ _=>match b with
  |0=>some { slots:=[11],keep:=[0,1,3,9,10],α:=Nat,st:=fun i=>([.int .i64 i],⟨[],[]⟩),inv:=fun i=>i<=l.length/\i<=r.length/\List.compareLex cI (l.drop i) (r.drop i)=List.compareLex cI l r,mu:=fun i=>l.length-i }
  |_=>none }
def XQ(a:Nat)(b c:List Int):Prop:=a<=LN b/\a<=LN c/\List.compareLex cI (List.drop a b) (List.drop a c)=List.compareLex cI b c
def JR(a b:List Int):Int:=oI (List.compareLex cI a b)
def Qf4(a:List Int):D:=SI a
def XR(a:List Int):Prop:=SM (Qf4 a)
theorem BeF(l r:List Int)(hl:l.length<=100):CD 74 [isl l .any,isl r .any] (.int .i64 (oI (List.compareLex cI l r))):=by
 refine Bh (A:=sC _ _) (x:=()) (E:=Esc l r) (eOk ?_ rfl) Try.func74 rfl (by kernel_rfl) rfl (by simp[sC,Esc,EC,E0]) ?_
 ·intro k ds S A hh
  dsimp only at hh
  split at hh
  ·injection hh with hh;subst hh
   exact Cn fun b e=>by rw[e];exact CD.at_ (W9 _ _) _
  ·cases hh
 refine Bl (T :=
  (∃(x:Nat),XQ x l r/\(Z0=(↑x:Int)/\True)/\True/\True)/\∀(x:Nat),XQ x l r->ifB (decide ((↑x:Int)<(LI l))) (Bd (Z0<=(↑x:Int)/\(↑x:Int)<(LI l)) (ifB (decide ((LI r)<=(↑x:Int))) (RT (Z1=JR l r)) (Bd (Z0<=(↑x:Int)/\(↑x:Int)<(LI r)) (∃(x_1:Int×Int),[ZI (GI l (Int.toNat (↑x:Int))),ZI (GI r (Int.toNat (↑x:Int)))]=[ZI x_1.1,ZI x_1.2]/\∀(y:Unit),True->ifB (oI (cI x_1.1 x_1.2) != Z0) (RT (oI (cI x_1.1 x_1.2)=JR l r)) ((XR l/\XR r/\SM D.unk/\XR l/\SM (ZI (LI l))/\True)/\∃(y:Nat),XQ y l r/\LN l-y<LN l-x/\(IntKind.wrap IntKind.i64 ((↑x:Int)+Z1)=(↑y:Int)/\True)/\True/\True))))) (ifB (decide ((LI l)<(LI r))) (RT ((-1:Int)=JR l r)) (RT (Z0=JR l r)))) (by kernel_rfl) ?_
 delta GI LI LN N1 SI SM Z0 Z1 ZI XQ JR Qf4 XR RT
 simp only[eq_self,ne_eq,Int.toNat_natCast,Bj,Bc,decide_eq_true_eq,decide_eq_false_iff_not,true_and,and_true,bne_iff_ne,bne_eq_false_iff_eq,exists_const,forall_const,Prod.exists]
 refine⟨⟨0,⟨Nat.zero_le _,Nat.zero_le _,by simp⟩,rfl⟩,fun x ⟨h1,h2,h3⟩=>⟨fun h4=>⟨⟨by omega,h4⟩,fun h5=>?_,fun h5=>⟨⟨by omega,by omega⟩,_,_,rfl,fun h6=>?_,fun h6=>?_⟩⟩,fun h4=>⟨fun h5=>?_,fun h5=>?_⟩⟩⟩
 ·rw[BZ (by omega),(List.drop_eq_nil_of_le (by omega):r.drop x=[]),List.compareLex_cons_nil] at h3
  rw[<- h3];rfl
 ·rw[BZ (by omega),BZ (l:=r) (by omega),List.compareLex_cons_cons] at h3
  rw[<- h3,TW,if_neg h6]
 ·rw[BZ (by omega),BZ (l:=r) (by omega),List.compareLex_cons_cons,Rh.1 h6] at h3
  exact⟨x+1,⟨by omega,by omega,h3⟩,by omega,Bb (by omega) (by omega)⟩
 ·rw[(List.drop_eq_nil_of_le (by omega):l.drop x=[]),BZ (l:=r) (by omega),List.compareLex_nil_cons] at h3
  rw[<- h3];rfl
 ·rw[(List.drop_eq_nil_of_le (by omega):l.drop x=[]),(List.drop_eq_nil_of_le (by omega):r.drop x=[]),List.compareLex_nil_nil] at h3
  rw[<- h3];rfl
def cSt(a b:Arr)(xa xb xr xc:Nat):St:=⟨[(3,xc,.cells [.fn (.func 86) [] [.ref 2 xr 0,.ref 0 xa 0,.ref 1 xb 0,.ref 3 xc 0]]),(2,xr,.cells [.int .i64 a.sh.length]),(1,xb,.cells [.int .i64 b.k,isl b.sh .any,isl b.nu .any,gsl 4 Arr.row b.it]),(0,xa,.cells [.int .i64 a.k,isl a.sh .any,isl a.nu .any,gsl 4 Arr.row a.it])],[]⟩
def Im(f:Arr->Arr->Ordering)(a b:Arr)(ax i j:Nat):Ordering :=
 if a.k=3 then cel f (a.sh.length-ax) ⟨a.it,(shN a.sh).drop ax,i⟩ ⟨b.it,(shN b.sh).drop ax,j⟩ else cel cI (a.sh.length-ax) ⟨a.nu,(shN a.sh).drop ax,i⟩ ⟨b.nu,(shN b.sh).drop ax,j⟩
def szN(a:Arr):Nat:=if a.k=3 then a.it.length else a.nu.length
def ceP(a b:Arr)(y:Nat×Nat×Nat):Prop:=y.1<=a.sh.length/\y.2.1+prL ((shN a.sh).drop y.1)<=szN a/\y.2.2+prL ((shN b.sh).drop y.1)<=szN b
def sCe(f:Arr->Arr->Ordering)(a b:Arr)(xa xb xr xc:Nat)(q:Nat×Nat×Nat->Prop):FnSpec where
 β:=Nat×Nat×Nat
 α:=Unit
 args:=fun y=>[.int .i64 y.1,.int .i64 y.2.1,.int .i64 y.2.2,.ref 2 xr 0,.ref 0 xa 0,.ref 1 xb 0,.ref 3 xc 0]
 st:=fun _=>cSt a b xa xb xr xc
 pre:=q
 post:=fun _ _=>True
 res:=fun y _=>.ret (.int .i64 (oI (Im f a b y.1 y.2.1 y.2.2)))
 out:=fun _ _=>cSt a b xa xb xr xc
def RC(f:Arr->Arr->Ordering)(a b:Arr)(xa xb xr xc:Nat)(q:Nat×Nat×Nat->Prop):Con:=fun k ds S=>match k with
 |86=>some (sCe f a b xa xb xr xc q)
 |47=>some (pE (β:=Arr×Arr) ds S (fun y=>.int .i64 (oI (f y.1 y.2))) (fun y=>ds=[.agg y.1.row,.agg y.2.row]/\y.1∈a.it/\y.2∈b.it))
 |72=>some (pE (β:=Int×Int) ds S (fun y=>.int .i64 (oI (cI y.1 y.2))) (fun y=>ds=[.int .i64 y.1,.int .i64 y.2]))
 |32=>some (pE (β:=List Int) ds S (fun l=>.int .i64 (prL (shN l):Nat)) (fun l=>wkL ds [isl l .any]/\Bu l=true))
 |_=>none
def kiL(f:Arr->Arr->Ordering)(a b:Arr)(ax i j t:Nat):Ordering :=
 if a.k=3 then List.compareLex (cel f (a.sh.length-(ax+1))) ((Eb ⟨a.it,(shN a.sh).drop ax,i⟩).drop t) ((Eb ⟨b.it,(shN b.sh).drop ax,j⟩).drop t)
 else List.compareLex (cel cI (a.sh.length-(ax+1))) ((Eb ⟨a.nu,(shN a.sh).drop ax,i⟩).drop t) ((Eb ⟨b.nu,(shN b.sh).drop ax,j⟩).drop t)
theorem IB{E:Type}(x:Cel E){t:Nat}(h:t<x.s.headD 0):(Eb x).drop t=⟨x.l,x.s.tail,x.i+t*prL x.s.tail⟩::(Eb x).drop (t+1):=by
 have hl:t<(Eb x).length:=by rw[Iz];exact h
 rw[List.drop_eq_getElem_cons hl]
 congr 1
 simp[Eb]
theorem OV{E : Type}[Inhabited E](c : E -> E -> Ordering)(n : Nat)(x y : Cel E){t : Nat}(h1 : t<x.s.headD 0)(h2 : t<y.s.headD 0) :
  List.compareLex (cel c n) ((Eb x).drop t) ((Eb y).drop t)=(cel c n ⟨x.l,x.s.tail,x.i+t*prL x.s.tail⟩ ⟨y.l,y.s.tail,y.i+t*prL y.s.tail⟩).then (List.compareLex (cel c n) ((Eb x).drop (t+1)) ((Eb y).drop (t+1))):=by
 rw[IB x h1,IB y h2,List.compareLex_cons_cons]
theorem UJ{E : Type}[Inhabited E](c : E -> E -> Ordering)(n : Nat)(x y : Cel E){t : Nat}(h1 : t<=x.s.headD 0)(h2 : t<=y.s.headD 0)(h : x.s.headD 0<=t \/ y.s.headD 0<=t) :
  List.compareLex (cel c n) ((Eb x).drop t) ((Eb y).drop t)=cI (x.s.headD 0:Nat) (y.s.headD 0:Nat):=by
 rw[BcH]
 by_cases hx:x.s.headD 0<=t
 ·rw[List.drop_eq_nil_of_le (by rw[Iz];exact hx)]
  by_cases hy:y.s.headD 0<=t
  ·rw[List.drop_eq_nil_of_le (by rw[Iz];exact hy),List.compareLex_nil_nil,if_neg (by omega),if_pos (by omega)]
  ·rw[IB y (by omega),List.compareLex_nil_cons,if_pos (by omega)]
 ·have hy:y.s.headD 0<=t:=by omega
  rw[(List.drop_eq_nil_of_le (by rw[Iz];exact hy):(Eb y).drop t=[]),IB x (by omega),List.compareLex_cons_nil,if_neg (by omega),if_neg (by omega)]
theorem BQ(s:List Int)(ax:Nat):((shN s).drop ax).headD 0=(s.getD ax 0).toNat:=by
 rw[shN,List.headD_eq_head?_getD,List.head?_drop,List.getElem?_map,List.getD_eq_getElem?_getD]
 cases s[ax]? <;>rfl
theorem tail_drop(s:List Int)(ax:Nat):((shN s).drop ax).tail=(shN s).drop (ax+1):=List.tail_drop
theorem Bam(f:Arr->Arr->Ordering)(a b:Arr)(i j:Nat)(h:a.k≠3):Im f a b a.sh.length i j=cI (a.nu.getD i 0) (b.nu.getD j 0):=by
 rw[Im,if_neg h,Nat.sub_self];rfl
theorem WF(f:Arr->Arr->Ordering)(a b:Arr)(i j:Nat)(h:a.k=3):Im f a b a.sh.length i j=f (a.it.getD i default) (b.it.getD j default):=by
 rw[Im,if_pos h,Nat.sub_self];rfl
theorem Bbu(f:Arr->Arr->Ordering)(a b:Arr)(ax i j:Nat)(h:ax<a.sh.length):kiL f a b ax i j 0=Im f a b ax i j:=by
 have e:a.sh.length-ax=(a.sh.length-(ax+1))+1:=by omega
 rw[kiL,Im,e];rfl
theorem Bcr(f : Arr -> Arr -> Ordering)(a b : Arr)(ax i j t : Nat)(h1 : t<(a.sh.getD ax 0).toNat)(h2 : t<(b.sh.getD ax 0).toNat) :
  kiL f a b ax i j t=(Im f a b (ax+1) (i+t*prL ((shN a.sh).drop (ax+1))) (j+t*prL ((shN b.sh).drop (ax+1)))).then (kiL f a b ax i j (t+1)):=by
 simp only[kiL,Im]
 split
 ·rw[OV _ _ _ _ (by rw[BQ];exact h1) (by rw[BQ];exact h2)]
  simp only[tail_drop]
 ·rw[OV _ _ _ _ (by rw[BQ];exact h1) (by rw[BQ];exact h2)]
  simp only[tail_drop]
theorem BcQ(f : Arr -> Arr -> Ordering)(a b : Arr)(ax i j t : Nat)(h0 : 0<=a.sh.getD ax 0 /\ 0<=b.sh.getD ax 0)(h1 : (t : Int)<=a.sh.getD ax 0)(h2 : (t : Int)<=b.sh.getD ax 0)(h : a.sh.getD ax 0<=t \/ b.sh.getD ax 0<=t) :
  kiL f a b ax i j t=cI (a.sh.getD ax 0) (b.sh.getD ax 0):=by
 have e1:((a.sh.getD ax 0).toNat:Int)=a.sh.getD ax 0:=Int.toNat_of_nonneg h0.1
 have e2:((b.sh.getD ax 0).toNat:Int)=b.sh.getD ax 0:=Int.toNat_of_nonneg h0.2
 simp only[kiL]
 split
 ·rw[UJ _ _ _ _ (by simp only[BQ];omega) (by simp only[BQ];omega) (by simp only[BQ];omega)]
  simp only[BQ,e1,e2]
 ·rw[UJ _ _ _ _ (by simp only[BQ];omega) (by simp only[BQ];omega) (by simp only[BQ];omega)]
  simp only[BQ,e1,e2]
theorem Bz{a:Arr}(h:(Bi a).1=0):Bu a.sh=true/\szN a=prL (shN a.sh)/\szN a<=65536:=by
 obtain ⟨h1,h2,h3,_⟩:=Cj.1 (Cv h)
 have:=BdD h2
 have e:szN a=prL (shN a.sh):=by
  unfold szN
  split
  ·rename_i hk;rw[if_pos hk] at h3;exact h3
  ·rename_i hk;rw[if_neg hk] at h3;exact h3
 exact⟨h2,e,by omega⟩
noncomputable def Ece(f:Arr->Arr->Ordering)(a b:Arr)(xa xb xr xc:Nat)(q:Nat×Nat×Nat->Prop)(ax i j:Nat):Senv:={ EC (RC f a b xa xb xr xc q) 105 7 [10,11,12,13,14,15,35,72,73,74,91] (fun id=>match id with | 2=>([0,1,2,3,4,5,6,7,8,9,10,11],[10]) | 4=>([0,1,2,3,4,5,6,7,8,9,10,11],[10]) | 5=>([0,1,2,3,4,6,7,8,9,10,5,11,12,13],[5,11]) | 6=>([0,1,2,3,4,5,6,7,8,9,10,11],[]) | 13=>([0,1,2,3,4,5,6,7,8,9,10,11],[10]) | _=>([],[])) with
 ann:=fun b' _ S=>match b' with
  |1=>some { slots:=[73],keep:=[0,1,2,3,4,5,6,11,12,72],α:=Nat,st:=fun t=>([.int .i64 t],S),inv:=fun t=>(t:Int)<=a.sh.getD ax 0/\(t:Int)<=b.sh.getD ax 0/\kiL f a b ax i j t=Im f a b ax i j,mu:=fun t=>(a.sh.getD ax 0).toNat-t }
  |_=>none }
def JS(a:Arr):List Int:=Arr.sh a
def JT(a:Arr):Nat:=LN (JS a)
def Qt(a:Arr):Int:=(NI (JT a))
def XS(a:Nat)(b:Arr):Bool:=(↑a:Int)==Qt b
def XT(a:Nat)(b:Arr):Bool:=bif XS a b then Arr.k b==3 else false
def KW(a:Arr):List Arr:=Arr.it a
def JU(a:Arr):Nat:=LN (KW a)
def Qac:Arr:=DA
def Qad(a:Arr)(b:Nat):List D:=Arr.row (List.getD (KW a) (Int.toNat (↑b:Int)) Qac)
def Qae(a:Arr)(b:Nat):Nat:=LN (Qad a b)
def Qaf(a:Arr)(b:Nat):D:=D.agg (List.take N4 (List.drop N0 (Qad a b)))
def KX(a:Arr->Arr->Ordering)(b c:Arr)(d e f:Nat):Int:=oI (Im a b c d e f)
def Qf5(a b c d:Nat):D:=D.fn (Fn.func (86:Nat)) [] [D.ref N2 a N0,D.ref N0 b N0,D.ref N1 c N0,D.ref (3:Nat) d N0]
def KY(a:Arr)(b:Nat):Int:=GI (JS a) b
def Qag(a:Arr)(b:Nat):List D:=[ZI (KY a b)]
def JV(a:Arr):Nat:=LN (Arr.nu a)
def Qf6(a:Arr)(b:Nat):List D:=Arr.row (List.getD (KW a) b Qac)
def Qah(a:Arr):Prop:=SM (Arr.k a)/\(SM (JT a)/\(∀(i:Nat),i<JT a->SM (Qag a i))/\True)/\(SM (JV a)/\(∀(i:Nat),i<JV a->SM [ZI (GI (Arr.nu a) i)])/\True)/\(SM (JU a)/\(∀(i:Nat),i<JU a->SM (Qf6 a i))/\True)/\True
def Kv(a b c d:Nat)(e f:Arr):Prop:=(SM a/\(SM (Qf5 b c d a)/\True)/\SM b/\(SM (Qt e)/\True)/\SM d/\Qah f/\SM c/\Qah e/\True)/\True
def Qai(a:Arr)(b:Nat):D:=ZI (GI (Arr.nu a) (Int.toNat (↑b:Int)))
def Qaj(a b:Int)(c:Arr->Arr->Ordering)(d e:Arr)(f g h k l m n:Nat):Prop:=∀(_y:Unit),True->True/\∃(_y:Unit),True/\oI (cI a b)=KX c d e f g h/\Kv k l m n d e
def QS(a:Nat):Int:=IntKind.wrap IntKind.i64 ((↑a:Int)+Z1)
def Qak(a:Arr)(b:Nat):Nat:=Int.toNat (Qt a)-Int.toNat (QS b)
def Qal(a:Arr)(b:Nat)(c:List Int):Prop:=((Qak a b=LN c/\(∀(i:Nat),i<Qak a b->GI (JS a) (Int.toNat (QS b)+i)=GI c i/\True)/\True)/\True)/\Bu c=true
def Qf7(a:Arr):D:=D.sl N1 (JT a) (fun i=>Qag a i) Mode.any
def XU(a:Nat)(b:Arr)(c:Nat)(d:Arr)(e:Arr->Arr->Ordering)(f g:Nat):Prop:=(↑a:Int)<=KY b c/\(↑a:Int)<=KY d c/\kiL e b d c f g a=Im e b d c f g
def KZ(a:Arr)(b:Nat):Int:=GI (JS a) (Int.toNat (↑b:Int))
def Qam(a:Arr)(b:Nat)(c:Arr):Int:=if KZ a b<KZ c b then KZ a b else KZ c b
def Qan(a b:Nat)(c:List Int)(d:Nat):Prop:=IntKind.wrap IntKind.i64 ((↑a:Int)+IntKind.wrap IntKind.i64 ((↑b:Int)*(NI (prL (shN c)))))=(↑d:Int)
def XV(a:Nat):Prop:=SM (ZI (↑a:Int))
def Qf8(a:List Int):D:=ZI (NI (prL (shN a)))
def Qao(a:List Int):Prop:=SM (Qf8 a)
def Qf9(a:Arr)(b:Nat)(c:Arr):D:=ZI (Qam a b c)
def Qap(a:Arr)(b:Nat):D:=ZI (KZ a b)
theorem RB(f : Arr -> Arr -> Ordering)(a b : Arr)(xa xb xr xc ax i j : Nat)(q : Nat×Nat×Nat -> Prop)(ha : (Bi a).1=0)(hb : (Bi b).1=0)(hk : a.k=b.k)(hl : a.sh.length=b.sh.length)
  (hp:ceP a b (ax,i,j)) (hq:∀y,ceP a b y->y.1=ax+1->q y) (hc:ConOk Try.prog (RC f a b xa xb xr xc q)) :
  ACalls Try.prog 86 ((sCe f a b xa xb xr xc (fun _=>True)).args (ax,i,j)) ((sCe f a b xa xb xr xc (fun _=>True)).st (ax,i,j)) (SpecR (sCe f a b xa xb xr xc (fun _=>True)) (ax,i,j)):=by
 refine Bh (A:=sCe f a b xa xb xr xc (fun _=>True)) (x:=(ax,i,j)) (E:=Ece f a b xa xb xr xc q ax i j) (eOk hc rfl) Try.func86 rfl (by kernel_rfl) rfl (by simp[sCe,Ece,EC,E0]) ?_
 refine Bl (T :=
  (SM xr/\ifB (XS ax a) (SM xa/\(Arr.k a==3)=XT ax a/\True) (false=XT ax a/\True))/\ifB (XT ax a) (SM xa/\Bd (Z0<=(↑i:Int)/\(↑i:Int)<(NI (JU a))) (Bd (N4<=Qae a i) (SM xb/\Bd (Z0<=(↑j:Int)/\(↑j:Int)<(NI (JU b))) (Bd (N4<=Qae b j) (∃(x:Arr×Arr),([Qaf a i,Qaf b j]=[D.agg (Arr.row x.1),D.agg (Arr.row x.2)]/\x.1∈KW a/\x.2∈KW b)/\∀(y:Unit),True->True/\∃(y:Unit),True/\oI (f x.1 x.2)=KX f a b ax i j/\Kv xc xr xa xb a b))))) (SM xr/\ifB (XS ax a) (SM xa/\Bd (Z0<=(↑i:Int)/\(↑i:Int)<(NI (JV a))) (SM xb/\Bd (Z0<=(↑j:Int)/\(↑j:Int)<(NI (JV b))) (∃(x:Int×Int),[Qai a i,Qai b j]=[ZI x.1,ZI x.2]/\Qaj x.1 x.2 f a b ax i j xc xr xa xb))) (SM xa/\Bd (Z0<=QS ax/\QS ax<=Qt a/\Qt a<=Qt a) (SM xb/\Bd (Z0<=QS ax/\QS ax<=Qt b/\Qt b<=Qt b) (∃(x:List Int),Qal a ax x/\∀(y:Unit),True->(SM xb/\SM (Qf7 b))/\∃(x_1:List Int),Qal b ax x_1/\∀(y:Unit),True->SM xa/\Bd (Z0<=(↑ax:Int)/\(↑ax:Int)<Qt a) (SM xb/\Bd (Z0<=(↑ax:Int)/\(↑ax:Int)<Qt b) ((∃(x:Nat),XU x a ax b f i j/\(Z0=(↑x:Int)/\True)/\Kv xc xr xa xb a b)/\∀(x_2:Nat),XU x_2 a ax b f i j->ifB (decide ((↑x_2:Int)<Qam b ax a)) (SM xc/\∃(x_3:Nat×Nat×Nat),(QS ax=(NI x_3.1)/\Qan i x_2 x x_3.2.1/\Qan j x_2 x_1 x_3.2.2/\SM xr/\SM xa/\SM xb/\SM xc/\True)/\Kv xc xr xa xb a b/\q x_3/\∀(y:Unit),True->ifB (KX f a b x_3.1 x_3.2.1 x_3.2.2 != Z0) (True/\∃(y:Unit),True/\KX f a b x_3.1 x_3.2.1 x_3.2.2=KX f a b ax i j/\Kv xc xr xa xb a b) ((XV ax/\XV i/\XV j/\SM (D.ref N2 xr N0)/\SM (D.ref N0 xa N0)/\SM (D.ref N1 xb N0)/\SM (D.ref (3:Nat) xc N0)/\Qao x/\Qao x_1/\SM (Qf9 b ax a)/\True)/\∃(y:Nat),XU y a ax b f i j/\Int.toNat (KY a ax)-y<Int.toNat (KY a ax)-x_2/\(QS x_2=(↑y:Int)/\True)/\Kv xc xr xa xb a b)) (SM xa/\Bd (Z0<=(↑ax:Int)/\(↑ax:Int)<Qt a) (SM xb/\Bd (Z0<=(↑ax:Int)/\(↑ax:Int)<Qt b) (∃(x:Int×Int),[Qap a ax,Qap b ax]=[ZI x.1,ZI x.2]/\Qaj x.1 x.2 f a b ax i j xc xr xa xb)))))))))) (by kernel_rfl) ?_
 delta DA GI LN N0 N1 N2 N4 NI SM Z0 Z1 ZI JS JT Qaf KX Qf5 KY Qag JV Qf6 Qah Kv Qai Qt Qaj QS Qak Qal Qf7 XU KZ Qam Qan XV XS Qf8 Qao Qf9 Qap XT KW JU Qac Qad Qae
 have da:(default:Arr)=Arr.mk 0 [] [] []:=rfl
 simp only[<- da]
 simp only[ne_eq,implies_true,Int.toNat_natCast,Bj,Bc,decide_eq_true_eq,decide_eq_false_iff_not,true_and,and_true,beq_iff_eq,bne_iff_ne,bne_eq_false_iff_eq,beq_eq_false_iff_ne,exists_const,forall_const,Prod.exists]
 obtain ⟨rA,zA,sA⟩:=Bz ha
 obtain ⟨rB,zB,sB⟩:=Bz hb
 obtain ⟨p1,p2,p3⟩:=hp
 simp only at p1 p2 p3
 have l8:=((Bv _).1 rA).1
 have dA:=((Bv _).1 rA).2.1
 have dB:=((Bv _).1 rB).2.1
 refine⟨⟨fun e=>by rw[beq_iff_eq.2 e,cond_true],fun e=>by rw[beq_eq_false_iff_ne.2 e,cond_false]⟩,fun h=>?_,fun h=>⟨fun e=>?_,fun e=>?_⟩⟩
 ·by_cases e:(ax:Int)=a.sh.length
  ·rw[beq_iff_eq.2 e,cond_true,beq_iff_eq] at h
   obtain rfl:ax=a.sh.length:=by omega
   have hb3:b.k=3:=by rw[<- hk];exact h
   rw[List.drop_eq_nil_of_le (by rw[GG];exact Nat.le_refl _),szN,if_pos h] at p2
   rw[List.drop_eq_nil_of_le (by rw[GG];omega),szN,if_pos hb3] at p3
   simp only[prL] at p2 p3
   refine⟨⟨by omega,by omega⟩,by rw[Ev];omega,⟨by omega,by omega⟩,by rw[Ev];omega,_,_,⟨?_,CI (l:=a.it) (i:=i) (by omega),CI (l:=b.it) (i:=j) (by omega)⟩,?_⟩
   ·rw[List.drop_zero,List.drop_zero,List.take_of_length_le (by rw[Ev];omega),List.take_of_length_le (by rw[Ev];omega)]
   ·rw[WF _ _ _ _ _ h]
  ·rw[beq_eq_false_iff_ne.2 e,cond_false] at h
   exact absurd h (by simp)
 ·rw[beq_iff_eq.2 e,cond_true,beq_eq_false_iff_ne] at h
  obtain rfl:ax=a.sh.length:=by omega
  have hb3:b.k≠3:=by rw[<- hk];exact h
  rw[List.drop_eq_nil_of_le (by rw[GG];exact Nat.le_refl _),szN,if_neg h] at p2
  rw[List.drop_eq_nil_of_le (by rw[GG];omega),szN,if_neg hb3] at p3
  simp only[prL] at p2 p3
  exact⟨⟨by omega,by omega⟩,⟨by omega,by omega⟩,_,_,rfl,by rw[Bam _ _ _ _ _ h]⟩
 ·have hlt:ax<a.sh.length:=by omega
  have wx:IntKind.i64.wrap ((ax:Int)+1)=((ax+1:Nat):Int):=by rw[Bb (by omega) (by omega)];push_cast;rfl
  have mA:a.sh.getD ax 0∈a.sh:=by rw[List.getD_eq_getElem?_getD,List.getElem?_eq_getElem hlt];exact List.getElem_mem hlt
  have mB:b.sh.getD ax 0∈b.sh:=by rw[List.getD_eq_getElem?_getD,List.getElem?_eq_getElem (by omega)];exact List.getElem_mem (by omega)
  have qA:=dA _ mA
  have qB:=dB _ mB
  have eA:=UA (s:=shN a.sh) (i:=ax) (by rw[GG];exact hlt)
  have eB:=UA (s:=shN b.sh) (i:=ax) (by rw[GG];omega)
  have gA:=Rm dA ax
  have gB:=Rm dB ax
  simp only[wx,Int.toNat_natCast]
  refine⟨⟨by omega,by omega,by omega⟩,⟨by omega,by omega,by omega⟩,a.sh.drop (ax+1),⟨⟨by rw[List.length_drop],fun i _=>(Cu _ _ _ _).symm⟩,(Cz rA _).2⟩,b.sh.drop (ax+1),⟨⟨by rw[List.length_drop],fun i _=>(Cu _ _ _ _).symm⟩,(Cz rB _).2⟩,⟨by omega,by omega⟩,⟨by omega,by omega⟩,⟨0,⟨by omega,by omega,Bbu f a b ax i j hlt⟩,rfl⟩,fun t ⟨t1,t2,t3⟩=>⟨fun h1=>?_,fun h1=>⟨⟨by omega,by omega⟩,⟨by omega,by omega⟩,_,_,rfl,?_⟩⟩⟩
  ·have h2:(t:Int)<a.sh.getD ax 0/\(t:Int)<b.sh.getD ax 0:=by split at h1<;>omega
   have n1:t<(shN a.sh).getD ax 0:=by omega
   have n2:t<(shN b.sh).getD ax 0:=by omega
   have k1:t*prL ((shN a.sh).drop (ax+1))+prL ((shN a.sh).drop (ax+1))<=prL ((shN a.sh).drop ax):=by
    rw[eA,<- Nat.succ_mul];exact Nat.mul_le_mul_right _ n1
   have k2:t*prL ((shN b.sh).drop (ax+1))+prL ((shN b.sh).drop (ax+1))<=prL ((shN b.sh).drop ax):=by
    rw[eB,<- Nat.succ_mul];exact Nat.mul_le_mul_right _ n2
   have sd:∀(s:List Int) (k:Nat),shN (s.drop k)=(shN s).drop k:=fun s k=>by simp[shN]
   have ks:=Bcr f a b ax i j t (by omega) (by omega)
   rw[t3] at ks
   simp only[sd]
   have w1:IntKind.i64.wrap ((t:Int)*(prL ((shN a.sh).drop (ax+1)):Nat))=((t*prL ((shN a.sh).drop (ax+1)):Nat):Int):=by rw[<- Int.natCast_mul];exact Bb (by omega) (by omega)
   have w2:IntKind.i64.wrap ((t:Int)*(prL ((shN b.sh).drop (ax+1)):Nat))=((t*prL ((shN b.sh).drop (ax+1)):Nat):Int):=by rw[<- Int.natCast_mul];exact Bb (by omega) (by omega)
   rw[w1,w2]
   refine⟨ax+1,i+t*prL ((shN a.sh).drop (ax+1)),j+t*prL ((shN b.sh).drop (ax+1)),⟨rfl,by rw[<- Int.natCast_add];exact Bb (by omega) (by omega),by rw[<- Int.natCast_add];exact Bb (by omega) (by omega)⟩,
    hq _ ⟨by simp only;omega,by simp only;omega,by simp only;omega⟩ rfl,fun e1=>?_,fun e1=>⟨t+1,⟨by omega,by omega,?_⟩,by omega,Bb (by omega) (by omega)⟩⟩
   ·rw[ks,TW,if_neg e1]
   ·rw[ks,Rh.1 e1];rfl
  ·rw[<- t3,BcQ f a b ax i j t ⟨qA.1,qB.1⟩ t1 t2 (by split at h1<;>omega)]
end
end Go.Proofs.Ytaempooepcejaaa
