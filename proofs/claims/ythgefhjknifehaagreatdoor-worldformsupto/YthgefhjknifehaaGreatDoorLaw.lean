/- Proved: WorldForms answers true at all arguments of bounded bulk. No condition beyond the statement's: the listed variables as the program's text lays them (the card). (This text joins: The seat's functions, and the nice ones (4). WorldForms answers true: computed.) -/
import Derived.Test.YthgefhjknifehaaGreatDoorSeat6
import Derived.Test.YthgefhjknifehaaGreatDoorSeat2
import Derived.KernelRfl
import Derived.Test.YthgefhjknifehaaGreatDoorCards
import Derived.Test.YthgefhjknifehaaGreatDoorTie
import Derived.Deep.DeepHandedRow
import Derived.OpenShut
import Derived.Test.YthgefhjknifehaaGreatDoorSeat1
set_option linter.unusedVariables false
set_option maxRecDepth 100000
namespace Go.Proofs.YthgefhjknifehaaGreatDoor.W
open Go Go.Proofs.YthgefhjknifehaaGreatDoor.D
noncomputable section
def x109 : GFn E := { ls := [{ ks := [0, 1, 12, 13], rs := [4], ins := some [⟨[.v (.slice (.named 2)), .v (.slice (.named 2)), .iv, .iv], [], fun s1 s2 a b => ⟨b, N.slices_Equal_File_s0t s1 s2 a, fun v_ => ([.val (.slice (.named 2)) s1, .val (.slice (.named 2)) s2, .iv a, .iv v_], []), fun x_ => altT x_ (fun c => .ret (.ret, [.bv false], [])) (fun d => .ret (.exit 0, [.undef], []))⟩⟩] }], i := stdI [(.slice (.named 2)), (.slice (.named 2))] [.bool] (N.slices_Equal_File_t N.fuel) }
theorem y109 : InsOk Tryz.prog 109 x109.ins := go Tryz.func109 rfl trivial trivial ⟨⟨fun _ _ _ _ => ⟨rfl, fun _ => by show _ = _; kernel_rfl⟩, trivial⟩, trivial⟩ (fun _ _ => by show _ = _; kernel_rfl)
def P109 : SP := (109, .pure [(.slice (.named 2)), (.slice (.named 2))] (pureF [x109.ins]))
theorem p109 : OK P109 := pureI_ok Tryz.call109 ⟨y109, trivial⟩
def x110 : GFn E := { ls := [{ ks := [0, 1, 12, 13], rs := [4], ins := some [⟨[.v (.slice (.named 3)), .v (.slice (.named 3)), .iv, .iv], [], fun s1 s2 a b => ⟨b, N.slices_Equal_Mark_s0t s1 s2 a, fun v_ => ([.val (.slice (.named 3)) s1, .val (.slice (.named 3)) s2, .iv a, .iv v_], []), fun x_ => altT x_ (fun c => .ret (.ret, [.bv false], [])) (fun d => .ret (.exit 0, [.undef], []))⟩⟩] }], i := stdI [(.slice (.named 3)), (.slice (.named 3))] [.bool] (N.slices_Equal_Mark_t N.fuel) }
theorem y110 : InsOk Tryz.prog 110 x110.ins := go Tryz.func110 rfl trivial trivial ⟨⟨fun _ _ _ _ => ⟨rfl, fun _ => by show _ = _; kernel_rfl⟩, trivial⟩, trivial⟩ (fun _ _ => by show _ = _; kernel_rfl)
def P110 : SP := (110, .pure [(.slice (.named 3)), (.slice (.named 3))] (pureF [x110.ins]))
theorem p110 : OK P110 := pureI_ok Tryz.call110 ⟨y110, trivial⟩
def x52 : GFn E := { S := [P109, P110], i := stdI [(.named 4), (.named 4)] [.bool] (N.state_Same_t N.fuel) }
theorem y52 : InsOk Tryz.prog 52 x52.ins := go Tryz.func52 rfl ⟨p109, p110, trivial⟩ trivial trivial (fun _ _ => by show _ = _; kernel_rfl)
def P52 : SP := (52, .pure [(.named 4), (.named 4)] (pureF [x52.ins]))
theorem p52 : OK P52 := pureI_ok Tryz.call52 ⟨y52, trivial⟩
def x53 : GFn E := { ls := [{ ks := [0, 1, 12, 13], rs := [4], ins := some [⟨[.v (.slice (.named 6)), .v (.slice (.named 6)), .iv, .iv], [], fun s1 s2 a b => ⟨b, N.slices_Equal_Lease_s0t s1 s2 a, fun v_ => ([.val (.slice (.named 6)) s1, .val (.slice (.named 6)) s2, .iv a, .iv v_], []), fun x_ => altT x_ (fun c => .ret (.ret, [.bv false], [])) (fun d => .ret (.exit 0, [.undef], []))⟩⟩] }], i := stdI [(.slice (.named 6)), (.slice (.named 6))] [.bool] (N.slices_Equal_Lease_t N.fuel) }
theorem y53 : InsOk Tryz.prog 53 x53.ins := go Tryz.func53 rfl trivial trivial ⟨⟨fun _ _ _ _ => ⟨rfl, fun _ => by show _ = _; kernel_rfl⟩, trivial⟩, trivial⟩ (fun _ _ => by show _ = _; kernel_rfl)
def P53 : SP := (53, .pure [(.slice (.named 6)), (.slice (.named 6))] (pureF [x53.ins]))
theorem p53 : OK P53 := pureI_ok Tryz.call53 ⟨y53, trivial⟩
def x54 : GFn E := { ls := [{ ks := [0, 1, 12, 13], rs := [4], ins := some [⟨[.v (.slice (.named 7)), .v (.slice (.named 7)), .iv, .iv], [], fun s1 s2 a b => ⟨b, N.slices_Equal_Wait_s0t s1 s2 a, fun v_ => ([.val (.slice (.named 7)) s1, .val (.slice (.named 7)) s2, .iv a, .iv v_], []), fun x_ => altT x_ (fun c => .ret (.ret, [.bv false], [])) (fun d => .ret (.exit 0, [.undef], []))⟩⟩] }], i := stdI [(.slice (.named 7)), (.slice (.named 7))] [.bool] (N.slices_Equal_Wait_t N.fuel) }
theorem y54 : InsOk Tryz.prog 54 x54.ins := go Tryz.func54 rfl trivial trivial ⟨⟨fun _ _ _ _ => ⟨rfl, fun _ => by show _ = _; kernel_rfl⟩, trivial⟩, trivial⟩ (fun _ _ => by show _ = _; kernel_rfl)
def P54 : SP := (54, .pure [(.slice (.named 7)), (.slice (.named 7))] (pureF [x54.ins]))
theorem p54 : OK P54 := pureI_ok Tryz.call54 ⟨y54, trivial⟩
def x55 : GFn E := { ls := [{ ks := [0, 1, 12, 13], rs := [4], ins := some [⟨[.v (.slice .i6), .v (.slice .i6), .iv, .iv], [], fun s1 s2 a b => ⟨b, N.slices_Equal_int_s0t s1 s2 a, fun v_ => ([.val (.slice .i6) s1, .val (.slice .i6) s2, .iv a, .iv v_], []), fun x_ => altT x_ (fun c => .ret (.ret, [.bv false], [])) (fun d => .ret (.exit 0, [.undef], []))⟩⟩] }], i := stdI [(.slice .i6), (.slice .i6)] [.bool] (N.slices_Equal_int_t N.fuel) }
theorem y55 : InsOk Tryz.prog 55 x55.ins := go Tryz.func55 rfl trivial trivial ⟨⟨fun _ _ _ _ => ⟨rfl, fun _ => by show _ = _; kernel_rfl⟩, trivial⟩, trivial⟩ (fun _ _ => by show _ = _; kernel_rfl)
def P55 : SP := (55, .pure [(.slice .i6), (.slice .i6)] (pureF [x55.ins]))
theorem p55 : OK P55 := pureI_ok Tryz.call55 ⟨y55, trivial⟩
def x56 : GFn E := { ls := [{ ks := [0, 1, 12, 13], rs := [4], ins := some [⟨[.v (.slice (.named 9)), .v (.slice (.named 9)), .iv, .iv], [], fun s1 s2 a b => ⟨b, N.slices_Equal_Tell_s0t s1 s2 a, fun v_ => ([.val (.slice (.named 9)) s1, .val (.slice (.named 9)) s2, .iv a, .iv v_], []), fun x_ => altT x_ (fun c => .ret (.ret, [.bv false], [])) (fun d => .ret (.exit 0, [.undef], []))⟩⟩] }], i := stdI [(.slice (.named 9)), (.slice (.named 9))] [.bool] (N.slices_Equal_Tell_t N.fuel) }
theorem y56 : InsOk Tryz.prog 56 x56.ins := go Tryz.func56 rfl trivial trivial ⟨⟨fun _ _ _ _ => ⟨rfl, fun _ => by show _ = _; kernel_rfl⟩, trivial⟩, trivial⟩ (fun _ _ => by show _ = _; kernel_rfl)
def P56 : SP := (56, .pure [(.slice (.named 9)), (.slice (.named 9))] (pureF [x56.ins]))
theorem p56 : OK P56 := pureI_ok Tryz.call56 ⟨y56, trivial⟩
def x25 : GFn E := { S := [P51, P52, P53, P54, P55, P56], i := stdI [(.named 10), (.named 10)] [.bool] (N.server_Same_t N.fuel) }
theorem y25 : InsOk Tryz.prog 25 x25.ins := go Tryz.func25 rfl ⟨p51, p52, p53, p54, p55, p56, trivial⟩ trivial trivial (fun _ _ => by show _ = _; kernel_rfl)
def P25 : SP := (25, .pure [(.named 10), (.named 10)] (pureF [x25.ins]))
theorem p25 : OK P25 := pureI_ok Tryz.call25 ⟨y25, trivial⟩
def x59 : GFn E := { S := [P111], i := stdI [(.named 12), (.named 12)] [.bool] (N.cache_Same_t N.fuel) }
theorem y59 : InsOk Tryz.prog 59 x59.ins := go Tryz.func59 rfl ⟨p111, trivial⟩ trivial trivial (fun _ _ => by show _ = _; kernel_rfl)
def P59 : SP := (59, .pure [(.named 12), (.named 12)] (pureF [x59.ins]))
theorem p59 : OK P59 := pureI_ok Tryz.call59 ⟨y59, trivial⟩
def x58 : GFn E := { S := [P59], ls := [{ ks := [1, 2, 15, 16, 17], rs := [6], ins := some [⟨[.v (.slice (.named 12)), .fn 59 [], .v (.slice (.named 12)), .iv, .iv], [], fun s2 a b c => ⟨c, N.slices_EqualFunc_Cache_s0t N.fuel s2 a b, fun v_ => ([.val (.slice (.named 12)) s2, .fn 59 [], .val (.slice (.named 12)) a, .iv b, .iv v_], []), fun x_ => altT x_ (fun d => .ret (.ret, [.bv false], [.bx (.nv 12 d.1), .bx (.nv 12 d.2)])) (fun e => .ret (.exit 0, [.undef], []))⟩⟩] }], i := ⟨[.v (.slice (.named 12)), .v (.slice (.named 12)), .fn 59 []], [], fun s1 s2 => .opt (N.slices_EqualFunc_Cache_t N.fuel s1 s2) fun x_ => .ret (.ret [.bv x_], [])⟩ }
theorem y58 : InsOk Tryz.prog 58 x58.ins := go Tryz.func58 rfl ⟨p59, trivial⟩ trivial ⟨⟨fun _ _ _ _ => ⟨rfl, fun _ => by show _ = _; kernel_rfl⟩, trivial⟩, trivial⟩ (fun _ _ => by show _ = _; kernel_rfl)
def P58 : SP := (58, .full [.data (.slice (.named 12)), .data (.slice (.named 12)), .func] true (fullF [x58.ins]))
theorem p58 : OK P58 := fullI_ok ok Tryz.call58 ⟨y58, trivial⟩
def x27 : GFn E := { S := [P57, P58, P60], i := stdI [(.named 15), (.named 15)] [.bool] (N.client_Same_t N.fuel) }
theorem y27 : InsOk Tryz.prog 27 x27.ins := go Tryz.func27 rfl ⟨p57, p58, p60, trivial⟩ trivial trivial (fun _ _ => by show _ = _; kernel_rfl)
def P27 : SP := (27, .pure [(.named 15), (.named 15)] (pureF [x27.ins]))
theorem p27 : OK P27 := pureI_ok Tryz.call27 ⟨y27, trivial⟩
def x26 : GFn E := { S := [P27], ls := [{ ks := [1, 2, 15, 16, 17], rs := [6], ins := some [⟨[.v (.slice (.named 15)), .fn 27 [], .v (.slice (.named 15)), .iv, .iv], [], fun s2 a b c => ⟨c, N.slices_EqualFunc_Client_s0t N.fuel s2 a b, fun v_ => ([.val (.slice (.named 15)) s2, .fn 27 [], .val (.slice (.named 15)) a, .iv b, .iv v_], []), fun x_ => altT x_ (fun d => .ret (.ret, [.bv false], [.bx (.nv 15 d.1), .bx (.nv 15 d.2)])) (fun e => .ret (.exit 0, [.undef], []))⟩⟩] }], i := ⟨[.v (.slice (.named 15)), .v (.slice (.named 15)), .fn 27 []], [], fun s1 s2 => .opt (N.slices_EqualFunc_Client_t N.fuel s1 s2) fun x_ => .ret (.ret [.bv x_], [])⟩ }
theorem y26 : InsOk Tryz.prog 26 x26.ins := go Tryz.func26 rfl ⟨p27, trivial⟩ trivial ⟨⟨fun _ _ _ _ => ⟨rfl, fun _ => by show _ = _; kernel_rfl⟩, trivial⟩, trivial⟩ (fun _ _ => by show _ = _; kernel_rfl)
def P26 : SP := (26, .full [.data (.slice (.named 15)), .data (.slice (.named 15)), .func] true (fullF [x26.ins]))
theorem p26 : OK P26 := fullI_ok ok Tryz.call26 ⟨y26, trivial⟩
def x28 : GFn E := { ls := [{ ks := [0, 1, 12, 13], rs := [4], ins := some [⟨[.v (.slice (.named 16)), .v (.slice (.named 16)), .iv, .iv], [], fun s1 s2 a b => ⟨b, N.slices_Equal_Gram_s0t s1 s2 a, fun v_ => ([.val (.slice (.named 16)) s1, .val (.slice (.named 16)) s2, .iv a, .iv v_], []), fun x_ => altT x_ (fun c => .ret (.ret, [.bv false], [])) (fun d => .ret (.exit 0, [.undef], []))⟩⟩] }], i := stdI [(.slice (.named 16)), (.slice (.named 16))] [.bool] (N.slices_Equal_Gram_t N.fuel) }
theorem y28 : InsOk Tryz.prog 28 x28.ins := go Tryz.func28 rfl trivial trivial ⟨⟨fun _ _ _ _ => ⟨rfl, fun _ => by show _ = _; kernel_rfl⟩, trivial⟩, trivial⟩ (fun _ _ => by show _ = _; kernel_rfl)
def P28 : SP := (28, .pure [(.slice (.named 16)), (.slice (.named 16))] (pureF [x28.ins]))
theorem p28 : OK P28 := pureI_ok Tryz.call28 ⟨y28, trivial⟩
def x13 : GFn E := { S := [P25, P26, P28], i := stdI [(.named 17), (.named 17)] [.bool] (N.world_Same_t N.fuel) }
theorem y13 : InsOk Tryz.prog 13 x13.ins := go Tryz.func13 rfl ⟨p25, p26, p28, trivial⟩ trivial trivial (fun _ _ => by show _ = _; kernel_rfl)
def P13 : SP := (13, .pure [(.named 17), (.named 17)] (pureF [x13.ins]))
theorem p13 : OK P13 := pureI_ok Tryz.call13 ⟨y13, trivial⟩
def x5 : GFn E := { S := [P13, P6, P7], i := stdI [] [.bool] (N.law22_begun_t N.fuel) }
theorem y5 : InsOk Tryz.prog 5 x5.ins := go Tryz.func5 rfl ⟨p13, p6, p7, trivial⟩ trivial trivial (by show _ = _; kernel_rfl)
def P5 : SP := (5, .pure [] (pureF [x5.ins]))
theorem p5 : OK P5 := pureI_ok Tryz.call5 ⟨y5, trivial⟩
def x3 : GFn E := { S := [P5, P6, P7], ls := [{ ks := [1, 3, 4, 5], rs := [0, 1, 3, 4], ins := some [⟨[.ptr 0 [], .v (.slice (.named 18)), .v (.slice .i6), .iv], [.bx (.v (.named 17))], fun a b i w => ⟨(i, w), N.law22_WorldForms_s0t N.fuel a b, fun v_ => ([.ptr 0 [], .val (.slice (.named 18)) a, .val (.slice .i6) b, .iv v_.1], [.bx (.nv 17 v_.2)]), fun x_ => altT x_ (fun c => .ret (.ret, [.bv false, .ptr 0 [], .val (.slice (.named 18)) a, .val (.slice .i6) b], [.bx (.nv 17 c.1), .bx (.nv 17 c.2.1), .bx (.nv 19 c.2.2)])) (fun d => .ret (.exit 0, [.undef, .ptr 0 [], .val (.slice (.named 18)) a, .val (.slice .i6) b], [.bx (.nv 17 d)]))⟩⟩] }], i := stdI [] [.bool] (N.law22_WorldForms_t N.fuel) }
theorem z3 : FnOk Tryz.prog E 3 (x3.B Tryz.f3) := GFn.body_ok (x := x3) sound mix Tryz.func3 rfl ⟨p5, p6, p7, trivial⟩ trivial ⟨⟨fun _ _ _ _ => ⟨rfl, fun _ => by show _ = _; kernel_rfl⟩, trivial⟩, trivial⟩
theorem F3 : GFact (x3.B Tryz.f3) x3.i := by show _ = _; kernel_rfl
theorem y3 : InsOk Tryz.prog 3 x3.ins := gIns_ok z3 F3
def P3 : SP := (3, .pure [] (pureF [x3.ins]))
theorem p3 : OK P3 := pureI_ok Tryz.call3 ⟨y3, trivial⟩
end
end Go.Proofs.YthgefhjknifehaaGreatDoor.W

namespace Go.Proofs.YthgefhjknifehaaGreatDoor.N
theorem law22_WorldForms_ok : law22_WorldForms N.fuel = some true := by rw [fuel_eq]; kernel_rfl
end Go.Proofs.YthgefhjknifehaaGreatDoor.N

namespace Go.Proofs.YthgefhjknifehaaGreatDoor
open Go Go.ChangeShapes Go.WideShapes Go.ChangeAt Go.RowKit
namespace Q3
open Go.Proofs.YthgefhjknifehaaGreatDoor.D Go.Proofs.YthgefhjknifehaaGreatDoor.W
theorem bind_of {α β : Type} {t : Option α} {b : α} {f : α → Option β} {r : Option β} (h : t = some b) (hr : f b = r) : t.bind f = r := by rw [h]; exact hr
theorem law (xs : List (DVal E.T)) (h : ArgsOk E 1048576 [] xs) : ((x3.B Tryz.f3) xs []).get = some (.ret [.val .bool true], []) := by
 match xs, h with
 | [], .nil => exact (F3).trans ((Tree.get_bind _ _).trans (bind_of (α := Bool) (N.law22_WorldForms_ok) rfl))
theorem contract (H : Type) (enc : TypeId × Value → H) (W : World) (base : Nat) (args : Array Value) (ds gs : List (DataW H)) (before : List MemPlace)
  (hval : ∀ (j : Nat) t v, Tryz.f3.params[j]? = some t → args[j]? = some v → Value.okWide Tryz.prog W .any base t v)
  (hW : DataW.Whole enc Tryz.prog Tryz.f3.params.toList Rows.worldFormsSpec.vars false W args.toList ds gs before) (hk : ∀ d ∈ ds, Rows.uptoBulk d ≤ 1048576) :
  Calls Tryz.prog 3 args W fun e W' => ∃ v, e = .returned v ∧ Rows.worldFormsSpec.post enc Tryz.prog Tryz.f3 false true false false W args v W' :=
 law_contract sound tl laid full meas bl (fn := Tryz.f3) (tb := 4) rfl Tryz.underlying4 (ps := []) rfl
  (by
   have h : (Tryz.f3.params.toList.all fun t => Tryz.prog.readableRec t && decide (t < Tryz.prog.types.size)) = true := by kernel_rfl
   intro t ht
   have := List.all_eq_true.1 h t ht
   simpa using this) rfl
  (fun ds hd => by
   match ds, hd with
   | [], _ => rfl)
  z3 law W base args ds gs before hval hW hk
noncomputable def laidWorld (os : Os) : World := layAt 1 ((Go.Pinned.utf8FirstZ.map fun (n : Nat) => Value.int .u8 (Int.ofNat n))) (layAt 2 ([.int .u8 128, .int .u8 191, .int .u8 160, .int .u8 191, .int .u8 128, .int .u8 159, .int .u8 144, .int .u8 191, .int .u8 128, .int .u8 143, .int .u8 0, .int .u8 0, .int .u8 0, .int .u8 0, .int .u8 0, .int .u8 0, .int .u8 0, .int .u8 0, .int .u8 0, .int .u8 0, .int .u8 0, .int .u8 0, .int .u8 0, .int .u8 0, .int .u8 0, .int .u8 0, .int .u8 0, .int .u8 0, .int .u8 0, .int .u8 0, .int .u8 0, .int .u8 0]) (World.holding Tryz.prog os ⟨#[], #[], []⟩))
theorem laid_met (os : Os) : laidMet Tryz.prog Rows.worldFormsUptoRow.laid ((laidWorld os).forCall (fun _ _ => 0) ⟨#[], #[], []⟩).memory := laidMet_of_run' 8 (by kernel_rfl) (by kernel_rfl)
theorem reads (os : Os) {H : Type} (enc : TypeId × Value → H) : ∃ places, DataW.whole enc Tryz.prog ((laidWorld os).forCall (fun _ _ => 0) ⟨#[], #[], []⟩).memory Tryz.f3.params.toList Rows.worldFormsSpec.vars false (#[] : Array Value).toList 8 = some ([], [], places) := ⟨[], by kernel_rfl⟩
theorem lifted (os : Os) (started : os.Started) (H : Type) (enc : TypeId × Value → H) (F : Stop.Interp) :
  ReturnsInHanded {} Tryz.checked os 3 .any ((Rows.OpenSpec.upto Rows.worldFormsSpec).preRow enc Tryz.prog Tryz.f3 Rows.worldFormsUptoRow.domain false Rows.worldFormsUptoRow.laid) (((Rows.OpenSpec.upto Rows.worldFormsSpec).at F).post enc Tryz.prog Tryz.f3 false true false false) := by
 obtain ⟨places, hx⟩ := reads os enc
 refine returnsInHanded_of_row (C := Tryz.checked) (s := Rows.OpenSpec.upto Rows.worldFormsSpec) own started (by kernel_rfl) Tryz.func3
  (witness_row_at (enc := enc) (C := Tryz.checked) false (laidWorld os) #[] rfl (by kernel_rfl) (by kernel_rfl) (by kernel_rfl)
   (OpenSpec.preRow_of_cond 8 hx (by kernel_rfl) (fun k hk => by cases hk; kernel_rfl) (by kernel_rfl) (laid_met os))) ?_
 intro W base args ds gs before hval hW _ hcond _ _ _ _
 have hgs : gs = [] := by
  obtain ⟨p, q, hA, hV, _⟩ := hW
  cases gs with
  | nil => rfl
  | cons g gs => exact hV.elim
 subst hgs
 have hk := hcond _ rfl
 exact contract H enc W base args ds [] before hval hW (small hk)
theorem o1 : Tryz.pinned.checked.prog.funcNamed Rows.worldFormsUptoRow.func = some 3 := by kernel_rfl
theorem o2 : joinedFacts Tryz.pinned.checked.prog 3 Tryz.f3 (Rows.OpenSpec.upto Rows.worldFormsSpec).bare Rows.worldFormsUptoRow = true := by kernel_rfl
theorem o3 : Tryz.f3.isInstance Tryz.pinned.checked.prog Rows.worldFormsUptoRow.origin Rows.worldFormsUptoRow.targs := of_decide_eq_true (by kernel_rfl)
theorem o4 : Tryz.f3.isWrapper Tryz.pinned.checked.prog Rows.worldFormsUptoRow.wrapper Rows.worldFormsUptoRow.mainSum := by unfold Func.isWrapper; first | (rw [if_pos (by decide +kernel)]; kernel_rfl) | (rw [if_neg (by decide +kernel)]; exact ⟨rfl, rfl⟩)
theorem over : Rows.worldFormsUptoRow.holds Tryz.pinned (Rows.OpenSpec.upto Rows.worldFormsSpec) :=
 OpenClaim.holds_of_cond 3 Tryz.f3 rfl rfl rfl rfl rfl rfl rfl ⟨rfl, rfl, rfl, rfl, rfl⟩ rfl rfl rfl rfl rfl o1 Tryz.func3 o2 o3 o4
  (fun os started H enc _ F => by rw [OpenClaim.pre_eq_preRow]; exact lifted os started H enc F)
theorem plain (f : FuncId) (fn : Func) (hf : Tryz.pinned.checked.prog.funcNamed "tenancy/tenancylaw22.WorldForms" = some f) (hfn : Tryz.pinned.checked.prog.funcs[f]? = some fn) :
  true = Tryz.pinned.checked.prog.looks [] ∧ ∀ (j : Nat) t, fn.params[j]? = some t → Tryz.pinned.checked.prog.wantsStandIn t = false := by
 obtain rfl : f = 3 := Option.some.inj ((show Tryz.prog.funcNamed "tenancy/tenancylaw22.WorldForms" = some 3 by kernel_rfl).symm.trans hf) |>.symm
 obtain rfl : fn = Tryz.f3 := (Option.some.inj (Tryz.func3.symm.trans hfn)).symm
 refine ⟨by kernel_rfl, fun j t ht => ?_⟩
 have h : (Tryz.f3.params.toList.all fun t => !(Tryz.prog.wantsStandIn t)) = true := by kernel_rfl
 have := List.all_eq_true.1 h t (Array.mem_toList_iff.2 (Array.mem_of_getElem? ht))
 show Tryz.prog.wantsStandIn t = false
 simpa using this
theorem card : Rows.WorldFormsUptoCardSaid :=
 Claim7.holds_tied_plain_at .later [] _ _ _ _ over (fun _ h => by cases h) (by kernel_rfl) (fun _ h => by cases h) worldFormsUpto_row_tie rfl ⟨rfl, rfl⟩ (by kernel_rfl) rfl plain (by kernel_rfl)
end Q3
theorem worldForms_holds : Rows.WorldFormsUptoCardSaid := Q3.card
end Go.Proofs.YthgefhjknifehaaGreatDoor
