/- The seat's functions, and the nice ones (1). -/
import Derived.Test.YthabbcjjecpbmaaSeat1
import Derived.Test.YthabbcjjecpbmaaSeat2
set_option linter.unusedVariables false
set_option maxRecDepth 100000
namespace Go.Proofs.Ythabbcjjecpbmaa.C
open Go Go.Proofs.Ythabbcjjecpbmaa.D

/-! tenancy/client.New -/
noncomputable def S6 : List (Nat × D.Spec E) := []
theorem S6_ok : AllS Try.prog E S6 := trivial
noncomputable def L6 : Nat → LoopInfo E := clL E 7 [] []
noncomputable def B6 : List (DVal E.T) → St E.T → Tree (Res E.T × St E.T) := dbody E (lookS S6) (lookD []) L6 0 false Try.f6
theorem B6_ok : FnOk Try.prog E 6 B6 := bodyC_ok sound mix S6_ok (SD := []) trivial (L := L6) (N := 0) (keep := false) Try.func6 rfl (by
  intro k g hg fr st out ho
  match k, hg with
  | _, hg => cases hg)
theorem F6 (id_ : Int) : (B6 [.val (.int .i64) id_] []).get = N.client_New_k (fun x_ => some (.ret [.val (.named 4) x_], [])) id_ := by kernel_rfl
noncomputable def i6 : Ins E (Res E.T × St E.T) := ⟨[.v (.int .i64)], [], fun id_ => .ret (.ret [.val (.named 4) (N.client_New id_)], [])⟩
theorem i6_ok : InsOk Try.prog 6 i6 := ⟨B6, B6_ok, by intro id_ out_ h_; exact ((F6 id_).trans (N.client_New_bind _ id_)).trans h_⟩
noncomputable def P6 : Nat × D.Spec E := (6, .pure [(.int .i64)] (pureF [i6]))
theorem p6 : SpecOk Try.prog E P6.1 P6.2 := pureI_ok Try.call6 ⟨i6_ok, trivial⟩

/-! slices.Clone[[]tenancy/api.Write,tenancy/api.Write] -/
def B52 : List (DVal E.T) → St E.T → Tree (Res E.T × St E.T) := cloneF E (.named 0)
noncomputable def P52 : Nat × D.Spec E := (52, .full [.data (.slice (.named 0))] false B52)
theorem cf52 : ∃ R0 C R id o1 o2, Try.f52.body = some (.seq R0 (.seq (.seq (.region id #[o1, o2] false) C) R)) ∧ (o1.op = .move (.tmp 0) ∧ o1.dst = some 3 ∧ o1.guard = none) ∧ (o2.op = .binOp .eql 25 (.tmp 3) (.const (.slice none 0 0)) 25 ∧ o2.dst = some 4 ∧ o2.guard = none) ∧
    CloneFacts E Try.f52 (.named 0) R0 C R (fun xs => put E (frame E Try.f52 [.val (.slice (.named 0)) xs]) (some 2) .nils) (fun xs => put E (put E (put E (put E (frame E Try.f52 [.val (.slice (.named 0)) xs]) (some 2) .nils) (some 3) (.val (.slice (.named 0)) xs)) (some 4) (.val .bool true)) (some 2) .nils) (fun xs n => put E (put E (put E (put E (put E (put E (put E (frame E Try.f52 [.val (.slice (.named 0)) xs]) (some 2) .nils) (some 3) (.val (.slice (.named 0)) xs)) (some 4) (.val .bool false)) (some 5) .nils) (some 6) (.val (.slice (.named 0)) xs)) (some 7) (.own n)) (some 2) (.own n)) :=
  ⟨_, _, _, _, _, _, rfl, ⟨rfl, rfl, rfl⟩, ⟨rfl, rfl, rfl⟩, by
    constructor
    all_goals intros
    all_goals kernel_rfl⟩
theorem p52 : SpecOk Try.prog E P52.1 P52.2 := by
  obtain ⟨R0, C, R, id, o1, o2, hb, h1, h2, hF⟩ := cf52
  exact ⟨Try.call52, clone_fn sound mix Try.func52 hb h1 h2 ⟨_, Try.underlying25⟩ hF⟩

/-! tenancy/client.twin -/
noncomputable def S34 : List (Nat × D.Spec E) := [P52]
theorem S34_ok : AllS Try.prog E S34 := ⟨p52, trivial⟩
noncomputable def L34 : Nat → LoopInfo E := clL E 8 [] []
noncomputable def B34 : List (DVal E.T) → St E.T → Tree (Res E.T × St E.T) := dbody E (lookS S34) (lookD []) L34 0 false Try.f34
theorem B34_ok : FnOk Try.prog E 34 B34 := bodyC_ok sound mix S34_ok (SD := []) trivial (L := L34) (N := 0) (keep := false) Try.func34 rfl (by
  intro k g hg fr st out ho
  match k, hg with
  | _, hg => cases hg)
theorem F34 (a : N.TAsk) : (B34 [.val (.named 2) a] []).get = N.client_twin_k (fun x_ => some (.ret [.val (.named 2) a], [])) a := by kernel_rfl
noncomputable def i34 : Ins E (Res E.T × St E.T) := ⟨[.v (.named 2)], [], fun a => .ret (.ret [.val (.named 2) a], [])⟩
theorem i34_ok : InsOk Try.prog 34 i34 := ⟨B34, B34_ok, by intro a out_ h_; exact ((F34 a).trans (N.client_twin_bind _ a)).trans h_⟩
noncomputable def P34 : Nat × D.Spec E := (34, .pure [(.named 2)] (pureF [i34]))
theorem p34 : SpecOk Try.prog E P34.1 P34.2 := pureI_ok Try.call34 ⟨i34_ok, trivial⟩

/-! tenancy/cache.twin -/
noncomputable def S54 : List (Nat × D.Spec E) := [P52]
theorem S54_ok : AllS Try.prog E S54 := ⟨p52, trivial⟩
noncomputable def L54 : Nat → LoopInfo E := clL E 8 [] []
noncomputable def B54 : List (DVal E.T) → St E.T → Tree (Res E.T × St E.T) := dbody E (lookS S54) (lookD []) L54 0 false Try.f54
theorem B54_ok : FnOk Try.prog E 54 B54 := bodyC_ok sound mix S54_ok (SD := []) trivial (L := L54) (N := 0) (keep := false) Try.func54 rfl (by
  intro k g hg fr st out ho
  match k, hg with
  | _, hg => cases hg)
theorem F54 (c : N.TCache) : (B54 [.val (.named 1) c] []).get = N.cache_twin_k (fun x_ => some (.ret [.val (.named 1) c], [])) c := by kernel_rfl
noncomputable def i54 : Ins E (Res E.T × St E.T) := ⟨[.v (.named 1)], [], fun c => .ret (.ret [.val (.named 1) c], [])⟩
theorem i54_ok : InsOk Try.prog 54 i54 := ⟨B54, B54_ok, by intro c out_ h_; exact ((F54 c).trans (N.cache_twin_bind _ c)).trans h_⟩
noncomputable def P54 : Nat × D.Spec E := (54, .pure [(.named 1)] (pureF [i54]))
theorem p54 : SpecOk Try.prog E P54.1 P54.2 := pureI_ok Try.call54 ⟨i54_ok, trivial⟩

/-! tenancy/cache.Valid -/
noncomputable def S53 : List (Nat × D.Spec E) := []
theorem S53_ok : AllS Try.prog E S53 := trivial
noncomputable def L53 : Nat → LoopInfo E := clL E 11 [] []
noncomputable def B53 : List (DVal E.T) → St E.T → Tree (Res E.T × St E.T) := dbody E (lookS S53) (lookD []) L53 0 false Try.f53
theorem B53_ok : FnOk Try.prog E 53 B53 := bodyC_ok sound mix S53_ok (SD := []) trivial (L := L53) (N := 0) (keep := false) Try.func53 rfl (by
  intro k g hg fr st out ho
  match k, hg with
  | _, hg => cases hg)
theorem F53 (c : N.TCache) (now : Int) : (B53 [.val (.named 1) c, .val (.int .i64) now] []).get = N.cache_Valid_k (fun x_ => some (.ret [.val (.int .i64) x_], [])) c now := by kernel_rfl
noncomputable def i53 : Ins E (Res E.T × St E.T) := ⟨[.v (.named 1), .v (.int .i64)], [], fun c now => .ret (.ret [.val (.int .i64) (N.cache_Valid c now)], [])⟩
theorem i53_ok : InsOk Try.prog 53 i53 := ⟨B53, B53_ok, by intro c now out_ h_; exact ((F53 c now).trans (N.cache_Valid_bind _ c now)).trans h_⟩
noncomputable def P53 : Nat × D.Spec E := (53, .pure [(.named 1), (.int .i64)] (pureF [i53]))
theorem p53 : SpecOk Try.prog E P53.1 P53.2 := pureI_ok Try.call53 ⟨i53_ok, trivial⟩

/-! tenancy/cache.Reset -/
noncomputable def S41 : List (Nat × D.Spec E) := []
theorem S41_ok : AllS Try.prog E S41 := trivial
noncomputable def L41 : Nat → LoopInfo E := clL E 12 [] []
noncomputable def B41 : List (DVal E.T) → St E.T → Tree (Res E.T × St E.T) := dbody E (lookS S41) (lookD []) L41 0 false Try.f41
theorem B41_ok : FnOk Try.prog E 41 B41 := bodyC_ok sound mix S41_ok (SD := []) trivial (L := L41) (N := 0) (keep := false) Try.func41 rfl (by
  intro k g hg fr st out ho
  match k, hg with
  | _, hg => cases hg)
theorem F41 (c : N.TCache) : (B41 [.val (.named 1) c] []).get = N.cache_Reset_k (fun x_ => some (.ret [.val (.named 1) x_], [])) c := by kernel_rfl
noncomputable def i41 : Ins E (Res E.T × St E.T) := ⟨[.v (.named 1)], [], fun c => .ret (.ret [.val (.named 1) (N.cache_Reset c)], [])⟩
theorem i41_ok : InsOk Try.prog 41 i41 := ⟨B41, B41_ok, by intro c out_ h_; exact ((F41 c).trans (N.cache_Reset_bind _ c)).trans h_⟩
noncomputable def P41 : Nat × D.Spec E := (41, .pure [(.named 1)] (pureF [i41]))
theorem p41 : SpecOk Try.prog E P41.1 P41.2 := pureI_ok Try.call41 ⟨i41_ok, trivial⟩

/-! tenancy/cache.Lapse -/
noncomputable def S35 : List (Nat × D.Spec E) := [P41, P53, P54]
theorem S35_ok : AllS Try.prog E S35 := ⟨p41, p53, p54, trivial⟩
noncomputable def L35 : Nat → LoopInfo E := clL E 18 [] []
noncomputable def B35 : List (DVal E.T) → St E.T → Tree (Res E.T × St E.T) := dbody E (lookS S35) (lookD []) L35 0 false Try.f35
theorem B35_ok : FnOk Try.prog E 35 B35 := bodyC_ok sound mix S35_ok (SD := []) trivial (L := L35) (N := 0) (keep := false) Try.func35 rfl (by
  intro k g hg fr st out ho
  match k, hg with
  | _, hg => cases hg)
theorem F35 (c : N.TCache) (now : Int) : (B35 [.val (.named 1) c, .val (.int .i64) now] []).get = N.cache_Lapse_k (fun x_ => some (.ret [.val (.named 1) x_], [])) c now := by kernel_rfl
noncomputable def i35 : Ins E (Res E.T × St E.T) := ⟨[.v (.named 1), .v (.int .i64)], [], fun c now => .ret (.ret [.val (.named 1) (N.cache_Lapse c now)], [])⟩
theorem i35_ok : InsOk Try.prog 35 i35 := ⟨B35, B35_ok, by intro c now out_ h_; exact ((F35 c now).trans (N.cache_Lapse_bind _ c now)).trans h_⟩
noncomputable def P35 : Nat × D.Spec E := (35, .pure [(.named 1), (.int .i64)] (pureF [i35]))
theorem p35 : SpecOk Try.prog E P35.1 P35.2 := pureI_ok Try.call35 ⟨i35_ok, trivial⟩

/-! slices.Clone[[]tenancy/api.Cache,tenancy/api.Cache] -/
def B32 : List (DVal E.T) → St E.T → Tree (Res E.T × St E.T) := cloneF E (.named 1)
noncomputable def P32 : Nat × D.Spec E := (32, .full [.data (.slice (.named 1))] false B32)
theorem cf32 : ∃ R0 C R id o1 o2, Try.f32.body = some (.seq R0 (.seq (.seq (.region id #[o1, o2] false) C) R)) ∧ (o1.op = .move (.tmp 0) ∧ o1.dst = some 3 ∧ o1.guard = none) ∧ (o2.op = .binOp .eql 23 (.tmp 3) (.const (.slice none 0 0)) 23 ∧ o2.dst = some 4 ∧ o2.guard = none) ∧
    CloneFacts E Try.f32 (.named 1) R0 C R (fun xs => put E (frame E Try.f32 [.val (.slice (.named 1)) xs]) (some 2) .nils) (fun xs => put E (put E (put E (put E (frame E Try.f32 [.val (.slice (.named 1)) xs]) (some 2) .nils) (some 3) (.val (.slice (.named 1)) xs)) (some 4) (.val .bool true)) (some 2) .nils) (fun xs n => put E (put E (put E (put E (put E (put E (put E (frame E Try.f32 [.val (.slice (.named 1)) xs]) (some 2) .nils) (some 3) (.val (.slice (.named 1)) xs)) (some 4) (.val .bool false)) (some 5) .nils) (some 6) (.val (.slice (.named 1)) xs)) (some 7) (.own n)) (some 2) (.own n)) :=
  ⟨_, _, _, _, _, _, rfl, ⟨rfl, rfl, rfl⟩, ⟨rfl, rfl, rfl⟩, by
    constructor
    all_goals intros
    all_goals kernel_rfl⟩
theorem p32 : SpecOk Try.prog E P32.1 P32.2 := by
  obtain ⟨R0, C, R, id, o1, o2, hb, h1, h2, hF⟩ := cf32
  exact ⟨Try.call32, clone_fn sound mix Try.func32 hb h1 h2 ⟨_, Try.underlying23⟩ hF⟩

/-! slices.Clone[[]string,string] -/
def B33 : List (DVal E.T) → St E.T → Tree (Res E.T × St E.T) := cloneF E .str
noncomputable def P33 : Nat × D.Spec E := (33, .full [.data (.slice .str)] false B33)
theorem cf33 : ∃ R0 C R id o1 o2, Try.f33.body = some (.seq R0 (.seq (.seq (.region id #[o1, o2] false) C) R)) ∧ (o1.op = .move (.tmp 0) ∧ o1.dst = some 3 ∧ o1.guard = none) ∧ (o2.op = .binOp .eql 24 (.tmp 3) (.const (.slice none 0 0)) 24 ∧ o2.dst = some 4 ∧ o2.guard = none) ∧
    CloneFacts E Try.f33 .str R0 C R (fun xs => put E (frame E Try.f33 [.val (.slice .str) xs]) (some 2) .nils) (fun xs => put E (put E (put E (put E (frame E Try.f33 [.val (.slice .str) xs]) (some 2) .nils) (some 3) (.val (.slice .str) xs)) (some 4) (.val .bool true)) (some 2) .nils) (fun xs n => put E (put E (put E (put E (put E (put E (put E (frame E Try.f33 [.val (.slice .str) xs]) (some 2) .nils) (some 3) (.val (.slice .str) xs)) (some 4) (.val .bool false)) (some 5) .nils) (some 6) (.val (.slice .str) xs)) (some 7) (.own n)) (some 2) (.own n)) :=
  ⟨_, _, _, _, _, _, rfl, ⟨rfl, rfl, rfl⟩, ⟨rfl, rfl, rfl⟩, by
    constructor
    all_goals intros
    all_goals kernel_rfl⟩
theorem p33 : SpecOk Try.prog E P33.1 P33.2 := by
  obtain ⟨R0, C, R, id, o1, o2, hb, h1, h2, hF⟩ := cf33
  exact ⟨Try.call33, clone_fn sound mix Try.func33 hb h1 h2 ⟨_, Try.underlying24⟩ hF⟩

/-! tenancy/client.of -/
noncomputable def S13 : List (Nat × D.Spec E) := [P32, P33, P34, P35]
theorem S13_ok : AllS Try.prog E S13 := ⟨p32, p33, p34, p35, trivial⟩
abbrev h13_s0 (t37 : Int) (c : N.TClient) (t38 : Int) (w : N.Tclient_work) : Fr E.T := ofSlots E 56 [] [1, 3, 36, 37, 38] [.ptr 0 [], .ptr 1 [], .own 2, .val (.int .i64) t37, .val (.int .i64) t38]
abbrev t13_s0 (t37 : Int) (c : N.TClient) (t38 : Int) (w : N.Tclient_work) : St E.T := [.box false (.val (.named 4) c), .box false (.agg 8 [.agg 4 [.val (.int .i64) w.Client.ID, .val (.int .i64) w.Client.Now, .val (.int .i64) w.Client.Epoch, .val (.int .i64) w.Client.Seq, .own 2, .own 3, .val (.named 3) w.Client.Out, .val (.int .i64) w.Client.Bad, .val (.int .i64) w.Client.Hits, .val (.int .i64) w.Client.Asks], .nils]), .arr .live (.named 1) w.Client.Files, .arr .live .str w.Client.Names]
def x13_s0 (t37 : Int) (c : N.TClient) (x_ : N.Tclient_work) : Tree (CodeOut E) := .ret (.exit 0, ofSlots E 56 [] [2, 3] [.undef, .ptr 1 []], [.box false (.val (.named 4) c), .box false (.agg 8 [.agg 4 [.val (.int .i64) x_.Client.ID, .val (.int .i64) x_.Client.Now, .val (.int .i64) x_.Client.Epoch, .val (.int .i64) x_.Client.Seq, .own 2, .own 3, .val (.named 3) x_.Client.Out, .val (.int .i64) x_.Client.Bad, .val (.int .i64) x_.Client.Hits, .val (.int .i64) x_.Client.Asks], .nils]), .arr .live (.named 1) x_.Client.Files, .arr .live .str x_.Client.Names])
noncomputable def g13_s0 : Ins E (CodeOut E) := ⟨[.ptr 0 [], .ptr 1 [], .own 2, .v (.int .i64), .v (.int .i64)], [.box false (.v (.named 4)), .box false (.agg 8 [.agg 4 [.v (.int .i64), .v (.int .i64), .v (.int .i64), .v (.int .i64), .own 2, .own 3, .v (.named 3), .v (.int .i64), .v (.int .i64), .v (.int .i64)], .nils]), .arr .live (.named 1), .arr .live .str], fun t37 t38 c w_Client_ID w_Client_Now w_Client_Epoch w_Client_Seq w_Client_Out w_Client_Bad w_Client_Hits w_Client_Asks a2_ a3_ => .opt (N.client_of_l0 N.fuel t37 c t38 (N.Tclient_work.mk (N.TClient.mk w_Client_ID w_Client_Now w_Client_Epoch w_Client_Seq a2_ a3_ w_Client_Out w_Client_Bad w_Client_Hits w_Client_Asks) [])) (x13_s0 t37 c)⟩
noncomputable def L13 : Nat → LoopInfo E := clL E 56 [{ ks := [1, 3, 36, 37, 38], mvs := [], pro := [], d := [], g := some (insF [g13_s0]) }] []
theorem f13_s0 (t37 : Int) (c : N.TClient) (t38 : Int) (w : N.Tclient_work) : ((stepOf E S13 L13 0 0 Try.f13 (h13_s0 t37 c t38 w) (t13_s0 t37 c t38 w)).bind (nx E [1, 3, 36, 37, 38] [] [2, 3] 4)).get = N.client_of_s0k t37 c (fun v_ => some (.inl (h13_s0 t37 c v_.1 v_.2, t13_s0 t37 c v_.1 v_.2))) (fun x_ => some (.inr (.exit 0, ofSlots E 56 [] [2, 3] [.undef, .ptr 1 []], [.box false (.val (.named 4) c), .box false (.agg 8 [.agg 4 [.val (.int .i64) x_.Client.ID, .val (.int .i64) x_.Client.Now, .val (.int .i64) x_.Client.Epoch, .val (.int .i64) x_.Client.Seq, .own 2, .own 3, .val (.named 3) x_.Client.Out, .val (.int .i64) x_.Client.Bad, .val (.int .i64) x_.Client.Hits, .val (.int .i64) x_.Client.Asks], .nils]), .arr .live (.named 1) x_.Client.Files, .arr .live .str x_.Client.Names]))) t38 w := by kernel_rfl
theorem q13_s0 : InsLp 56 [1, 3, 36, 37, 38] [] [] (stepOf E S13 L13 0 0 Try.f13) g13_s0 := by
  intro t37 t38 c w_Client_ID w_Client_Now w_Client_Epoch w_Client_Seq w_Client_Out w_Client_Bad w_Client_Hits w_Client_Asks a2_ a3_ out_ ho_
  obtain ⟨x_, h1_, h2_⟩ := Option.bind_eq_some_iff.1 ho_
  refine iter_loop (rs := [2, 3]) (step := N.client_of_s0 t37 c) (hd := fun v_ => h13_s0 t37 c v_.1 v_.2) (sv := fun v_ => t13_s0 t37 c v_.1 v_.2) (ex := x13_s0 t37 c) (fun v_ => ?_) N.fuel (t38, (N.Tclient_work.mk (N.TClient.mk w_Client_ID w_Client_Now w_Client_Epoch w_Client_Seq a2_ a3_ w_Client_Out w_Client_Bad w_Client_Hits w_Client_Asks) [])) h1_ h2_
  refine (f13_s0 t37 c v_.1 v_.2).trans ((N.client_of_s0_bind t37 c _ _ v_.1 v_.2).trans ?_)
  refine congrArg _ (funext fun s_ => ?_)
  rcases s_ with v_ | a <;> rfl
noncomputable def B13 : List (DVal E.T) → St E.T → Tree (Res E.T × St E.T) := tidyF (dbody E (lookS S13) (lookD []) L13 0 true Try.f13)
theorem B13_ok : FnOk Try.prog E 13 B13 := tidy_fn ok (bodyC_ok sound mix S13_ok (SD := []) trivial (L := L13) (N := 0) (keep := true) Try.func13 rfl (by
  intro k g hg fr st out ho
  match k, hg with
  | 0, hg => cases hg; exact lp_ok (allLp_cons q13_s0 (allLp_nil)) fr st out ho
  | _ + 1, hg => cases hg))
theorem F13 (c : N.TClient) : (B13 [.val (.named 4) c] []).get = N.client_of_k N.fuel (fun x_ => some (.ret [.ptr 1 []], [.dead, .box false (.agg 8 [.agg 4 [.val (.int .i64) x_.Client.ID, .val (.int .i64) x_.Client.Now, .val (.int .i64) x_.Client.Epoch, .val (.int .i64) x_.Client.Seq, .own 2, .own 3, .val (.named 3) x_.Client.Out, .val (.int .i64) x_.Client.Bad, .val (.int .i64) x_.Client.Hits, .val (.int .i64) x_.Client.Asks], .nils]), .arr .live (.named 1) x_.Client.Files, .arr .live .str x_.Client.Names])) c := by kernel_rfl
noncomputable def i13 : Ins E (Res E.T × St E.T) := ⟨[.v (.named 4)], [], fun c => .opt (N.client_of N.fuel c) fun x_ => .ret (.ret [.ptr 1 []], [.dead, .box false (.agg 8 [.agg 4 [.val (.int .i64) x_.Client.ID, .val (.int .i64) x_.Client.Now, .val (.int .i64) x_.Client.Epoch, .val (.int .i64) x_.Client.Seq, .own 2, .own 3, .val (.named 3) x_.Client.Out, .val (.int .i64) x_.Client.Bad, .val (.int .i64) x_.Client.Hits, .val (.int .i64) x_.Client.Asks], .nils]), .arr .live (.named 1) x_.Client.Files, .arr .live .str x_.Client.Names])⟩
theorem i13_ok : InsOk Try.prog 13 i13 := ⟨B13, B13_ok, by intro c out_ h_; exact ((F13 c).trans (N.client_of_bind N.fuel _ c)).trans h_⟩
noncomputable def P13 : Nat × D.Spec E := (13, .full [.data (.named 4)] false (fullF [i13]))
theorem p13 : SpecOk Try.prog E P13.1 P13.2 := fullI_ok ok Try.call13 ⟨i13_ok, trivial⟩

/-! (*tenancy/client.work).says -/
noncomputable def S55 : List (Nat × D.Spec E) := []
theorem S55_ok : AllS Try.prog E S55 := trivial
noncomputable def L55 : Nat → LoopInfo E := clL E 8 [] []
noncomputable def B55 : List (DVal E.T) → St E.T → Tree (Res E.T × St E.T) := tidyF (dbody E (lookS S55) (lookD []) L55 0 false Try.f55)
theorem B55_ok : FnOk Try.prog E 55 B55 := tidy_fn ok (bodyC_ok sound mix S55_ok (SD := []) trivial (L := L55) (N := 0) (keep := false) Try.func55 rfl (by
  intro k g hg fr st out ho
  match k, hg with
  | _, hg => cases hg))
theorem F55 (e : Int) (w_Client_ID : Int) (w_Client_Now : Int) (w_Client_Epoch : Int) (w_Client_Seq : Int) (w_Client_Out : N.TOut) (w_Client_Bad : Int) (w_Client_Hits : Int) (w_Client_Asks : Int) (a1_ : List N.TCache) (a2_ : List (List UInt8)) : (B55 [.ptr 0 [], .val (.int .i64) e] [.box false (.agg 8 [.agg 4 [.val (.int .i64) w_Client_ID, .val (.int .i64) w_Client_Now, .val (.int .i64) w_Client_Epoch, .val (.int .i64) w_Client_Seq, .own 1, .own 2, .val (.named 3) w_Client_Out, .val (.int .i64) w_Client_Bad, .val (.int .i64) w_Client_Hits, .val (.int .i64) w_Client_Asks], .nils]), .arr .live (.named 1) a1_, .arr .live .str a2_]).get = N.client_work_says_k (fun x_ => some (.panic (.ifc 102 (.val (.named 9) x_)), [.box false (.agg 8 [.agg 4 [.val (.int .i64) w_Client_ID, .val (.int .i64) w_Client_Now, .val (.int .i64) w_Client_Epoch, .val (.int .i64) w_Client_Seq, .own 1, .own 2, .val (.named 3) w_Client_Out, .val (.int .i64) w_Client_Bad, .val (.int .i64) w_Client_Hits, .val (.int .i64) w_Client_Asks], .nils]), .arr .live (.named 1) a1_, .arr .live .str a2_])) e (N.Tclient_work.mk (N.TClient.mk w_Client_ID w_Client_Now w_Client_Epoch w_Client_Seq a1_ a2_ w_Client_Out w_Client_Bad w_Client_Hits w_Client_Asks) []) := by kernel_rfl
noncomputable def i55 : Ins E (Res E.T × St E.T) := ⟨[.ptr 0 [], .v (.int .i64)], [.box false (.agg 8 [.agg 4 [.v (.int .i64), .v (.int .i64), .v (.int .i64), .v (.int .i64), .own 1, .own 2, .v (.named 3), .v (.int .i64), .v (.int .i64), .v (.int .i64)], .nils]), .arr .live (.named 1), .arr .live .str], fun e w_Client_ID w_Client_Now w_Client_Epoch w_Client_Seq w_Client_Out w_Client_Bad w_Client_Hits w_Client_Asks a1_ a2_ => .ret (.panic (.ifc 102 (.val (.named 9) (N.client_work_says e (N.Tclient_work.mk (N.TClient.mk w_Client_ID w_Client_Now w_Client_Epoch w_Client_Seq a1_ a2_ w_Client_Out w_Client_Bad w_Client_Hits w_Client_Asks) [])))), [.box false (.agg 8 [.agg 4 [.val (.int .i64) w_Client_ID, .val (.int .i64) w_Client_Now, .val (.int .i64) w_Client_Epoch, .val (.int .i64) w_Client_Seq, .own 1, .own 2, .val (.named 3) w_Client_Out, .val (.int .i64) w_Client_Bad, .val (.int .i64) w_Client_Hits, .val (.int .i64) w_Client_Asks], .nils]), .arr .live (.named 1) a1_, .arr .live .str a2_])⟩
theorem i55_ok : InsOk Try.prog 55 i55 := ⟨B55, B55_ok, by intro e w_Client_ID w_Client_Now w_Client_Epoch w_Client_Seq w_Client_Out w_Client_Bad w_Client_Hits w_Client_Asks a1_ a2_ out_ h_; exact ((F55 e w_Client_ID w_Client_Now w_Client_Epoch w_Client_Seq w_Client_Out w_Client_Bad w_Client_Hits w_Client_Asks a1_ a2_).trans (N.client_work_says_bind _ e (N.Tclient_work.mk (N.TClient.mk w_Client_ID w_Client_Now w_Client_Epoch w_Client_Seq a1_ a2_ w_Client_Out w_Client_Bad w_Client_Hits w_Client_Asks) []))).trans h_⟩
noncomputable def S55a : List (Nat × D.Spec E) := []
theorem S55a_ok : AllS Try.prog E S55a := trivial
noncomputable def L55a : Nat → LoopInfo E := clL E 8 [] []
noncomputable def B55a : List (DVal E.T) → St E.T → Tree (Res E.T × St E.T) := tidyF (dbody E (lookS S55a) (lookD []) L55a 0 false Try.f55)
theorem B55a_ok : FnOk Try.prog E 55 B55a := tidy_fn ok (bodyC_ok sound mix S55a_ok (SD := []) trivial (L := L55a) (N := 0) (keep := false) Try.func55 rfl (by
  intro k g hg fr st out ho
  match k, hg with
  | _, hg => cases hg))
theorem F55a (e : Int) (w_Client_ID : Int) (w_Client_Now : Int) (w_Client_Epoch : Int) (w_Client_Seq : Int) (w_Client_Out : N.TOut) (w_Client_Bad : Int) (w_Client_Hits : Int) (w_Client_Asks : Int) (a1_ : List N.TCache) (a2_ : List (List UInt8)) : (B55a [.ptr 0 [], .val (.int .i64) e] [.box false (.agg 8 [.agg 4 [.val (.int .i64) w_Client_ID, .val (.int .i64) w_Client_Now, .val (.int .i64) w_Client_Epoch, .val (.int .i64) w_Client_Seq, .own 1, .own 2, .val (.named 3) w_Client_Out, .val (.int .i64) w_Client_Bad, .val (.int .i64) w_Client_Hits, .val (.int .i64) w_Client_Asks], .nils]), .arr .fix (.named 1) a1_, .arr .live .str a2_]).get = N.client_work_says_2_k (fun x_ => some (.panic (.ifc 102 (.val (.named 9) x_)), [.box false (.agg 8 [.agg 4 [.val (.int .i64) w_Client_ID, .val (.int .i64) w_Client_Now, .val (.int .i64) w_Client_Epoch, .val (.int .i64) w_Client_Seq, .own 1, .own 2, .val (.named 3) w_Client_Out, .val (.int .i64) w_Client_Bad, .val (.int .i64) w_Client_Hits, .val (.int .i64) w_Client_Asks], .nils]), .arr .fix (.named 1) a1_, .arr .live .str a2_])) e (N.Tclient_work.mk (N.TClient.mk w_Client_ID w_Client_Now w_Client_Epoch w_Client_Seq a1_ a2_ w_Client_Out w_Client_Bad w_Client_Hits w_Client_Asks) []) := by kernel_rfl
noncomputable def i55a : Ins E (Res E.T × St E.T) := ⟨[.ptr 0 [], .v (.int .i64)], [.box false (.agg 8 [.agg 4 [.v (.int .i64), .v (.int .i64), .v (.int .i64), .v (.int .i64), .own 1, .own 2, .v (.named 3), .v (.int .i64), .v (.int .i64), .v (.int .i64)], .nils]), .arr .fix (.named 1), .arr .live .str], fun e w_Client_ID w_Client_Now w_Client_Epoch w_Client_Seq w_Client_Out w_Client_Bad w_Client_Hits w_Client_Asks a1_ a2_ => .ret (.panic (.ifc 102 (.val (.named 9) (N.client_work_says_2 e (N.Tclient_work.mk (N.TClient.mk w_Client_ID w_Client_Now w_Client_Epoch w_Client_Seq a1_ a2_ w_Client_Out w_Client_Bad w_Client_Hits w_Client_Asks) [])))), [.box false (.agg 8 [.agg 4 [.val (.int .i64) w_Client_ID, .val (.int .i64) w_Client_Now, .val (.int .i64) w_Client_Epoch, .val (.int .i64) w_Client_Seq, .own 1, .own 2, .val (.named 3) w_Client_Out, .val (.int .i64) w_Client_Bad, .val (.int .i64) w_Client_Hits, .val (.int .i64) w_Client_Asks], .nils]), .arr .fix (.named 1) a1_, .arr .live .str a2_])⟩
theorem i55a_ok : InsOk Try.prog 55 i55a := ⟨B55a, B55a_ok, by intro e w_Client_ID w_Client_Now w_Client_Epoch w_Client_Seq w_Client_Out w_Client_Bad w_Client_Hits w_Client_Asks a1_ a2_ out_ h_; exact ((F55a e w_Client_ID w_Client_Now w_Client_Epoch w_Client_Seq w_Client_Out w_Client_Bad w_Client_Hits w_Client_Asks a1_ a2_).trans (N.client_work_says_2_bind _ e (N.Tclient_work.mk (N.TClient.mk w_Client_ID w_Client_Now w_Client_Epoch w_Client_Seq a1_ a2_ w_Client_Out w_Client_Bad w_Client_Hits w_Client_Asks) []))).trans h_⟩
noncomputable def P55 : Nat × D.Spec E := (55, .full [.ptr, .data (.int .i64)] false (fullF [i55, i55a]))
theorem p55 : SpecOk Try.prog E P55.1 P55.2 := fullI_ok ok Try.call55 ⟨i55_ok, i55a_ok, trivial⟩

/-! tenancy/dir.May -/
noncomputable def S74 : List (Nat × D.Spec E) := []
theorem S74_ok : AllS Try.prog E S74 := trivial
abbrev h74_s0 (name : List UInt8) (t7 : Int) (r0 : List UInt8) (t8 : Int) : Fr E.T := ofSlots E 27 [] [0, 6, 7, 8] [.val .str name, .own 0, .val (.int .i64) t7, .val (.int .i64) t8]
abbrev t74_s0 (name : List UInt8) (t7 : Int) (r0 : List UInt8) (t8 : Int) : St E.T := [.arr .live (.int .u8) r0]
def x74_s0 (name : List UInt8) (t7 : Int) (r0 : List UInt8) (x_ : Unit ⊕ Unit) : Tree (CodeOut E) := altT x_ (fun u0_ => .ret (.ret, ofSlots E 27 [] [0, 2] [.val .str name, .val .bool false], [.arr .live (.int .u8) r0])) (fun w0_ => .ret (.exit 0, ofSlots E 27 [] [0, 2] [.val .str name, .undef], [.arr .live (.int .u8) r0]))
noncomputable def g74_s0 : Ins E (CodeOut E) := ⟨[.v .str, .own 0, .v (.int .i64), .v (.int .i64)], [.arr .live (.int .u8)], fun name t7 t8 r0 => .opt (N.dir_May_l0 N.fuel name t7 r0 t8) (x74_s0 name t7 r0)⟩
noncomputable def L74 : Nat → LoopInfo E := clL E 27 [{ ks := [0, 6, 7, 8], mvs := [], pro := [], d := [], g := some (insF [g74_s0]) }] []
theorem f74_s0 (name : List UInt8) (t7 : Int) (r0 : List UInt8) (t8 : Int) : ((stepOf E S74 L74 0 0 Try.f74 (h74_s0 name t7 r0 t8) (t74_s0 name t7 r0 t8)).bind (nx E [0, 6, 7, 8] [] [0, 2] 1)).get = N.dir_May_s0k name t7 r0 (fun v_ => some (.inl (h74_s0 name t7 r0 v_, t74_s0 name t7 r0 v_))) (fun x_ => some (.inr (.ret, ofSlots E 27 [] [0, 2] [.val .str name, .val .bool false], [.arr .live (.int .u8) r0]))) (fun x_ => some (.inr (.exit 0, ofSlots E 27 [] [0, 2] [.val .str name, .undef], [.arr .live (.int .u8) r0]))) t8 := by kernel_rfl
theorem q74_s0 : InsLp 27 [0, 6, 7, 8] [] [] (stepOf E S74 L74 0 0 Try.f74) g74_s0 := by
  intro name t7 t8 r0 out_ ho_
  obtain ⟨x_, h1_, h2_⟩ := Option.bind_eq_some_iff.1 ho_
  refine iter_loop (rs := [0, 2]) (step := N.dir_May_s0 name t7 r0) (hd := fun v_ => h74_s0 name t7 r0 v_) (sv := fun v_ => t74_s0 name t7 r0 v_) (ex := x74_s0 name t7 r0) (fun v_ => ?_) N.fuel t8 h1_ h2_
  refine (f74_s0 name t7 r0 v_).trans ((N.dir_May_s0_bind name t7 r0 _ _ _ v_).trans ?_)
  refine congrArg _ (funext fun s_ => ?_)
  rcases s_ with v_ | a | a <;> rfl
noncomputable def B74 : List (DVal E.T) → St E.T → Tree (Res E.T × St E.T) := dbody E (lookS S74) (lookD []) L74 0 false Try.f74
theorem B74_ok : FnOk Try.prog E 74 B74 := bodyC_ok sound mix S74_ok (SD := []) trivial (L := L74) (N := 0) (keep := false) Try.func74 rfl (by
  intro k g hg fr st out ho
  match k, hg with
  | 0, hg => cases hg; exact lp_ok (allLp_cons q74_s0 (allLp_nil)) fr st out ho
  | _ + 1, hg => cases hg)
theorem F74 (name : List UInt8) : (B74 [.val .str name] []).get = N.dir_May_k N.fuel (fun x_ => some (.ret [.val .bool x_], [])) name := by kernel_rfl
noncomputable def i74 : Ins E (Res E.T × St E.T) := ⟨[.v .str], [], fun name => .opt (N.dir_May N.fuel name) fun x_ => .ret (.ret [.val .bool x_], [])⟩
theorem i74_ok : InsOk Try.prog 74 i74 := ⟨B74, B74_ok, by intro name out_ h_; exact ((F74 name).trans (N.dir_May_bind N.fuel _ name)).trans h_⟩
noncomputable def P74 : Nat × D.Spec E := (74, .pure [.str] (pureF [i74]))
theorem p74 : SpecOk Try.prog E P74.1 P74.2 := pureI_ok Try.call74 ⟨i74_ok, trivial⟩

/-! slices.Index[[]string,string] -/
noncomputable def S75 : List (Nat × D.Spec E) := []
theorem S75_ok : AllS Try.prog E S75 := trivial
abbrev h75_s0 (s : List (List UInt8)) (v : List UInt8) (t7 : Int) (t8 : Int) : Fr E.T := ofSlots E 19 [] [0, 1, 7, 8] [.val (.slice .str) s, .val .str v, .val (.int .i64) t7, .val (.int .i64) t8]
abbrev t75_s0 (s : List (List UInt8)) (v : List UInt8) (t7 : Int) (t8 : Int) : St E.T := []
def x75_s0 (s : List (List UInt8)) (v : List UInt8) (t7 : Int) (x_ : Int ⊕ Unit) : Tree (CodeOut E) := altT x_ (fun u0_ => .ret (.ret, ofSlots E 19 [] [4] [.val (.int .i64) u0_], [])) (fun w0_ => .ret (.exit 0, ofSlots E 19 [] [4] [.undef], []))
noncomputable def g75_s0 : Ins E (CodeOut E) := ⟨[.v (.slice .str), .v .str, .v (.int .i64), .v (.int .i64)], [], fun s v t7 t8 => .opt (N.slices_Index_string_l0 N.fuel s v t7 t8) (x75_s0 s v t7)⟩
noncomputable def L75 : Nat → LoopInfo E := clL E 19 [{ ks := [0, 1, 7, 8], mvs := [], pro := [], d := [], g := some (insF [g75_s0]) }] []
theorem f75_s0 (s : List (List UInt8)) (v : List UInt8) (t7 : Int) (t8 : Int) : ((stepOf E S75 L75 0 0 Try.f75 (h75_s0 s v t7 t8) (t75_s0 s v t7 t8)).bind (nx E [0, 1, 7, 8] [] [4] 0)).get = N.slices_Index_string_s0k s v t7 (fun v_ => some (.inl (h75_s0 s v t7 v_, t75_s0 s v t7 v_))) (fun x_ => some (.inr (.ret, ofSlots E 19 [] [4] [.val (.int .i64) x_], []))) (fun x_ => some (.inr (.exit 0, ofSlots E 19 [] [4] [.undef], []))) t8 := by kernel_rfl
theorem q75_s0 : InsLp 19 [0, 1, 7, 8] [] [] (stepOf E S75 L75 0 0 Try.f75) g75_s0 := by
  intro s v t7 t8 out_ ho_
  obtain ⟨x_, h1_, h2_⟩ := Option.bind_eq_some_iff.1 ho_
  refine iter_loop (rs := [4]) (step := N.slices_Index_string_s0 s v t7) (hd := fun v_ => h75_s0 s v t7 v_) (sv := fun v_ => t75_s0 s v t7 v_) (ex := x75_s0 s v t7) (fun v_ => ?_) N.fuel t8 h1_ h2_
  refine (f75_s0 s v t7 v_).trans ((N.slices_Index_string_s0_bind s v t7 _ _ _ v_).trans ?_)
  refine congrArg _ (funext fun s_ => ?_)
  rcases s_ with v_ | a | a <;> rfl
noncomputable def B75 : List (DVal E.T) → St E.T → Tree (Res E.T × St E.T) := dbody E (lookS S75) (lookD []) L75 0 false Try.f75
theorem B75_ok : FnOk Try.prog E 75 B75 := bodyC_ok sound mix S75_ok (SD := []) trivial (L := L75) (N := 0) (keep := false) Try.func75 rfl (by
  intro k g hg fr st out ho
  match k, hg with
  | 0, hg => cases hg; exact lp_ok (allLp_cons q75_s0 (allLp_nil)) fr st out ho
  | _ + 1, hg => cases hg)
theorem F75 (s : List (List UInt8)) (v : List UInt8) : (B75 [.val (.slice .str) s, .val .str v] []).get = N.slices_Index_string_k N.fuel (fun x_ => some (.ret [.val (.int .i64) x_], [])) s v := by kernel_rfl
noncomputable def i75 : Ins E (Res E.T × St E.T) := ⟨[.v (.slice .str), .v .str], [], fun s v => .opt (N.slices_Index_string N.fuel s v) fun x_ => .ret (.ret [.val (.int .i64) x_], [])⟩
theorem i75_ok : InsOk Try.prog 75 i75 := ⟨B75, B75_ok, by intro s v out_ h_; exact ((F75 s v).trans (N.slices_Index_string_bind N.fuel _ s v)).trans h_⟩
noncomputable def P75 : Nat × D.Spec E := (75, .pure [(.slice .str), .str] (pureF [i75]))
theorem p75 : SpecOk Try.prog E P75.1 P75.2 := pureI_ok Try.call75 ⟨i75_ok, trivial⟩

/-! (*tenancy/client.work).free -/
noncomputable def S76 : List (Nat × D.Spec E) := [P55]
theorem S76_ok : AllS Try.prog E S76 := ⟨p55, trivial⟩
noncomputable def L76 : Nat → LoopInfo E := clL E 10 [] []
noncomputable def B76 : List (DVal E.T) → St E.T → Tree (Res E.T × St E.T) := tidyF (dbody E (lookS S76) (lookD []) L76 0 false Try.f76)
theorem B76_ok : FnOk Try.prog E 76 B76 := tidy_fn ok (bodyC_ok sound mix S76_ok (SD := []) trivial (L := L76) (N := 0) (keep := false) Try.func76 rfl (by
  intro k g hg fr st out ho
  match k, hg with
  | _, hg => cases hg))
theorem F76 (w_Client_ID : Int) (w_Client_Now : Int) (w_Client_Epoch : Int) (w_Client_Seq : Int) (w_Client_Out : N.TOut) (w_Client_Bad : Int) (w_Client_Hits : Int) (w_Client_Asks : Int) (a1_ : List N.TCache) (a2_ : List (List UInt8)) : (B76 [.ptr 0 []] [.box false (.agg 8 [.agg 4 [.val (.int .i64) w_Client_ID, .val (.int .i64) w_Client_Now, .val (.int .i64) w_Client_Epoch, .val (.int .i64) w_Client_Seq, .own 1, .own 2, .val (.named 3) w_Client_Out, .val (.int .i64) w_Client_Bad, .val (.int .i64) w_Client_Hits, .val (.int .i64) w_Client_Asks], .nils]), .arr .live (.named 1) a1_, .arr .live .str a2_]).get = N.client_work_free_k (fun x_ => some (.ret [], [.box false (.agg 8 [.agg 4 [.val (.int .i64) w_Client_ID, .val (.int .i64) w_Client_Now, .val (.int .i64) w_Client_Epoch, .val (.int .i64) w_Client_Seq, .own 1, .own 2, .val (.named 3) w_Client_Out, .val (.int .i64) w_Client_Bad, .val (.int .i64) w_Client_Hits, .val (.int .i64) w_Client_Asks], .nils]), .arr .live (.named 1) a1_, .arr .live .str a2_])) (fun x_ => some (.panic (.ifc 102 (.val (.named 9) x_)), [.box false (.agg 8 [.agg 4 [.val (.int .i64) w_Client_ID, .val (.int .i64) w_Client_Now, .val (.int .i64) w_Client_Epoch, .val (.int .i64) w_Client_Seq, .own 1, .own 2, .val (.named 3) w_Client_Out, .val (.int .i64) w_Client_Bad, .val (.int .i64) w_Client_Hits, .val (.int .i64) w_Client_Asks], .nils]), .arr .live (.named 1) a1_, .arr .live .str a2_])) (N.Tclient_work.mk (N.TClient.mk w_Client_ID w_Client_Now w_Client_Epoch w_Client_Seq a1_ a2_ w_Client_Out w_Client_Bad w_Client_Hits w_Client_Asks) []) := by kernel_rfl
noncomputable def i76 : Ins E (Res E.T × St E.T) := ⟨[.ptr 0 []], [.box false (.agg 8 [.agg 4 [.v (.int .i64), .v (.int .i64), .v (.int .i64), .v (.int .i64), .own 1, .own 2, .v (.named 3), .v (.int .i64), .v (.int .i64), .v (.int .i64)], .nils]), .arr .live (.named 1), .arr .live .str], fun w_Client_ID w_Client_Now w_Client_Epoch w_Client_Seq w_Client_Out w_Client_Bad w_Client_Hits w_Client_Asks a1_ a2_ => .opt (N.client_work_free (N.Tclient_work.mk (N.TClient.mk w_Client_ID w_Client_Now w_Client_Epoch w_Client_Seq a1_ a2_ w_Client_Out w_Client_Bad w_Client_Hits w_Client_Asks) [])) fun x_ => altT x_ (fun u0_ => .ret (.ret [], [.box false (.agg 8 [.agg 4 [.val (.int .i64) w_Client_ID, .val (.int .i64) w_Client_Now, .val (.int .i64) w_Client_Epoch, .val (.int .i64) w_Client_Seq, .own 1, .own 2, .val (.named 3) w_Client_Out, .val (.int .i64) w_Client_Bad, .val (.int .i64) w_Client_Hits, .val (.int .i64) w_Client_Asks], .nils]), .arr .live (.named 1) a1_, .arr .live .str a2_])) (fun w0_ => .ret (.panic (.ifc 102 (.val (.named 9) w0_)), [.box false (.agg 8 [.agg 4 [.val (.int .i64) w_Client_ID, .val (.int .i64) w_Client_Now, .val (.int .i64) w_Client_Epoch, .val (.int .i64) w_Client_Seq, .own 1, .own 2, .val (.named 3) w_Client_Out, .val (.int .i64) w_Client_Bad, .val (.int .i64) w_Client_Hits, .val (.int .i64) w_Client_Asks], .nils]), .arr .live (.named 1) a1_, .arr .live .str a2_]))⟩
theorem i76_ok : InsOk Try.prog 76 i76 := ⟨B76, B76_ok, by intro w_Client_ID w_Client_Now w_Client_Epoch w_Client_Seq w_Client_Out w_Client_Bad w_Client_Hits w_Client_Asks a1_ a2_ out_ h_; exact ((F76 w_Client_ID w_Client_Now w_Client_Epoch w_Client_Seq w_Client_Out w_Client_Bad w_Client_Hits w_Client_Asks a1_ a2_).trans (N.client_work_free_bind _ _ (N.Tclient_work.mk (N.TClient.mk w_Client_ID w_Client_Now w_Client_Epoch w_Client_Seq a1_ a2_ w_Client_Out w_Client_Bad w_Client_Hits w_Client_Asks) []))).trans h_⟩
noncomputable def S76a : List (Nat × D.Spec E) := [P55]
theorem S76a_ok : AllS Try.prog E S76a := ⟨p55, trivial⟩
noncomputable def L76a : Nat → LoopInfo E := clL E 10 [] []
noncomputable def B76a : List (DVal E.T) → St E.T → Tree (Res E.T × St E.T) := tidyF (dbody E (lookS S76a) (lookD []) L76a 0 false Try.f76)
theorem B76a_ok : FnOk Try.prog E 76 B76a := tidy_fn ok (bodyC_ok sound mix S76a_ok (SD := []) trivial (L := L76a) (N := 0) (keep := false) Try.func76 rfl (by
  intro k g hg fr st out ho
  match k, hg with
  | _, hg => cases hg))
theorem F76a (w_Client_ID : Int) (w_Client_Now : Int) (w_Client_Epoch : Int) (w_Client_Seq : Int) (w_Client_Out : N.TOut) (w_Client_Bad : Int) (w_Client_Hits : Int) (w_Client_Asks : Int) (a1_ : List N.TCache) (a2_ : List (List UInt8)) : (B76a [.ptr 0 []] [.box false (.agg 8 [.agg 4 [.val (.int .i64) w_Client_ID, .val (.int .i64) w_Client_Now, .val (.int .i64) w_Client_Epoch, .val (.int .i64) w_Client_Seq, .own 1, .own 2, .val (.named 3) w_Client_Out, .val (.int .i64) w_Client_Bad, .val (.int .i64) w_Client_Hits, .val (.int .i64) w_Client_Asks], .nils]), .arr .fix (.named 1) a1_, .arr .live .str a2_]).get = N.client_work_free_2_k (fun x_ => some (.ret [], [.box false (.agg 8 [.agg 4 [.val (.int .i64) w_Client_ID, .val (.int .i64) w_Client_Now, .val (.int .i64) w_Client_Epoch, .val (.int .i64) w_Client_Seq, .own 1, .own 2, .val (.named 3) w_Client_Out, .val (.int .i64) w_Client_Bad, .val (.int .i64) w_Client_Hits, .val (.int .i64) w_Client_Asks], .nils]), .arr .fix (.named 1) a1_, .arr .live .str a2_])) (fun x_ => some (.panic (.ifc 102 (.val (.named 9) x_)), [.box false (.agg 8 [.agg 4 [.val (.int .i64) w_Client_ID, .val (.int .i64) w_Client_Now, .val (.int .i64) w_Client_Epoch, .val (.int .i64) w_Client_Seq, .own 1, .own 2, .val (.named 3) w_Client_Out, .val (.int .i64) w_Client_Bad, .val (.int .i64) w_Client_Hits, .val (.int .i64) w_Client_Asks], .nils]), .arr .fix (.named 1) a1_, .arr .live .str a2_])) (N.Tclient_work.mk (N.TClient.mk w_Client_ID w_Client_Now w_Client_Epoch w_Client_Seq a1_ a2_ w_Client_Out w_Client_Bad w_Client_Hits w_Client_Asks) []) := by kernel_rfl
noncomputable def i76a : Ins E (Res E.T × St E.T) := ⟨[.ptr 0 []], [.box false (.agg 8 [.agg 4 [.v (.int .i64), .v (.int .i64), .v (.int .i64), .v (.int .i64), .own 1, .own 2, .v (.named 3), .v (.int .i64), .v (.int .i64), .v (.int .i64)], .nils]), .arr .fix (.named 1), .arr .live .str], fun w_Client_ID w_Client_Now w_Client_Epoch w_Client_Seq w_Client_Out w_Client_Bad w_Client_Hits w_Client_Asks a1_ a2_ => .opt (N.client_work_free_2 (N.Tclient_work.mk (N.TClient.mk w_Client_ID w_Client_Now w_Client_Epoch w_Client_Seq a1_ a2_ w_Client_Out w_Client_Bad w_Client_Hits w_Client_Asks) [])) fun x_ => altT x_ (fun u0_ => .ret (.ret [], [.box false (.agg 8 [.agg 4 [.val (.int .i64) w_Client_ID, .val (.int .i64) w_Client_Now, .val (.int .i64) w_Client_Epoch, .val (.int .i64) w_Client_Seq, .own 1, .own 2, .val (.named 3) w_Client_Out, .val (.int .i64) w_Client_Bad, .val (.int .i64) w_Client_Hits, .val (.int .i64) w_Client_Asks], .nils]), .arr .fix (.named 1) a1_, .arr .live .str a2_])) (fun w0_ => .ret (.panic (.ifc 102 (.val (.named 9) w0_)), [.box false (.agg 8 [.agg 4 [.val (.int .i64) w_Client_ID, .val (.int .i64) w_Client_Now, .val (.int .i64) w_Client_Epoch, .val (.int .i64) w_Client_Seq, .own 1, .own 2, .val (.named 3) w_Client_Out, .val (.int .i64) w_Client_Bad, .val (.int .i64) w_Client_Hits, .val (.int .i64) w_Client_Asks], .nils]), .arr .fix (.named 1) a1_, .arr .live .str a2_]))⟩
theorem i76a_ok : InsOk Try.prog 76 i76a := ⟨B76a, B76a_ok, by intro w_Client_ID w_Client_Now w_Client_Epoch w_Client_Seq w_Client_Out w_Client_Bad w_Client_Hits w_Client_Asks a1_ a2_ out_ h_; exact ((F76a w_Client_ID w_Client_Now w_Client_Epoch w_Client_Seq w_Client_Out w_Client_Bad w_Client_Hits w_Client_Asks a1_ a2_).trans (N.client_work_free_2_bind _ _ (N.Tclient_work.mk (N.TClient.mk w_Client_ID w_Client_Now w_Client_Epoch w_Client_Seq a1_ a2_ w_Client_Out w_Client_Bad w_Client_Hits w_Client_Asks) []))).trans h_⟩
noncomputable def P76 : Nat × D.Spec E := (76, .full [.ptr] false (fullF [i76, i76a]))
theorem p76 : SpecOk Try.prog E P76.1 P76.2 := fullI_ok ok Try.call76 ⟨i76_ok, i76a_ok, trivial⟩

/-! (*tenancy/client.work).again -/
noncomputable def S24 : List (Nat × D.Spec E) := [P34]
theorem S24_ok : AllS Try.prog E S24 := ⟨p34, trivial⟩
noncomputable def L24 : Nat → LoopInfo E := clL E 28 [] []
noncomputable def B24 : List (DVal E.T) → St E.T → Tree (Res E.T × St E.T) := tidyF (dbody E (lookS S24) (lookD []) L24 0 true Try.f24)
theorem B24_ok : FnOk Try.prog E 24 B24 := tidy_fn ok (bodyC_ok sound mix S24_ok (SD := []) trivial (L := L24) (N := 0) (keep := true) Try.func24 rfl (by
  intro k g hg fr st out ho
  match k, hg with
  | _, hg => cases hg))
theorem F24 (w_Client_ID : Int) (w_Client_Now : Int) (w_Client_Epoch : Int) (w_Client_Seq : Int) (w_Client_Out : N.TOut) (w_Client_Bad : Int) (w_Client_Hits : Int) (w_Client_Asks : Int) (a1_ : List N.TCache) (a2_ : List (List UInt8)) : (B24 [.ptr 0 []] [.box false (.agg 8 [.agg 4 [.val (.int .i64) w_Client_ID, .val (.int .i64) w_Client_Now, .val (.int .i64) w_Client_Epoch, .val (.int .i64) w_Client_Seq, .own 1, .own 2, .val (.named 3) w_Client_Out, .val (.int .i64) w_Client_Bad, .val (.int .i64) w_Client_Hits, .val (.int .i64) w_Client_Asks], .nils]), .arr .live (.named 1) a1_, .arr .live .str a2_]).get = N.client_work_again_k (fun x_ => some (.ret [], [.box false (.agg 8 [.agg 4 [.val (.int .i64) x_.Client.ID, .val (.int .i64) x_.Client.Now, .val (.int .i64) x_.Client.Epoch, .val (.int .i64) x_.Client.Seq, .own 1, .own 2, .val (.named 3) x_.Client.Out, .val (.int .i64) x_.Client.Bad, .val (.int .i64) x_.Client.Hits, .val (.int .i64) x_.Client.Asks], .own 3]), .arr .live (.named 1) x_.Client.Files, .arr .live .str x_.Client.Names, .arr .live (.named 2) x_.asked])) (N.Tclient_work.mk (N.TClient.mk w_Client_ID w_Client_Now w_Client_Epoch w_Client_Seq a1_ a2_ w_Client_Out w_Client_Bad w_Client_Hits w_Client_Asks) []) := by kernel_rfl
noncomputable def i24 : Ins E (Res E.T × St E.T) := ⟨[.ptr 0 []], [.box false (.agg 8 [.agg 4 [.v (.int .i64), .v (.int .i64), .v (.int .i64), .v (.int .i64), .own 1, .own 2, .v (.named 3), .v (.int .i64), .v (.int .i64), .v (.int .i64)], .nils]), .arr .live (.named 1), .arr .live .str], fun w_Client_ID w_Client_Now w_Client_Epoch w_Client_Seq w_Client_Out w_Client_Bad w_Client_Hits w_Client_Asks a1_ a2_ => .ret (.ret [], [.box false (.agg 8 [.agg 4 [.val (.int .i64) ((N.client_work_again (N.Tclient_work.mk (N.TClient.mk w_Client_ID w_Client_Now w_Client_Epoch w_Client_Seq a1_ a2_ w_Client_Out w_Client_Bad w_Client_Hits w_Client_Asks) [])).Client.ID), .val (.int .i64) ((N.client_work_again (N.Tclient_work.mk (N.TClient.mk w_Client_ID w_Client_Now w_Client_Epoch w_Client_Seq a1_ a2_ w_Client_Out w_Client_Bad w_Client_Hits w_Client_Asks) [])).Client.Now), .val (.int .i64) ((N.client_work_again (N.Tclient_work.mk (N.TClient.mk w_Client_ID w_Client_Now w_Client_Epoch w_Client_Seq a1_ a2_ w_Client_Out w_Client_Bad w_Client_Hits w_Client_Asks) [])).Client.Epoch), .val (.int .i64) ((N.client_work_again (N.Tclient_work.mk (N.TClient.mk w_Client_ID w_Client_Now w_Client_Epoch w_Client_Seq a1_ a2_ w_Client_Out w_Client_Bad w_Client_Hits w_Client_Asks) [])).Client.Seq), .own 1, .own 2, .val (.named 3) ((N.client_work_again (N.Tclient_work.mk (N.TClient.mk w_Client_ID w_Client_Now w_Client_Epoch w_Client_Seq a1_ a2_ w_Client_Out w_Client_Bad w_Client_Hits w_Client_Asks) [])).Client.Out), .val (.int .i64) ((N.client_work_again (N.Tclient_work.mk (N.TClient.mk w_Client_ID w_Client_Now w_Client_Epoch w_Client_Seq a1_ a2_ w_Client_Out w_Client_Bad w_Client_Hits w_Client_Asks) [])).Client.Bad), .val (.int .i64) ((N.client_work_again (N.Tclient_work.mk (N.TClient.mk w_Client_ID w_Client_Now w_Client_Epoch w_Client_Seq a1_ a2_ w_Client_Out w_Client_Bad w_Client_Hits w_Client_Asks) [])).Client.Hits), .val (.int .i64) ((N.client_work_again (N.Tclient_work.mk (N.TClient.mk w_Client_ID w_Client_Now w_Client_Epoch w_Client_Seq a1_ a2_ w_Client_Out w_Client_Bad w_Client_Hits w_Client_Asks) [])).Client.Asks)], .own 3]), .arr .live (.named 1) ((N.client_work_again (N.Tclient_work.mk (N.TClient.mk w_Client_ID w_Client_Now w_Client_Epoch w_Client_Seq a1_ a2_ w_Client_Out w_Client_Bad w_Client_Hits w_Client_Asks) [])).Client.Files), .arr .live .str ((N.client_work_again (N.Tclient_work.mk (N.TClient.mk w_Client_ID w_Client_Now w_Client_Epoch w_Client_Seq a1_ a2_ w_Client_Out w_Client_Bad w_Client_Hits w_Client_Asks) [])).Client.Names), .arr .live (.named 2) ((N.client_work_again (N.Tclient_work.mk (N.TClient.mk w_Client_ID w_Client_Now w_Client_Epoch w_Client_Seq a1_ a2_ w_Client_Out w_Client_Bad w_Client_Hits w_Client_Asks) [])).asked)])⟩
theorem i24_ok : InsOk Try.prog 24 i24 := ⟨B24, B24_ok, by intro w_Client_ID w_Client_Now w_Client_Epoch w_Client_Seq w_Client_Out w_Client_Bad w_Client_Hits w_Client_Asks a1_ a2_ out_ h_; exact ((F24 w_Client_ID w_Client_Now w_Client_Epoch w_Client_Seq w_Client_Out w_Client_Bad w_Client_Hits w_Client_Asks a1_ a2_).trans (N.client_work_again_bind _ (N.Tclient_work.mk (N.TClient.mk w_Client_ID w_Client_Now w_Client_Epoch w_Client_Seq a1_ a2_ w_Client_Out w_Client_Bad w_Client_Hits w_Client_Asks) []))).trans h_⟩
noncomputable def S24a : List (Nat × D.Spec E) := [P34]
theorem S24a_ok : AllS Try.prog E S24a := ⟨p34, trivial⟩
noncomputable def L24a : Nat → LoopInfo E := clL E 28 [] []
noncomputable def B24a : List (DVal E.T) → St E.T → Tree (Res E.T × St E.T) := tidyF (dbody E (lookS S24a) (lookD []) L24a 0 true Try.f24)
theorem B24a_ok : FnOk Try.prog E 24 B24a := tidy_fn ok (bodyC_ok sound mix S24a_ok (SD := []) trivial (L := L24a) (N := 0) (keep := true) Try.func24 rfl (by
  intro k g hg fr st out ho
  match k, hg with
  | _, hg => cases hg))
theorem F24a (w_Client_ID : Int) (w_Client_Now : Int) (w_Client_Epoch : Int) (w_Client_Seq : Int) (w_Client_Out : N.TOut) (w_Client_Bad : Int) (w_Client_Hits : Int) (w_Client_Asks : Int) (a1_ : List N.TCache) (a2_ : List (List UInt8)) : (B24a [.ptr 0 []] [.box false (.agg 8 [.agg 4 [.val (.int .i64) w_Client_ID, .val (.int .i64) w_Client_Now, .val (.int .i64) w_Client_Epoch, .val (.int .i64) w_Client_Seq, .own 1, .own 2, .val (.named 3) w_Client_Out, .val (.int .i64) w_Client_Bad, .val (.int .i64) w_Client_Hits, .val (.int .i64) w_Client_Asks], .nils]), .arr .fix (.named 1) a1_, .arr .live .str a2_]).get = N.client_work_again_2_k (fun x_ => some (.ret [], [.box false (.agg 8 [.agg 4 [.val (.int .i64) x_.Client.ID, .val (.int .i64) x_.Client.Now, .val (.int .i64) x_.Client.Epoch, .val (.int .i64) x_.Client.Seq, .own 1, .own 2, .val (.named 3) x_.Client.Out, .val (.int .i64) x_.Client.Bad, .val (.int .i64) x_.Client.Hits, .val (.int .i64) x_.Client.Asks], .own 3]), .arr .fix (.named 1) x_.Client.Files, .arr .live .str x_.Client.Names, .arr .live (.named 2) x_.asked])) (N.Tclient_work.mk (N.TClient.mk w_Client_ID w_Client_Now w_Client_Epoch w_Client_Seq a1_ a2_ w_Client_Out w_Client_Bad w_Client_Hits w_Client_Asks) []) := by kernel_rfl
noncomputable def i24a : Ins E (Res E.T × St E.T) := ⟨[.ptr 0 []], [.box false (.agg 8 [.agg 4 [.v (.int .i64), .v (.int .i64), .v (.int .i64), .v (.int .i64), .own 1, .own 2, .v (.named 3), .v (.int .i64), .v (.int .i64), .v (.int .i64)], .nils]), .arr .fix (.named 1), .arr .live .str], fun w_Client_ID w_Client_Now w_Client_Epoch w_Client_Seq w_Client_Out w_Client_Bad w_Client_Hits w_Client_Asks a1_ a2_ => .ret (.ret [], [.box false (.agg 8 [.agg 4 [.val (.int .i64) ((N.client_work_again_2 (N.Tclient_work.mk (N.TClient.mk w_Client_ID w_Client_Now w_Client_Epoch w_Client_Seq a1_ a2_ w_Client_Out w_Client_Bad w_Client_Hits w_Client_Asks) [])).Client.ID), .val (.int .i64) ((N.client_work_again_2 (N.Tclient_work.mk (N.TClient.mk w_Client_ID w_Client_Now w_Client_Epoch w_Client_Seq a1_ a2_ w_Client_Out w_Client_Bad w_Client_Hits w_Client_Asks) [])).Client.Now), .val (.int .i64) ((N.client_work_again_2 (N.Tclient_work.mk (N.TClient.mk w_Client_ID w_Client_Now w_Client_Epoch w_Client_Seq a1_ a2_ w_Client_Out w_Client_Bad w_Client_Hits w_Client_Asks) [])).Client.Epoch), .val (.int .i64) ((N.client_work_again_2 (N.Tclient_work.mk (N.TClient.mk w_Client_ID w_Client_Now w_Client_Epoch w_Client_Seq a1_ a2_ w_Client_Out w_Client_Bad w_Client_Hits w_Client_Asks) [])).Client.Seq), .own 1, .own 2, .val (.named 3) ((N.client_work_again_2 (N.Tclient_work.mk (N.TClient.mk w_Client_ID w_Client_Now w_Client_Epoch w_Client_Seq a1_ a2_ w_Client_Out w_Client_Bad w_Client_Hits w_Client_Asks) [])).Client.Out), .val (.int .i64) ((N.client_work_again_2 (N.Tclient_work.mk (N.TClient.mk w_Client_ID w_Client_Now w_Client_Epoch w_Client_Seq a1_ a2_ w_Client_Out w_Client_Bad w_Client_Hits w_Client_Asks) [])).Client.Bad), .val (.int .i64) ((N.client_work_again_2 (N.Tclient_work.mk (N.TClient.mk w_Client_ID w_Client_Now w_Client_Epoch w_Client_Seq a1_ a2_ w_Client_Out w_Client_Bad w_Client_Hits w_Client_Asks) [])).Client.Hits), .val (.int .i64) ((N.client_work_again_2 (N.Tclient_work.mk (N.TClient.mk w_Client_ID w_Client_Now w_Client_Epoch w_Client_Seq a1_ a2_ w_Client_Out w_Client_Bad w_Client_Hits w_Client_Asks) [])).Client.Asks)], .own 3]), .arr .fix (.named 1) ((N.client_work_again_2 (N.Tclient_work.mk (N.TClient.mk w_Client_ID w_Client_Now w_Client_Epoch w_Client_Seq a1_ a2_ w_Client_Out w_Client_Bad w_Client_Hits w_Client_Asks) [])).Client.Files), .arr .live .str ((N.client_work_again_2 (N.Tclient_work.mk (N.TClient.mk w_Client_ID w_Client_Now w_Client_Epoch w_Client_Seq a1_ a2_ w_Client_Out w_Client_Bad w_Client_Hits w_Client_Asks) [])).Client.Names), .arr .live (.named 2) ((N.client_work_again_2 (N.Tclient_work.mk (N.TClient.mk w_Client_ID w_Client_Now w_Client_Epoch w_Client_Seq a1_ a2_ w_Client_Out w_Client_Bad w_Client_Hits w_Client_Asks) [])).asked)])⟩
theorem i24a_ok : InsOk Try.prog 24 i24a := ⟨B24a, B24a_ok, by intro w_Client_ID w_Client_Now w_Client_Epoch w_Client_Seq w_Client_Out w_Client_Bad w_Client_Hits w_Client_Asks a1_ a2_ out_ h_; exact ((F24a w_Client_ID w_Client_Now w_Client_Epoch w_Client_Seq w_Client_Out w_Client_Bad w_Client_Hits w_Client_Asks a1_ a2_).trans (N.client_work_again_2_bind _ (N.Tclient_work.mk (N.TClient.mk w_Client_ID w_Client_Now w_Client_Epoch w_Client_Seq a1_ a2_ w_Client_Out w_Client_Bad w_Client_Hits w_Client_Asks) []))).trans h_⟩
noncomputable def P24 : Nat × D.Spec E := (24, .full [.ptr] false (fullF [i24, i24a]))
theorem p24 : SpecOk Try.prog E P24.1 P24.2 := fullI_ok ok Try.call24 ⟨i24_ok, i24a_ok, trivial⟩

/-! (*tenancy/client.work).asks -/
noncomputable def S50 : List (Nat × D.Spec E) := [P24, P34]
theorem S50_ok : AllS Try.prog E S50 := ⟨p24, p34, trivial⟩
noncomputable def L50 : Nat → LoopInfo E := clL E 54 [] []
noncomputable def B50 : List (DVal E.T) → St E.T → Tree (Res E.T × St E.T) := tidyF (dbody E (lookS S50) (lookD []) L50 0 true Try.f50)
theorem B50_ok : FnOk Try.prog E 50 B50 := tidy_fn ok (bodyC_ok sound mix S50_ok (SD := []) trivial (L := L50) (N := 0) (keep := true) Try.func50 rfl (by
  intro k g hg fr st out ho
  match k, hg with
  | _, hg => cases hg))
theorem F50 (a : N.TAsk) (w_Client_ID : Int) (w_Client_Now : Int) (w_Client_Epoch : Int) (w_Client_Seq : Int) (w_Client_Out : N.TOut) (w_Client_Bad : Int) (w_Client_Hits : Int) (w_Client_Asks : Int) (a1_ : List N.TCache) (a2_ : List (List UInt8)) : (B50 [.ptr 0 [], .val (.named 2) a] [.box false (.agg 8 [.agg 4 [.val (.int .i64) w_Client_ID, .val (.int .i64) w_Client_Now, .val (.int .i64) w_Client_Epoch, .val (.int .i64) w_Client_Seq, .own 1, .own 2, .val (.named 3) w_Client_Out, .val (.int .i64) w_Client_Bad, .val (.int .i64) w_Client_Hits, .val (.int .i64) w_Client_Asks], .nils]), .arr .live (.named 1) a1_, .arr .live .str a2_]).get = N.client_work_asks_k (fun x_ => some (.ret [], [.box false (.agg 8 [.agg 4 [.val (.int .i64) x_.Client.ID, .val (.int .i64) x_.Client.Now, .val (.int .i64) x_.Client.Epoch, .val (.int .i64) x_.Client.Seq, .own 1, .own 2, .val (.named 3) x_.Client.Out, .val (.int .i64) x_.Client.Bad, .val (.int .i64) x_.Client.Hits, .val (.int .i64) x_.Client.Asks], .own 4]), .arr .live (.named 1) x_.Client.Files, .arr .live .str x_.Client.Names, .dead, .arr .live (.named 2) x_.asked])) a (N.Tclient_work.mk (N.TClient.mk w_Client_ID w_Client_Now w_Client_Epoch w_Client_Seq a1_ a2_ w_Client_Out w_Client_Bad w_Client_Hits w_Client_Asks) []) := by kernel_rfl
noncomputable def i50 : Ins E (Res E.T × St E.T) := ⟨[.ptr 0 [], .v (.named 2)], [.box false (.agg 8 [.agg 4 [.v (.int .i64), .v (.int .i64), .v (.int .i64), .v (.int .i64), .own 1, .own 2, .v (.named 3), .v (.int .i64), .v (.int .i64), .v (.int .i64)], .nils]), .arr .live (.named 1), .arr .live .str], fun a w_Client_ID w_Client_Now w_Client_Epoch w_Client_Seq w_Client_Out w_Client_Bad w_Client_Hits w_Client_Asks a1_ a2_ => .ret (.ret [], [.box false (.agg 8 [.agg 4 [.val (.int .i64) ((N.client_work_asks a (N.Tclient_work.mk (N.TClient.mk w_Client_ID w_Client_Now w_Client_Epoch w_Client_Seq a1_ a2_ w_Client_Out w_Client_Bad w_Client_Hits w_Client_Asks) [])).Client.ID), .val (.int .i64) ((N.client_work_asks a (N.Tclient_work.mk (N.TClient.mk w_Client_ID w_Client_Now w_Client_Epoch w_Client_Seq a1_ a2_ w_Client_Out w_Client_Bad w_Client_Hits w_Client_Asks) [])).Client.Now), .val (.int .i64) ((N.client_work_asks a (N.Tclient_work.mk (N.TClient.mk w_Client_ID w_Client_Now w_Client_Epoch w_Client_Seq a1_ a2_ w_Client_Out w_Client_Bad w_Client_Hits w_Client_Asks) [])).Client.Epoch), .val (.int .i64) ((N.client_work_asks a (N.Tclient_work.mk (N.TClient.mk w_Client_ID w_Client_Now w_Client_Epoch w_Client_Seq a1_ a2_ w_Client_Out w_Client_Bad w_Client_Hits w_Client_Asks) [])).Client.Seq), .own 1, .own 2, .val (.named 3) ((N.client_work_asks a (N.Tclient_work.mk (N.TClient.mk w_Client_ID w_Client_Now w_Client_Epoch w_Client_Seq a1_ a2_ w_Client_Out w_Client_Bad w_Client_Hits w_Client_Asks) [])).Client.Out), .val (.int .i64) ((N.client_work_asks a (N.Tclient_work.mk (N.TClient.mk w_Client_ID w_Client_Now w_Client_Epoch w_Client_Seq a1_ a2_ w_Client_Out w_Client_Bad w_Client_Hits w_Client_Asks) [])).Client.Bad), .val (.int .i64) ((N.client_work_asks a (N.Tclient_work.mk (N.TClient.mk w_Client_ID w_Client_Now w_Client_Epoch w_Client_Seq a1_ a2_ w_Client_Out w_Client_Bad w_Client_Hits w_Client_Asks) [])).Client.Hits), .val (.int .i64) ((N.client_work_asks a (N.Tclient_work.mk (N.TClient.mk w_Client_ID w_Client_Now w_Client_Epoch w_Client_Seq a1_ a2_ w_Client_Out w_Client_Bad w_Client_Hits w_Client_Asks) [])).Client.Asks)], .own 4]), .arr .live (.named 1) ((N.client_work_asks a (N.Tclient_work.mk (N.TClient.mk w_Client_ID w_Client_Now w_Client_Epoch w_Client_Seq a1_ a2_ w_Client_Out w_Client_Bad w_Client_Hits w_Client_Asks) [])).Client.Files), .arr .live .str ((N.client_work_asks a (N.Tclient_work.mk (N.TClient.mk w_Client_ID w_Client_Now w_Client_Epoch w_Client_Seq a1_ a2_ w_Client_Out w_Client_Bad w_Client_Hits w_Client_Asks) [])).Client.Names), .dead, .arr .live (.named 2) ((N.client_work_asks a (N.Tclient_work.mk (N.TClient.mk w_Client_ID w_Client_Now w_Client_Epoch w_Client_Seq a1_ a2_ w_Client_Out w_Client_Bad w_Client_Hits w_Client_Asks) [])).asked)])⟩
theorem i50_ok : InsOk Try.prog 50 i50 := ⟨B50, B50_ok, by intro a w_Client_ID w_Client_Now w_Client_Epoch w_Client_Seq w_Client_Out w_Client_Bad w_Client_Hits w_Client_Asks a1_ a2_ out_ h_; exact ((F50 a w_Client_ID w_Client_Now w_Client_Epoch w_Client_Seq w_Client_Out w_Client_Bad w_Client_Hits w_Client_Asks a1_ a2_).trans (N.client_work_asks_bind _ a (N.Tclient_work.mk (N.TClient.mk w_Client_ID w_Client_Now w_Client_Epoch w_Client_Seq a1_ a2_ w_Client_Out w_Client_Bad w_Client_Hits w_Client_Asks) []))).trans h_⟩
noncomputable def S50a : List (Nat × D.Spec E) := [P24, P34]
theorem S50a_ok : AllS Try.prog E S50a := ⟨p24, p34, trivial⟩
noncomputable def L50a : Nat → LoopInfo E := clL E 54 [] []
noncomputable def B50a : List (DVal E.T) → St E.T → Tree (Res E.T × St E.T) := tidyF (dbody E (lookS S50a) (lookD []) L50a 0 true Try.f50)
theorem B50a_ok : FnOk Try.prog E 50 B50a := tidy_fn ok (bodyC_ok sound mix S50a_ok (SD := []) trivial (L := L50a) (N := 0) (keep := true) Try.func50 rfl (by
  intro k g hg fr st out ho
  match k, hg with
  | _, hg => cases hg))
theorem F50a (a : N.TAsk) (w_Client_ID : Int) (w_Client_Now : Int) (w_Client_Epoch : Int) (w_Client_Seq : Int) (w_Client_Out : N.TOut) (w_Client_Bad : Int) (w_Client_Hits : Int) (w_Client_Asks : Int) (a1_ : List N.TCache) (a2_ : List (List UInt8)) : (B50a [.ptr 0 [], .val (.named 2) a] [.box false (.agg 8 [.agg 4 [.val (.int .i64) w_Client_ID, .val (.int .i64) w_Client_Now, .val (.int .i64) w_Client_Epoch, .val (.int .i64) w_Client_Seq, .own 1, .own 2, .val (.named 3) w_Client_Out, .val (.int .i64) w_Client_Bad, .val (.int .i64) w_Client_Hits, .val (.int .i64) w_Client_Asks], .nils]), .arr .fix (.named 1) a1_, .arr .live .str a2_]).get = N.client_work_asks_2_k (fun x_ => some (.ret [], [.box false (.agg 8 [.agg 4 [.val (.int .i64) x_.Client.ID, .val (.int .i64) x_.Client.Now, .val (.int .i64) x_.Client.Epoch, .val (.int .i64) x_.Client.Seq, .own 1, .own 2, .val (.named 3) x_.Client.Out, .val (.int .i64) x_.Client.Bad, .val (.int .i64) x_.Client.Hits, .val (.int .i64) x_.Client.Asks], .own 4]), .arr .fix (.named 1) x_.Client.Files, .arr .live .str x_.Client.Names, .dead, .arr .live (.named 2) x_.asked])) a (N.Tclient_work.mk (N.TClient.mk w_Client_ID w_Client_Now w_Client_Epoch w_Client_Seq a1_ a2_ w_Client_Out w_Client_Bad w_Client_Hits w_Client_Asks) []) := by kernel_rfl
noncomputable def i50a : Ins E (Res E.T × St E.T) := ⟨[.ptr 0 [], .v (.named 2)], [.box false (.agg 8 [.agg 4 [.v (.int .i64), .v (.int .i64), .v (.int .i64), .v (.int .i64), .own 1, .own 2, .v (.named 3), .v (.int .i64), .v (.int .i64), .v (.int .i64)], .nils]), .arr .fix (.named 1), .arr .live .str], fun a w_Client_ID w_Client_Now w_Client_Epoch w_Client_Seq w_Client_Out w_Client_Bad w_Client_Hits w_Client_Asks a1_ a2_ => .ret (.ret [], [.box false (.agg 8 [.agg 4 [.val (.int .i64) ((N.client_work_asks_2 a (N.Tclient_work.mk (N.TClient.mk w_Client_ID w_Client_Now w_Client_Epoch w_Client_Seq a1_ a2_ w_Client_Out w_Client_Bad w_Client_Hits w_Client_Asks) [])).Client.ID), .val (.int .i64) ((N.client_work_asks_2 a (N.Tclient_work.mk (N.TClient.mk w_Client_ID w_Client_Now w_Client_Epoch w_Client_Seq a1_ a2_ w_Client_Out w_Client_Bad w_Client_Hits w_Client_Asks) [])).Client.Now), .val (.int .i64) ((N.client_work_asks_2 a (N.Tclient_work.mk (N.TClient.mk w_Client_ID w_Client_Now w_Client_Epoch w_Client_Seq a1_ a2_ w_Client_Out w_Client_Bad w_Client_Hits w_Client_Asks) [])).Client.Epoch), .val (.int .i64) ((N.client_work_asks_2 a (N.Tclient_work.mk (N.TClient.mk w_Client_ID w_Client_Now w_Client_Epoch w_Client_Seq a1_ a2_ w_Client_Out w_Client_Bad w_Client_Hits w_Client_Asks) [])).Client.Seq), .own 1, .own 2, .val (.named 3) ((N.client_work_asks_2 a (N.Tclient_work.mk (N.TClient.mk w_Client_ID w_Client_Now w_Client_Epoch w_Client_Seq a1_ a2_ w_Client_Out w_Client_Bad w_Client_Hits w_Client_Asks) [])).Client.Out), .val (.int .i64) ((N.client_work_asks_2 a (N.Tclient_work.mk (N.TClient.mk w_Client_ID w_Client_Now w_Client_Epoch w_Client_Seq a1_ a2_ w_Client_Out w_Client_Bad w_Client_Hits w_Client_Asks) [])).Client.Bad), .val (.int .i64) ((N.client_work_asks_2 a (N.Tclient_work.mk (N.TClient.mk w_Client_ID w_Client_Now w_Client_Epoch w_Client_Seq a1_ a2_ w_Client_Out w_Client_Bad w_Client_Hits w_Client_Asks) [])).Client.Hits), .val (.int .i64) ((N.client_work_asks_2 a (N.Tclient_work.mk (N.TClient.mk w_Client_ID w_Client_Now w_Client_Epoch w_Client_Seq a1_ a2_ w_Client_Out w_Client_Bad w_Client_Hits w_Client_Asks) [])).Client.Asks)], .own 4]), .arr .fix (.named 1) ((N.client_work_asks_2 a (N.Tclient_work.mk (N.TClient.mk w_Client_ID w_Client_Now w_Client_Epoch w_Client_Seq a1_ a2_ w_Client_Out w_Client_Bad w_Client_Hits w_Client_Asks) [])).Client.Files), .arr .live .str ((N.client_work_asks_2 a (N.Tclient_work.mk (N.TClient.mk w_Client_ID w_Client_Now w_Client_Epoch w_Client_Seq a1_ a2_ w_Client_Out w_Client_Bad w_Client_Hits w_Client_Asks) [])).Client.Names), .dead, .arr .live (.named 2) ((N.client_work_asks_2 a (N.Tclient_work.mk (N.TClient.mk w_Client_ID w_Client_Now w_Client_Epoch w_Client_Seq a1_ a2_ w_Client_Out w_Client_Bad w_Client_Hits w_Client_Asks) [])).asked)])⟩
theorem i50a_ok : InsOk Try.prog 50 i50a := ⟨B50a, B50a_ok, by intro a w_Client_ID w_Client_Now w_Client_Epoch w_Client_Seq w_Client_Out w_Client_Bad w_Client_Hits w_Client_Asks a1_ a2_ out_ h_; exact ((F50a a w_Client_ID w_Client_Now w_Client_Epoch w_Client_Seq w_Client_Out w_Client_Bad w_Client_Hits w_Client_Asks a1_ a2_).trans (N.client_work_asks_2_bind _ a (N.Tclient_work.mk (N.TClient.mk w_Client_ID w_Client_Now w_Client_Epoch w_Client_Seq a1_ a2_ w_Client_Out w_Client_Bad w_Client_Hits w_Client_Asks) []))).trans h_⟩
noncomputable def P50 : Nat × D.Spec E := (50, .full [.ptr, .data (.named 2)] false (fullF [i50, i50a]))
theorem p50 : SpecOk Try.prog E P50.1 P50.2 := fullI_ok ok Try.call50 ⟨i50_ok, i50a_ok, trivial⟩

/-! (*tenancy/client.work).opens -/
noncomputable def S56 : List (Nat × D.Spec E) := [P50, P55, P74, P75, P76]
theorem S56_ok : AllS Try.prog E S56 := ⟨p50, p55, p74, p75, p76, trivial⟩
noncomputable def L56 : Nat → LoopInfo E := clL E 30 [] []
noncomputable def B56 : List (DVal E.T) → St E.T → Tree (Res E.T × St E.T) := tidyF (dbody E (lookS S56) (lookD []) L56 0 true Try.f56)
theorem B56_ok : FnOk Try.prog E 56 B56 := tidy_fn ok (bodyC_ok sound mix S56_ok (SD := []) trivial (L := L56) (N := 0) (keep := true) Try.func56 rfl (by
  intro k g hg fr st out ho
  match k, hg with
  | _, hg => cases hg))
theorem F56 (name : List UInt8) (w_Client_ID : Int) (w_Client_Now : Int) (w_Client_Epoch : Int) (w_Client_Seq : Int) (w_Client_Out : N.TOut) (w_Client_Bad : Int) (w_Client_Hits : Int) (w_Client_Asks : Int) (a1_ : List N.TCache) (a2_ : List (List UInt8)) : (B56 [.ptr 0 [], .val .str name] [.box false (.agg 8 [.agg 4 [.val (.int .i64) w_Client_ID, .val (.int .i64) w_Client_Now, .val (.int .i64) w_Client_Epoch, .val (.int .i64) w_Client_Seq, .own 1, .own 2, .val (.named 3) w_Client_Out, .val (.int .i64) w_Client_Bad, .val (.int .i64) w_Client_Hits, .val (.int .i64) w_Client_Asks], .nils]), .arr .live (.named 1) a1_, .arr .live .str a2_]).get = N.client_work_opens_k N.fuel (fun x_ => some (.ret [], [.box false (.agg 8 [.agg 4 [.val (.int .i64) x_.Client.ID, .val (.int .i64) x_.Client.Now, .val (.int .i64) x_.Client.Epoch, .val (.int .i64) x_.Client.Seq, .own 1, .own 2, .val (.named 3) x_.Client.Out, .val (.int .i64) x_.Client.Bad, .val (.int .i64) x_.Client.Hits, .val (.int .i64) x_.Client.Asks], .own 4]), .arr .live (.named 1) x_.Client.Files, .arr .live .str x_.Client.Names, .dead, .arr .live (.named 2) x_.asked])) (fun x_ => some (.panic (.ifc 102 (.val (.named 9) x_.1)), [.box false (.agg 8 [.agg 4 [.val (.int .i64) x_.2.Client.ID, .val (.int .i64) x_.2.Client.Now, .val (.int .i64) x_.2.Client.Epoch, .val (.int .i64) x_.2.Client.Seq, .own 1, .own 2, .val (.named 3) x_.2.Client.Out, .val (.int .i64) x_.2.Client.Bad, .val (.int .i64) x_.2.Client.Hits, .val (.int .i64) x_.2.Client.Asks], .nils]), .arr .live (.named 1) x_.2.Client.Files, .arr .live .str x_.2.Client.Names])) name (N.Tclient_work.mk (N.TClient.mk w_Client_ID w_Client_Now w_Client_Epoch w_Client_Seq a1_ a2_ w_Client_Out w_Client_Bad w_Client_Hits w_Client_Asks) []) := by kernel_rfl
noncomputable def i56 : Ins E (Res E.T × St E.T) := ⟨[.ptr 0 [], .v .str], [.box false (.agg 8 [.agg 4 [.v (.int .i64), .v (.int .i64), .v (.int .i64), .v (.int .i64), .own 1, .own 2, .v (.named 3), .v (.int .i64), .v (.int .i64), .v (.int .i64)], .nils]), .arr .live (.named 1), .arr .live .str], fun name w_Client_ID w_Client_Now w_Client_Epoch w_Client_Seq w_Client_Out w_Client_Bad w_Client_Hits w_Client_Asks a1_ a2_ => .opt (N.client_work_opens N.fuel name (N.Tclient_work.mk (N.TClient.mk w_Client_ID w_Client_Now w_Client_Epoch w_Client_Seq a1_ a2_ w_Client_Out w_Client_Bad w_Client_Hits w_Client_Asks) [])) fun x_ => altT x_ (fun u0_ => .ret (.ret [], [.box false (.agg 8 [.agg 4 [.val (.int .i64) u0_.Client.ID, .val (.int .i64) u0_.Client.Now, .val (.int .i64) u0_.Client.Epoch, .val (.int .i64) u0_.Client.Seq, .own 1, .own 2, .val (.named 3) u0_.Client.Out, .val (.int .i64) u0_.Client.Bad, .val (.int .i64) u0_.Client.Hits, .val (.int .i64) u0_.Client.Asks], .own 4]), .arr .live (.named 1) u0_.Client.Files, .arr .live .str u0_.Client.Names, .dead, .arr .live (.named 2) u0_.asked])) (fun w0_ => .ret (.panic (.ifc 102 (.val (.named 9) w0_.1)), [.box false (.agg 8 [.agg 4 [.val (.int .i64) w0_.2.Client.ID, .val (.int .i64) w0_.2.Client.Now, .val (.int .i64) w0_.2.Client.Epoch, .val (.int .i64) w0_.2.Client.Seq, .own 1, .own 2, .val (.named 3) w0_.2.Client.Out, .val (.int .i64) w0_.2.Client.Bad, .val (.int .i64) w0_.2.Client.Hits, .val (.int .i64) w0_.2.Client.Asks], .nils]), .arr .live (.named 1) w0_.2.Client.Files, .arr .live .str w0_.2.Client.Names]))⟩
theorem i56_ok : InsOk Try.prog 56 i56 := ⟨B56, B56_ok, by intro name w_Client_ID w_Client_Now w_Client_Epoch w_Client_Seq w_Client_Out w_Client_Bad w_Client_Hits w_Client_Asks a1_ a2_ out_ h_; exact ((F56 name w_Client_ID w_Client_Now w_Client_Epoch w_Client_Seq w_Client_Out w_Client_Bad w_Client_Hits w_Client_Asks a1_ a2_).trans (N.client_work_opens_bind N.fuel _ _ name (N.Tclient_work.mk (N.TClient.mk w_Client_ID w_Client_Now w_Client_Epoch w_Client_Seq a1_ a2_ w_Client_Out w_Client_Bad w_Client_Hits w_Client_Asks) []))).trans h_⟩
noncomputable def P56 : Nat × D.Spec E := (56, .full [.ptr, .data .str] false (fullF [i56]))
theorem p56 : SpecOk Try.prog E P56.1 P56.2 := fullI_ok ok Try.call56 ⟨i56_ok, trivial⟩

/-! tenancy/file.May -/
noncomputable def S57 : List (Nat × D.Spec E) := []
theorem S57_ok : AllS Try.prog E S57 := trivial
noncomputable def L57 : Nat → LoopInfo E := clL E 27 [] []
noncomputable def B57 : List (DVal E.T) → St E.T → Tree (Res E.T × St E.T) := dbody E (lookS S57) (lookD []) L57 0 false Try.f57
theorem B57_ok : FnOk Try.prog E 57 B57 := bodyC_ok sound mix S57_ok (SD := []) trivial (L := L57) (N := 0) (keep := false) Try.func57 rfl (by
  intro k g hg fr st out ho
  match k, hg with
  | _, hg => cases hg)
theorem F57 (w : N.TWrite) : (B57 [.val (.named 0) w] []).get = N.file_May_k (fun x_ => some (.ret [.val .bool x_], [])) w := by kernel_rfl
noncomputable def i57 : Ins E (Res E.T × St E.T) := ⟨[.v (.named 0)], [], fun w => .ret (.ret [.val .bool (N.file_May w)], [])⟩
theorem i57_ok : InsOk Try.prog 57 i57 := ⟨B57, B57_ok, by intro w out_ h_; exact ((F57 w).trans (N.file_May_bind _ w)).trans h_⟩
noncomputable def P57 : Nat × D.Spec E := (57, .pure [(.named 0)] (pureF [i57]))
theorem p57 : SpecOk Try.prog E P57.1 P57.2 := pureI_ok Try.call57 ⟨i57_ok, trivial⟩

/-! (*tenancy/client.work).file -/
noncomputable def S42 : List (Nat × D.Spec E) := []
theorem S42_ok : AllS Try.prog E S42 := trivial
noncomputable def L42 : Nat → LoopInfo E := clL E 27 [] []
noncomputable def B42 : List (DVal E.T) → St E.T → Tree (Res E.T × St E.T) := tidyF (dbody E (lookS S42) (lookD []) L42 0 true Try.f42)
theorem B42_ok : FnOk Try.prog E 42 B42 := tidy_fn ok (bodyC_ok sound mix S42_ok (SD := []) trivial (L := L42) (N := 0) (keep := true) Try.func42 rfl (by
  intro k g hg fr st out ho
  match k, hg with
  | _, hg => cases hg))
theorem F42 (n : Int) (w_Client_ID : Int) (w_Client_Now : Int) (w_Client_Epoch : Int) (w_Client_Seq : Int) (w_Client_Out : N.TOut) (w_Client_Bad : Int) (w_Client_Hits : Int) (w_Client_Asks : Int) (a1_ : List N.TCache) (a2_ : List (List UInt8)) : (B42 [.ptr 0 [], .val (.int .i64) n] [.box false (.agg 8 [.agg 4 [.val (.int .i64) w_Client_ID, .val (.int .i64) w_Client_Now, .val (.int .i64) w_Client_Epoch, .val (.int .i64) w_Client_Seq, .own 1, .own 2, .val (.named 3) w_Client_Out, .val (.int .i64) w_Client_Bad, .val (.int .i64) w_Client_Hits, .val (.int .i64) w_Client_Asks], .nils]), .arr .live (.named 1) a1_, .arr .live .str a2_]).get = N.client_work_file_k (fun x_ => some (.ret [.ptr 1 [.idx (.named 1) x_]], [.box false (.agg 8 [.agg 4 [.val (.int .i64) w_Client_ID, .val (.int .i64) w_Client_Now, .val (.int .i64) w_Client_Epoch, .val (.int .i64) w_Client_Seq, .own 1, .own 2, .val (.named 3) w_Client_Out, .val (.int .i64) w_Client_Bad, .val (.int .i64) w_Client_Hits, .val (.int .i64) w_Client_Asks], .nils]), .arr .live (.named 1) a1_, .arr .live .str a2_])) (fun x_ => some (.ret [.ptr 3 []], [.box false (.agg 8 [.agg 4 [.val (.int .i64) w_Client_ID, .val (.int .i64) w_Client_Now, .val (.int .i64) w_Client_Epoch, .val (.int .i64) w_Client_Seq, .own 1, .own 2, .val (.named 3) w_Client_Out, .val (.int .i64) w_Client_Bad, .val (.int .i64) w_Client_Hits, .val (.int .i64) w_Client_Asks], .nils]), .arr .live (.named 1) a1_, .arr .live .str a2_, .box false (.agg 1 [.val (.int .i64) 0, .val (.int .i64) 0, .val (.int .i64) 0, .val .str ([]), .nils, .val (.int .i64) 0, .val .bool false, .val .bool false])])) n (N.Tclient_work.mk (N.TClient.mk w_Client_ID w_Client_Now w_Client_Epoch w_Client_Seq a1_ a2_ w_Client_Out w_Client_Bad w_Client_Hits w_Client_Asks) []) := by kernel_rfl
noncomputable def i42 : Ins E (Res E.T × St E.T) := ⟨[.ptr 0 [], .v (.int .i64)], [.box false (.agg 8 [.agg 4 [.v (.int .i64), .v (.int .i64), .v (.int .i64), .v (.int .i64), .own 1, .own 2, .v (.named 3), .v (.int .i64), .v (.int .i64), .v (.int .i64)], .nils]), .arr .live (.named 1), .arr .live .str], fun n w_Client_ID w_Client_Now w_Client_Epoch w_Client_Seq w_Client_Out w_Client_Bad w_Client_Hits w_Client_Asks a1_ a2_ => .opt (N.client_work_file n (N.Tclient_work.mk (N.TClient.mk w_Client_ID w_Client_Now w_Client_Epoch w_Client_Seq a1_ a2_ w_Client_Out w_Client_Bad w_Client_Hits w_Client_Asks) [])) fun x_ => altT x_ (fun u0_ => .ret (.ret [.ptr 1 [.idx (.named 1) u0_]], [.box false (.agg 8 [.agg 4 [.val (.int .i64) w_Client_ID, .val (.int .i64) w_Client_Now, .val (.int .i64) w_Client_Epoch, .val (.int .i64) w_Client_Seq, .own 1, .own 2, .val (.named 3) w_Client_Out, .val (.int .i64) w_Client_Bad, .val (.int .i64) w_Client_Hits, .val (.int .i64) w_Client_Asks], .nils]), .arr .live (.named 1) a1_, .arr .live .str a2_])) (fun w0_ => .ret (.ret [.ptr 3 []], [.box false (.agg 8 [.agg 4 [.val (.int .i64) w_Client_ID, .val (.int .i64) w_Client_Now, .val (.int .i64) w_Client_Epoch, .val (.int .i64) w_Client_Seq, .own 1, .own 2, .val (.named 3) w_Client_Out, .val (.int .i64) w_Client_Bad, .val (.int .i64) w_Client_Hits, .val (.int .i64) w_Client_Asks], .nils]), .arr .live (.named 1) a1_, .arr .live .str a2_, .box false (.agg 1 [.val (.int .i64) 0, .val (.int .i64) 0, .val (.int .i64) 0, .val .str ([]), .nils, .val (.int .i64) 0, .val .bool false, .val .bool false])]))⟩
theorem i42_ok : InsOk Try.prog 42 i42 := ⟨B42, B42_ok, by intro n w_Client_ID w_Client_Now w_Client_Epoch w_Client_Seq w_Client_Out w_Client_Bad w_Client_Hits w_Client_Asks a1_ a2_ out_ h_; exact ((F42 n w_Client_ID w_Client_Now w_Client_Epoch w_Client_Seq w_Client_Out w_Client_Bad w_Client_Hits w_Client_Asks a1_ a2_).trans (N.client_work_file_bind _ _ n (N.Tclient_work.mk (N.TClient.mk w_Client_ID w_Client_Now w_Client_Epoch w_Client_Seq a1_ a2_ w_Client_Out w_Client_Bad w_Client_Hits w_Client_Asks) []))).trans h_⟩
noncomputable def S42a : List (Nat × D.Spec E) := []
theorem S42a_ok : AllS Try.prog E S42a := trivial
noncomputable def L42a : Nat → LoopInfo E := clL E 27 [] []
noncomputable def B42a : List (DVal E.T) → St E.T → Tree (Res E.T × St E.T) := tidyF (dbody E (lookS S42a) (lookD []) L42a 0 true Try.f42)
theorem B42a_ok : FnOk Try.prog E 42 B42a := tidy_fn ok (bodyC_ok sound mix S42a_ok (SD := []) trivial (L := L42a) (N := 0) (keep := true) Try.func42 rfl (by
  intro k g hg fr st out ho
  match k, hg with
  | _, hg => cases hg))
theorem F42a (n : Int) (w_Client_ID : Int) (w_Client_Now : Int) (w_Client_Epoch : Int) (w_Client_Seq : Int) (w_Client_Out : N.TOut) (w_Client_Bad : Int) (w_Client_Hits : Int) (w_Client_Asks : Int) (a1_ : List N.TCache) (a2_ : List (List UInt8)) : (B42a [.ptr 0 [], .val (.int .i64) n] [.box false (.agg 8 [.agg 4 [.val (.int .i64) w_Client_ID, .val (.int .i64) w_Client_Now, .val (.int .i64) w_Client_Epoch, .val (.int .i64) w_Client_Seq, .own 1, .own 2, .val (.named 3) w_Client_Out, .val (.int .i64) w_Client_Bad, .val (.int .i64) w_Client_Hits, .val (.int .i64) w_Client_Asks], .nils]), .arr .fix (.named 1) a1_, .arr .live .str a2_]).get = N.client_work_file_2_k (fun x_ => some (.ret [.ptr 1 [.idx (.named 1) x_]], [.box false (.agg 8 [.agg 4 [.val (.int .i64) w_Client_ID, .val (.int .i64) w_Client_Now, .val (.int .i64) w_Client_Epoch, .val (.int .i64) w_Client_Seq, .own 1, .own 2, .val (.named 3) w_Client_Out, .val (.int .i64) w_Client_Bad, .val (.int .i64) w_Client_Hits, .val (.int .i64) w_Client_Asks], .nils]), .arr .fix (.named 1) a1_, .arr .live .str a2_])) (fun x_ => some (.ret [.ptr 3 []], [.box false (.agg 8 [.agg 4 [.val (.int .i64) w_Client_ID, .val (.int .i64) w_Client_Now, .val (.int .i64) w_Client_Epoch, .val (.int .i64) w_Client_Seq, .own 1, .own 2, .val (.named 3) w_Client_Out, .val (.int .i64) w_Client_Bad, .val (.int .i64) w_Client_Hits, .val (.int .i64) w_Client_Asks], .nils]), .arr .fix (.named 1) a1_, .arr .live .str a2_, .box false (.agg 1 [.val (.int .i64) 0, .val (.int .i64) 0, .val (.int .i64) 0, .val .str ([]), .nils, .val (.int .i64) 0, .val .bool false, .val .bool false])])) n (N.Tclient_work.mk (N.TClient.mk w_Client_ID w_Client_Now w_Client_Epoch w_Client_Seq a1_ a2_ w_Client_Out w_Client_Bad w_Client_Hits w_Client_Asks) []) := by kernel_rfl
noncomputable def i42a : Ins E (Res E.T × St E.T) := ⟨[.ptr 0 [], .v (.int .i64)], [.box false (.agg 8 [.agg 4 [.v (.int .i64), .v (.int .i64), .v (.int .i64), .v (.int .i64), .own 1, .own 2, .v (.named 3), .v (.int .i64), .v (.int .i64), .v (.int .i64)], .nils]), .arr .fix (.named 1), .arr .live .str], fun n w_Client_ID w_Client_Now w_Client_Epoch w_Client_Seq w_Client_Out w_Client_Bad w_Client_Hits w_Client_Asks a1_ a2_ => .opt (N.client_work_file_2 n (N.Tclient_work.mk (N.TClient.mk w_Client_ID w_Client_Now w_Client_Epoch w_Client_Seq a1_ a2_ w_Client_Out w_Client_Bad w_Client_Hits w_Client_Asks) [])) fun x_ => altT x_ (fun u0_ => .ret (.ret [.ptr 1 [.idx (.named 1) u0_]], [.box false (.agg 8 [.agg 4 [.val (.int .i64) w_Client_ID, .val (.int .i64) w_Client_Now, .val (.int .i64) w_Client_Epoch, .val (.int .i64) w_Client_Seq, .own 1, .own 2, .val (.named 3) w_Client_Out, .val (.int .i64) w_Client_Bad, .val (.int .i64) w_Client_Hits, .val (.int .i64) w_Client_Asks], .nils]), .arr .fix (.named 1) a1_, .arr .live .str a2_])) (fun w0_ => .ret (.ret [.ptr 3 []], [.box false (.agg 8 [.agg 4 [.val (.int .i64) w_Client_ID, .val (.int .i64) w_Client_Now, .val (.int .i64) w_Client_Epoch, .val (.int .i64) w_Client_Seq, .own 1, .own 2, .val (.named 3) w_Client_Out, .val (.int .i64) w_Client_Bad, .val (.int .i64) w_Client_Hits, .val (.int .i64) w_Client_Asks], .nils]), .arr .fix (.named 1) a1_, .arr .live .str a2_, .box false (.agg 1 [.val (.int .i64) 0, .val (.int .i64) 0, .val (.int .i64) 0, .val .str ([]), .nils, .val (.int .i64) 0, .val .bool false, .val .bool false])]))⟩
theorem i42a_ok : InsOk Try.prog 42 i42a := ⟨B42a, B42a_ok, by intro n w_Client_ID w_Client_Now w_Client_Epoch w_Client_Seq w_Client_Out w_Client_Bad w_Client_Hits w_Client_Asks a1_ a2_ out_ h_; exact ((F42a n w_Client_ID w_Client_Now w_Client_Epoch w_Client_Seq w_Client_Out w_Client_Bad w_Client_Hits w_Client_Asks a1_ a2_).trans (N.client_work_file_2_bind _ _ n (N.Tclient_work.mk (N.TClient.mk w_Client_ID w_Client_Now w_Client_Epoch w_Client_Seq a1_ a2_ w_Client_Out w_Client_Bad w_Client_Hits w_Client_Asks) []))).trans h_⟩
noncomputable def S42b : List (Nat × D.Spec E) := []
theorem S42b_ok : AllS Try.prog E S42b := trivial
noncomputable def L42b : Nat → LoopInfo E := clL E 27 [] []
noncomputable def B42b : List (DVal E.T) → St E.T → Tree (Res E.T × St E.T) := tidyF (dbody E (lookS S42b) (lookD []) L42b 0 true Try.f42)
theorem B42b_ok : FnOk Try.prog E 42 B42b := tidy_fn ok (bodyC_ok sound mix S42b_ok (SD := []) trivial (L := L42b) (N := 0) (keep := true) Try.func42 rfl (by
  intro k g hg fr st out ho
  match k, hg with
  | _, hg => cases hg))
theorem F42b (n : Int) (w_Client_ID : Int) (w_Client_Now : Int) (w_Client_Epoch : Int) (w_Client_Seq : Int) (w_Client_Out_Is : Bool) (w_Client_Out_Ask_Kind : Int) (w_Client_Out_Ask_From : Int) (w_Client_Out_Ask_Epoch : Int) (w_Client_Out_Ask_Seq : Int) (w_Client_Out_Ask_Name : List UInt8) (w_Client_Out_Ask_File : Int) (w_Client_Out_Ask_Mode : Int) (w_Client_Out_First : Int) (w_Client_Out_Last : Int) (w_Client_Bad : Int) (w_Client_Hits : Int) (w_Client_Asks : Int) (a1_ : List N.TCache) (a2_ : List (List UInt8)) : (B42b [.ptr 0 [], .val (.int .i64) n] [.box false (.agg 8 [.agg 4 [.val (.int .i64) w_Client_ID, .val (.int .i64) w_Client_Now, .val (.int .i64) w_Client_Epoch, .val (.int .i64) w_Client_Seq, .own 1, .own 2, .agg 3 [.val .bool w_Client_Out_Is, .agg 2 [.val (.int .i64) w_Client_Out_Ask_Kind, .val (.int .i64) w_Client_Out_Ask_From, .val (.int .i64) w_Client_Out_Ask_Epoch, .val (.int .i64) w_Client_Out_Ask_Seq, .val .str w_Client_Out_Ask_Name, .val (.int .i64) w_Client_Out_Ask_File, .val (.int .i64) w_Client_Out_Ask_Mode, .nils], .val (.int .i64) w_Client_Out_First, .val (.int .i64) w_Client_Out_Last], .val (.int .i64) w_Client_Bad, .val (.int .i64) w_Client_Hits, .val (.int .i64) w_Client_Asks], .nils]), .arr .live (.named 1) a1_, .arr .live .str a2_]).get = N.client_work_file_3_k (fun x_ => some (.ret [.ptr 1 [.idx (.named 1) x_]], [.box false (.agg 8 [.agg 4 [.val (.int .i64) w_Client_ID, .val (.int .i64) w_Client_Now, .val (.int .i64) w_Client_Epoch, .val (.int .i64) w_Client_Seq, .own 1, .own 2, .agg 3 [.val .bool w_Client_Out_Is, .agg 2 [.val (.int .i64) w_Client_Out_Ask_Kind, .val (.int .i64) w_Client_Out_Ask_From, .val (.int .i64) w_Client_Out_Ask_Epoch, .val (.int .i64) w_Client_Out_Ask_Seq, .val .str w_Client_Out_Ask_Name, .val (.int .i64) w_Client_Out_Ask_File, .val (.int .i64) w_Client_Out_Ask_Mode, .nils], .val (.int .i64) w_Client_Out_First, .val (.int .i64) w_Client_Out_Last], .val (.int .i64) w_Client_Bad, .val (.int .i64) w_Client_Hits, .val (.int .i64) w_Client_Asks], .nils]), .arr .live (.named 1) a1_, .arr .live .str a2_])) (fun x_ => some (.ret [.ptr 3 []], [.box false (.agg 8 [.agg 4 [.val (.int .i64) w_Client_ID, .val (.int .i64) w_Client_Now, .val (.int .i64) w_Client_Epoch, .val (.int .i64) w_Client_Seq, .own 1, .own 2, .agg 3 [.val .bool w_Client_Out_Is, .agg 2 [.val (.int .i64) w_Client_Out_Ask_Kind, .val (.int .i64) w_Client_Out_Ask_From, .val (.int .i64) w_Client_Out_Ask_Epoch, .val (.int .i64) w_Client_Out_Ask_Seq, .val .str w_Client_Out_Ask_Name, .val (.int .i64) w_Client_Out_Ask_File, .val (.int .i64) w_Client_Out_Ask_Mode, .nils], .val (.int .i64) w_Client_Out_First, .val (.int .i64) w_Client_Out_Last], .val (.int .i64) w_Client_Bad, .val (.int .i64) w_Client_Hits, .val (.int .i64) w_Client_Asks], .nils]), .arr .live (.named 1) a1_, .arr .live .str a2_, .box false (.agg 1 [.val (.int .i64) 0, .val (.int .i64) 0, .val (.int .i64) 0, .val .str ([]), .nils, .val (.int .i64) 0, .val .bool false, .val .bool false])])) n (N.Tclient_work.mk (N.TClient.mk w_Client_ID w_Client_Now w_Client_Epoch w_Client_Seq a1_ a2_ (N.TOut.mk w_Client_Out_Is (N.TAsk.mk w_Client_Out_Ask_Kind w_Client_Out_Ask_From w_Client_Out_Ask_Epoch w_Client_Out_Ask_Seq w_Client_Out_Ask_Name w_Client_Out_Ask_File w_Client_Out_Ask_Mode []) w_Client_Out_First w_Client_Out_Last) w_Client_Bad w_Client_Hits w_Client_Asks) []) := by kernel_rfl
noncomputable def i42b : Ins E (Res E.T × St E.T) := ⟨[.ptr 0 [], .v (.int .i64)], [.box false (.agg 8 [.agg 4 [.v (.int .i64), .v (.int .i64), .v (.int .i64), .v (.int .i64), .own 1, .own 2, .agg 3 [.v .bool, .agg 2 [.v (.int .i64), .v (.int .i64), .v (.int .i64), .v (.int .i64), .v .str, .v (.int .i64), .v (.int .i64), .nils], .v (.int .i64), .v (.int .i64)], .v (.int .i64), .v (.int .i64), .v (.int .i64)], .nils]), .arr .live (.named 1), .arr .live .str], fun n w_Client_ID w_Client_Now w_Client_Epoch w_Client_Seq w_Client_Out_Is w_Client_Out_Ask_Kind w_Client_Out_Ask_From w_Client_Out_Ask_Epoch w_Client_Out_Ask_Seq w_Client_Out_Ask_Name w_Client_Out_Ask_File w_Client_Out_Ask_Mode w_Client_Out_First w_Client_Out_Last w_Client_Bad w_Client_Hits w_Client_Asks a1_ a2_ => .opt (N.client_work_file_3 n (N.Tclient_work.mk (N.TClient.mk w_Client_ID w_Client_Now w_Client_Epoch w_Client_Seq a1_ a2_ (N.TOut.mk w_Client_Out_Is (N.TAsk.mk w_Client_Out_Ask_Kind w_Client_Out_Ask_From w_Client_Out_Ask_Epoch w_Client_Out_Ask_Seq w_Client_Out_Ask_Name w_Client_Out_Ask_File w_Client_Out_Ask_Mode []) w_Client_Out_First w_Client_Out_Last) w_Client_Bad w_Client_Hits w_Client_Asks) [])) fun x_ => altT x_ (fun u0_ => .ret (.ret [.ptr 1 [.idx (.named 1) u0_]], [.box false (.agg 8 [.agg 4 [.val (.int .i64) w_Client_ID, .val (.int .i64) w_Client_Now, .val (.int .i64) w_Client_Epoch, .val (.int .i64) w_Client_Seq, .own 1, .own 2, .agg 3 [.val .bool w_Client_Out_Is, .agg 2 [.val (.int .i64) w_Client_Out_Ask_Kind, .val (.int .i64) w_Client_Out_Ask_From, .val (.int .i64) w_Client_Out_Ask_Epoch, .val (.int .i64) w_Client_Out_Ask_Seq, .val .str w_Client_Out_Ask_Name, .val (.int .i64) w_Client_Out_Ask_File, .val (.int .i64) w_Client_Out_Ask_Mode, .nils], .val (.int .i64) w_Client_Out_First, .val (.int .i64) w_Client_Out_Last], .val (.int .i64) w_Client_Bad, .val (.int .i64) w_Client_Hits, .val (.int .i64) w_Client_Asks], .nils]), .arr .live (.named 1) a1_, .arr .live .str a2_])) (fun w0_ => .ret (.ret [.ptr 3 []], [.box false (.agg 8 [.agg 4 [.val (.int .i64) w_Client_ID, .val (.int .i64) w_Client_Now, .val (.int .i64) w_Client_Epoch, .val (.int .i64) w_Client_Seq, .own 1, .own 2, .agg 3 [.val .bool w_Client_Out_Is, .agg 2 [.val (.int .i64) w_Client_Out_Ask_Kind, .val (.int .i64) w_Client_Out_Ask_From, .val (.int .i64) w_Client_Out_Ask_Epoch, .val (.int .i64) w_Client_Out_Ask_Seq, .val .str w_Client_Out_Ask_Name, .val (.int .i64) w_Client_Out_Ask_File, .val (.int .i64) w_Client_Out_Ask_Mode, .nils], .val (.int .i64) w_Client_Out_First, .val (.int .i64) w_Client_Out_Last], .val (.int .i64) w_Client_Bad, .val (.int .i64) w_Client_Hits, .val (.int .i64) w_Client_Asks], .nils]), .arr .live (.named 1) a1_, .arr .live .str a2_, .box false (.agg 1 [.val (.int .i64) 0, .val (.int .i64) 0, .val (.int .i64) 0, .val .str ([]), .nils, .val (.int .i64) 0, .val .bool false, .val .bool false])]))⟩
theorem i42b_ok : InsOk Try.prog 42 i42b := ⟨B42b, B42b_ok, by intro n w_Client_ID w_Client_Now w_Client_Epoch w_Client_Seq w_Client_Out_Is w_Client_Out_Ask_Kind w_Client_Out_Ask_From w_Client_Out_Ask_Epoch w_Client_Out_Ask_Seq w_Client_Out_Ask_Name w_Client_Out_Ask_File w_Client_Out_Ask_Mode w_Client_Out_First w_Client_Out_Last w_Client_Bad w_Client_Hits w_Client_Asks a1_ a2_ out_ h_; exact ((F42b n w_Client_ID w_Client_Now w_Client_Epoch w_Client_Seq w_Client_Out_Is w_Client_Out_Ask_Kind w_Client_Out_Ask_From w_Client_Out_Ask_Epoch w_Client_Out_Ask_Seq w_Client_Out_Ask_Name w_Client_Out_Ask_File w_Client_Out_Ask_Mode w_Client_Out_First w_Client_Out_Last w_Client_Bad w_Client_Hits w_Client_Asks a1_ a2_).trans (N.client_work_file_3_bind _ _ n (N.Tclient_work.mk (N.TClient.mk w_Client_ID w_Client_Now w_Client_Epoch w_Client_Seq a1_ a2_ (N.TOut.mk w_Client_Out_Is (N.TAsk.mk w_Client_Out_Ask_Kind w_Client_Out_Ask_From w_Client_Out_Ask_Epoch w_Client_Out_Ask_Seq w_Client_Out_Ask_Name w_Client_Out_Ask_File w_Client_Out_Ask_Mode []) w_Client_Out_First w_Client_Out_Last) w_Client_Bad w_Client_Hits w_Client_Asks) []))).trans h_⟩
noncomputable def P42 : Nat × D.Spec E := (42, .full [.ptr, .data (.int .i64)] false (fullF [i42, i42a, i42b]))
theorem p42 : SpecOk Try.prog E P42.1 P42.2 := fullI_ok ok Try.call42 ⟨i42_ok, i42a_ok, i42b_ok, trivial⟩

-- LIB 90 strings.Repeat

/-! tenancy/file.kept -/
noncomputable def S89 : List (Nat × D.Spec E) := []
theorem S89_ok : AllS Try.prog E S89 := trivial
noncomputable def L89 : Nat → LoopInfo E := clL E 21 [] []
noncomputable def B89 : DSpec E := dbodyD E (lookS S89) L89 0 Try.f89
theorem p89 : DSpecOk Try.prog E 89 B89 := dfullD_ok sound mix S89_ok (L := L89) (fun _ => rfl) Try.call89 Try.func89 rfl

/-! tenancy/file.Put -/
noncomputable def S85 : List (Nat × D.Spec E) := [P57, P90]
theorem S85_ok : AllS Try.prog E S85 := ⟨p57, p90, trivial⟩
noncomputable def D85 : List (Nat × DSpec E) := [(89, B89)]
theorem D85_ok : AllD Try.prog E D85 := ⟨p89, trivial⟩
noncomputable def L85 : Nat → LoopInfo E := clL E 44 [] []
noncomputable def B85 : List (DVal E.T) → St E.T → Tree (Res E.T × St E.T) := dbody E (lookS S85) (lookD D85) L85 0 false Try.f85
theorem B85_ok : FnOk Try.prog E 85 B85 := bodyC_ok sound mix S85_ok (SD := D85) D85_ok (L := L85) (N := 0) (keep := false) Try.func85 rfl (by
  intro k g hg fr st out ho
  match k, hg with
  | _, hg => cases hg)
theorem F85 (body : List UInt8) (w : N.TWrite) : (B85 [.val .str body, .val (.named 0) w] []).get = N.file_Put_k (fun x_ => some (.ret [.val .str x_], [])) body w := by kernel_rfl
noncomputable def i85 : Ins E (Res E.T × St E.T) := ⟨[.v .str, .v (.named 0)], [], fun body w => .opt (N.file_Put body w) fun x_ => .ret (.ret [.val .str x_], [])⟩
theorem i85_ok : InsOk Try.prog 85 i85 := ⟨B85, B85_ok, by intro body w out_ h_; exact ((F85 body w).trans (N.file_Put_bind _ body w)).trans h_⟩
noncomputable def P85 : Nat × D.Spec E := (85, .pure [.str, (.named 0)] (pureF [i85]))
theorem p85 : SpecOk Try.prog E P85.1 P85.2 := pureI_ok Try.call85 ⟨i85_ok, trivial⟩

/-! tenancy/file.All -/
noncomputable def S73 : List (Nat × D.Spec E) := [P85]
theorem S73_ok : AllS Try.prog E S73 := ⟨p85, trivial⟩
abbrev h73_s0 (t7 : List N.TWrite) (t8 : Int) (body : List UInt8) (t9 : Int) : Fr E.T := ofSlots E 18 [] [0, 7, 8, 9] [.val .str body, .val (.slice (.named 0)) t7, .val (.int .i64) t8, .val (.int .i64) t9]
abbrev t73_s0 (t7 : List N.TWrite) (t8 : Int) (body : List UInt8) (t9 : Int) : St E.T := []
def x73_s0 (t7 : List N.TWrite) (t8 : Int) (x_ : List UInt8) : Tree (CodeOut E) := .ret (.exit 0, ofSlots E 18 [] [0, 4] [.val .str x_, .undef], [])
noncomputable def g73_s0 : Ins E (CodeOut E) := ⟨[.v .str, .v (.slice (.named 0)), .v (.int .i64), .v (.int .i64)], [], fun body t7 t8 t9 => .opt (N.file_All_l0 N.fuel t7 t8 body t9) (x73_s0 t7 t8)⟩
noncomputable def L73 : Nat → LoopInfo E := clL E 18 [{ ks := [0, 7, 8, 9], mvs := [], pro := [], d := [], g := some (insF [g73_s0]) }] []
theorem f73_s0 (t7 : List N.TWrite) (t8 : Int) (body : List UInt8) (t9 : Int) : ((stepOf E S73 L73 0 0 Try.f73 (h73_s0 t7 t8 body t9) (t73_s0 t7 t8 body t9)).bind (nx E [0, 7, 8, 9] [] [0, 4] 0)).get = N.file_All_s0k t7 t8 (fun v_ => some (.inl (h73_s0 t7 t8 v_.1 v_.2, t73_s0 t7 t8 v_.1 v_.2))) (fun x_ => some (.inr (.exit 0, ofSlots E 18 [] [0, 4] [.val .str x_, .undef], []))) body t9 := by kernel_rfl
theorem q73_s0 : InsLp 18 [0, 7, 8, 9] [] [] (stepOf E S73 L73 0 0 Try.f73) g73_s0 := by
  intro body t7 t8 t9 out_ ho_
  obtain ⟨x_, h1_, h2_⟩ := Option.bind_eq_some_iff.1 ho_
  refine iter_loop (rs := [0, 4]) (step := N.file_All_s0 t7 t8) (hd := fun v_ => h73_s0 t7 t8 v_.1 v_.2) (sv := fun v_ => t73_s0 t7 t8 v_.1 v_.2) (ex := x73_s0 t7 t8) (fun v_ => ?_) N.fuel (body, t9) h1_ h2_
  refine (f73_s0 t7 t8 v_.1 v_.2).trans ((N.file_All_s0_bind t7 t8 _ _ v_.1 v_.2).trans ?_)
  refine congrArg _ (funext fun s_ => ?_)
  rcases s_ with v_ | a <;> rfl
noncomputable def B73 : List (DVal E.T) → St E.T → Tree (Res E.T × St E.T) := dbody E (lookS S73) (lookD []) L73 0 false Try.f73
theorem B73_ok : FnOk Try.prog E 73 B73 := bodyC_ok sound mix S73_ok (SD := []) trivial (L := L73) (N := 0) (keep := false) Try.func73 rfl (by
  intro k g hg fr st out ho
  match k, hg with
  | 0, hg => cases hg; exact lp_ok (allLp_cons q73_s0 (allLp_nil)) fr st out ho
  | _ + 1, hg => cases hg)
theorem F73 (body : List UInt8) (l : List N.TWrite) : (B73 [.val .str body, .val (.slice (.named 0)) l] []).get = N.file_All_k N.fuel (fun x_ => some (.ret [.val .str x_], [])) body l := by kernel_rfl
noncomputable def i73 : Ins E (Res E.T × St E.T) := ⟨[.v .str, .v (.slice (.named 0))], [], fun body l => .opt (N.file_All N.fuel body l) fun x_ => .ret (.ret [.val .str x_], [])⟩
theorem i73_ok : InsOk Try.prog 73 i73 := ⟨B73, B73_ok, by intro body l out_ h_; exact ((F73 body l).trans (N.file_All_bind N.fuel _ body l)).trans h_⟩
noncomputable def P73 : Nat × D.Spec E := (73, .pure [.str, (.slice (.named 0))] (pureF [i73]))
theorem p73 : SpecOk Try.prog E P73.1 P73.2 := pureI_ok Try.call73 ⟨i73_ok, trivial⟩

/-! tenancy/cache.View -/
noncomputable def S77 : List (Nat × D.Spec E) := [P73]
theorem S77_ok : AllS Try.prog E S77 := ⟨p73, trivial⟩
noncomputable def L77 : Nat → LoopInfo E := clL E 8 [] []
noncomputable def B77 : List (DVal E.T) → St E.T → Tree (Res E.T × St E.T) := dbody E (lookS S77) (lookD []) L77 0 false Try.f77
theorem B77_ok : FnOk Try.prog E 77 B77 := bodyC_ok sound mix S77_ok (SD := []) trivial (L := L77) (N := 0) (keep := false) Try.func77 rfl (by
  intro k g hg fr st out ho
  match k, hg with
  | _, hg => cases hg)
theorem F77 (c : N.TCache) : (B77 [.val (.named 1) c] []).get = N.cache_View_k N.fuel (fun x_ => some (.ret [.val .str x_], [])) c := by kernel_rfl
noncomputable def i77 : Ins E (Res E.T × St E.T) := ⟨[.v (.named 1)], [], fun c => .opt (N.cache_View N.fuel c) fun x_ => .ret (.ret [.val .str x_], [])⟩
theorem i77_ok : InsOk Try.prog 77 i77 := ⟨B77, B77_ok, by intro c out_ h_; exact ((F77 c).trans (N.cache_View_bind N.fuel _ c)).trans h_⟩
noncomputable def P77 : Nat × D.Spec E := (77, .pure [(.named 1)] (pureF [i77]))
theorem p77 : SpecOk Try.prog E P77.1 P77.2 := pureI_ok Try.call77 ⟨i77_ok, trivial⟩

end Go.Proofs.Ythabbcjjecpbmaa.C
