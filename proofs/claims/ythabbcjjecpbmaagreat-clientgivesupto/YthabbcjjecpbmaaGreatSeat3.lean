/- The seat's functions, and the nice ones (1). -/
import Derived.Test.YthabbcjjecpbmaaGreatSeat1
import Derived.Test.YthabbcjjecpbmaaGreatSeat2
set_option linter.unusedVariables false
set_option maxRecDepth 100000
namespace Go.Proofs.YthabbcjjecpbmaaGreat.Z
open Go Go.Proofs.YthabbcjjecpbmaaGreat.D

/-! tenancy/client.New -/
noncomputable def S9 : List (Nat × D.Spec E) := []
theorem S9_ok : AllS Tryz.prog E S9 := trivial
noncomputable def L9 : Nat → LoopInfo E := clL E 7 [] []
noncomputable def B9 : List (DVal E.T) → St E.T → Tree (Res E.T × St E.T) := dbody E (lookS S9) (lookD []) L9 0 false Tryz.f9
theorem B9_ok : FnOk Tryz.prog E 9 B9 := bodyC_ok sound mix S9_ok (SD := []) trivial (L := L9) (N := 0) (keep := false) Tryz.func9 rfl (by
  intro k g hg fr st out ho
  match k, hg with
  | _, hg => cases hg)
theorem F9 (id_ : Int) : (B9 [.val (.int .i64) id_] []).get = N.client_New_k (fun x_ => some (.ret [.val (.named 4) x_], [])) id_ := by kernel_rfl
noncomputable def i9 : Ins E (Res E.T × St E.T) := ⟨[.v (.int .i64)], [], fun id_ => .ret (.ret [.val (.named 4) (N.client_New id_)], [])⟩
theorem i9_ok : InsOk Tryz.prog 9 i9 := ⟨B9, B9_ok, by intro id_ out_ h_; exact ((F9 id_).trans (N.client_New_bind _ id_)).trans h_⟩
noncomputable def P9 : Nat × D.Spec E := (9, .pure [(.int .i64)] (pureF [i9]))
theorem p9 : SpecOk Tryz.prog E P9.1 P9.2 := pureI_ok Tryz.call9 ⟨i9_ok, trivial⟩

/-! slices.Clone[[]tenancy/api.Write,tenancy/api.Write] -/
def B92 : List (DVal E.T) → St E.T → Tree (Res E.T × St E.T) := cloneF E (.named 0)
noncomputable def P92 : Nat × D.Spec E := (92, .full [.data (.slice (.named 0))] false B92)
theorem cf92 : ∃ R0 C R id o1 o2, Tryz.f92.body = some (.seq R0 (.seq (.seq (.region id #[o1, o2] false) C) R)) ∧ (o1.op = .move (.tmp 0) ∧ o1.dst = some 3 ∧ o1.guard = none) ∧ (o2.op = .binOp .eql 26 (.tmp 3) (.const (.slice none 0 0)) 26 ∧ o2.dst = some 4 ∧ o2.guard = none) ∧
    CloneFacts E Tryz.f92 (.named 0) R0 C R (fun xs => put E (frame E Tryz.f92 [.val (.slice (.named 0)) xs]) (some 2) .nils) (fun xs => put E (put E (put E (put E (frame E Tryz.f92 [.val (.slice (.named 0)) xs]) (some 2) .nils) (some 3) (.val (.slice (.named 0)) xs)) (some 4) (.val .bool true)) (some 2) .nils) (fun xs n => put E (put E (put E (put E (put E (put E (put E (frame E Tryz.f92 [.val (.slice (.named 0)) xs]) (some 2) .nils) (some 3) (.val (.slice (.named 0)) xs)) (some 4) (.val .bool false)) (some 5) .nils) (some 6) (.val (.slice (.named 0)) xs)) (some 7) (.own n)) (some 2) (.own n)) :=
  ⟨_, _, _, _, _, _, rfl, ⟨rfl, rfl, rfl⟩, ⟨rfl, rfl, rfl⟩, by
    constructor
    all_goals intros
    all_goals kernel_rfl⟩
theorem p92 : SpecOk Tryz.prog E P92.1 P92.2 := by
  obtain ⟨R0, C, R, id, o1, o2, hb, h1, h2, hF⟩ := cf92
  exact ⟨Tryz.call92, clone_fn sound mix Tryz.func92 hb h1 h2 ⟨_, Tryz.underlying26⟩ hF⟩

/-! tenancy/client.twin -/
noncomputable def S66 : List (Nat × D.Spec E) := [P92]
theorem S66_ok : AllS Tryz.prog E S66 := ⟨p92, trivial⟩
noncomputable def L66 : Nat → LoopInfo E := clL E 8 [] []
noncomputable def B66 : List (DVal E.T) → St E.T → Tree (Res E.T × St E.T) := dbody E (lookS S66) (lookD []) L66 0 false Tryz.f66
theorem B66_ok : FnOk Tryz.prog E 66 B66 := bodyC_ok sound mix S66_ok (SD := []) trivial (L := L66) (N := 0) (keep := false) Tryz.func66 rfl (by
  intro k g hg fr st out ho
  match k, hg with
  | _, hg => cases hg)
theorem F66 (a : N.TAsk) : (B66 [.val (.named 2) a] []).get = N.client_twin_k (fun x_ => some (.ret [.val (.named 2) a], [])) a := by kernel_rfl
noncomputable def i66 : Ins E (Res E.T × St E.T) := ⟨[.v (.named 2)], [], fun a => .ret (.ret [.val (.named 2) a], [])⟩
theorem i66_ok : InsOk Tryz.prog 66 i66 := ⟨B66, B66_ok, by intro a out_ h_; exact ((F66 a).trans (N.client_twin_bind _ a)).trans h_⟩
noncomputable def P66 : Nat × D.Spec E := (66, .pure [(.named 2)] (pureF [i66]))
theorem p66 : SpecOk Tryz.prog E P66.1 P66.2 := pureI_ok Tryz.call66 ⟨i66_ok, trivial⟩

/-! tenancy/cache.twin -/
noncomputable def S94 : List (Nat × D.Spec E) := [P92]
theorem S94_ok : AllS Tryz.prog E S94 := ⟨p92, trivial⟩
noncomputable def L94 : Nat → LoopInfo E := clL E 8 [] []
noncomputable def B94 : List (DVal E.T) → St E.T → Tree (Res E.T × St E.T) := dbody E (lookS S94) (lookD []) L94 0 false Tryz.f94
theorem B94_ok : FnOk Tryz.prog E 94 B94 := bodyC_ok sound mix S94_ok (SD := []) trivial (L := L94) (N := 0) (keep := false) Tryz.func94 rfl (by
  intro k g hg fr st out ho
  match k, hg with
  | _, hg => cases hg)
theorem F94 (c : N.TCache) : (B94 [.val (.named 1) c] []).get = N.cache_twin_k (fun x_ => some (.ret [.val (.named 1) c], [])) c := by kernel_rfl
noncomputable def i94 : Ins E (Res E.T × St E.T) := ⟨[.v (.named 1)], [], fun c => .ret (.ret [.val (.named 1) c], [])⟩
theorem i94_ok : InsOk Tryz.prog 94 i94 := ⟨B94, B94_ok, by intro c out_ h_; exact ((F94 c).trans (N.cache_twin_bind _ c)).trans h_⟩
noncomputable def P94 : Nat × D.Spec E := (94, .pure [(.named 1)] (pureF [i94]))
theorem p94 : SpecOk Tryz.prog E P94.1 P94.2 := pureI_ok Tryz.call94 ⟨i94_ok, trivial⟩

/-! tenancy/cache.Valid -/
noncomputable def S93 : List (Nat × D.Spec E) := []
theorem S93_ok : AllS Tryz.prog E S93 := trivial
noncomputable def L93 : Nat → LoopInfo E := clL E 11 [] []
noncomputable def B93 : List (DVal E.T) → St E.T → Tree (Res E.T × St E.T) := dbody E (lookS S93) (lookD []) L93 0 false Tryz.f93
theorem B93_ok : FnOk Tryz.prog E 93 B93 := bodyC_ok sound mix S93_ok (SD := []) trivial (L := L93) (N := 0) (keep := false) Tryz.func93 rfl (by
  intro k g hg fr st out ho
  match k, hg with
  | _, hg => cases hg)
theorem F93 (c : N.TCache) (now : Int) : (B93 [.val (.named 1) c, .val (.int .i64) now] []).get = N.cache_Valid_k (fun x_ => some (.ret [.val (.int .i64) x_], [])) c now := by kernel_rfl
noncomputable def i93 : Ins E (Res E.T × St E.T) := ⟨[.v (.named 1), .v (.int .i64)], [], fun c now => .ret (.ret [.val (.int .i64) (N.cache_Valid c now)], [])⟩
theorem i93_ok : InsOk Tryz.prog 93 i93 := ⟨B93, B93_ok, by intro c now out_ h_; exact ((F93 c now).trans (N.cache_Valid_bind _ c now)).trans h_⟩
noncomputable def P93 : Nat × D.Spec E := (93, .pure [(.named 1), (.int .i64)] (pureF [i93]))
theorem p93 : SpecOk Tryz.prog E P93.1 P93.2 := pureI_ok Tryz.call93 ⟨i93_ok, trivial⟩

/-! tenancy/cache.Reset -/
noncomputable def S71 : List (Nat × D.Spec E) := []
theorem S71_ok : AllS Tryz.prog E S71 := trivial
noncomputable def L71 : Nat → LoopInfo E := clL E 12 [] []
noncomputable def B71 : List (DVal E.T) → St E.T → Tree (Res E.T × St E.T) := dbody E (lookS S71) (lookD []) L71 0 false Tryz.f71
theorem B71_ok : FnOk Tryz.prog E 71 B71 := bodyC_ok sound mix S71_ok (SD := []) trivial (L := L71) (N := 0) (keep := false) Tryz.func71 rfl (by
  intro k g hg fr st out ho
  match k, hg with
  | _, hg => cases hg)
theorem F71 (c : N.TCache) : (B71 [.val (.named 1) c] []).get = N.cache_Reset_k (fun x_ => some (.ret [.val (.named 1) x_], [])) c := by kernel_rfl
noncomputable def i71 : Ins E (Res E.T × St E.T) := ⟨[.v (.named 1)], [], fun c => .ret (.ret [.val (.named 1) (N.cache_Reset c)], [])⟩
theorem i71_ok : InsOk Tryz.prog 71 i71 := ⟨B71, B71_ok, by intro c out_ h_; exact ((F71 c).trans (N.cache_Reset_bind _ c)).trans h_⟩
noncomputable def P71 : Nat × D.Spec E := (71, .pure [(.named 1)] (pureF [i71]))
theorem p71 : SpecOk Tryz.prog E P71.1 P71.2 := pureI_ok Tryz.call71 ⟨i71_ok, trivial⟩

/-! tenancy/cache.Lapse -/
noncomputable def S67 : List (Nat × D.Spec E) := [P71, P93, P94]
theorem S67_ok : AllS Tryz.prog E S67 := ⟨p71, p93, p94, trivial⟩
noncomputable def L67 : Nat → LoopInfo E := clL E 18 [] []
noncomputable def B67 : List (DVal E.T) → St E.T → Tree (Res E.T × St E.T) := dbody E (lookS S67) (lookD []) L67 0 false Tryz.f67
theorem B67_ok : FnOk Tryz.prog E 67 B67 := bodyC_ok sound mix S67_ok (SD := []) trivial (L := L67) (N := 0) (keep := false) Tryz.func67 rfl (by
  intro k g hg fr st out ho
  match k, hg with
  | _, hg => cases hg)
theorem F67 (c : N.TCache) (now : Int) : (B67 [.val (.named 1) c, .val (.int .i64) now] []).get = N.cache_Lapse_k (fun x_ => some (.ret [.val (.named 1) x_], [])) c now := by kernel_rfl
noncomputable def i67 : Ins E (Res E.T × St E.T) := ⟨[.v (.named 1), .v (.int .i64)], [], fun c now => .ret (.ret [.val (.named 1) (N.cache_Lapse c now)], [])⟩
theorem i67_ok : InsOk Tryz.prog 67 i67 := ⟨B67, B67_ok, by intro c now out_ h_; exact ((F67 c now).trans (N.cache_Lapse_bind _ c now)).trans h_⟩
noncomputable def P67 : Nat × D.Spec E := (67, .pure [(.named 1), (.int .i64)] (pureF [i67]))
theorem p67 : SpecOk Tryz.prog E P67.1 P67.2 := pureI_ok Tryz.call67 ⟨i67_ok, trivial⟩

/-! slices.Clone[[]tenancy/api.Cache,tenancy/api.Cache] -/
def B64 : List (DVal E.T) → St E.T → Tree (Res E.T × St E.T) := cloneF E (.named 1)
noncomputable def P64 : Nat × D.Spec E := (64, .full [.data (.slice (.named 1))] false B64)
theorem cf64 : ∃ R0 C R id o1 o2, Tryz.f64.body = some (.seq R0 (.seq (.seq (.region id #[o1, o2] false) C) R)) ∧ (o1.op = .move (.tmp 0) ∧ o1.dst = some 3 ∧ o1.guard = none) ∧ (o2.op = .binOp .eql 24 (.tmp 3) (.const (.slice none 0 0)) 24 ∧ o2.dst = some 4 ∧ o2.guard = none) ∧
    CloneFacts E Tryz.f64 (.named 1) R0 C R (fun xs => put E (frame E Tryz.f64 [.val (.slice (.named 1)) xs]) (some 2) .nils) (fun xs => put E (put E (put E (put E (frame E Tryz.f64 [.val (.slice (.named 1)) xs]) (some 2) .nils) (some 3) (.val (.slice (.named 1)) xs)) (some 4) (.val .bool true)) (some 2) .nils) (fun xs n => put E (put E (put E (put E (put E (put E (put E (frame E Tryz.f64 [.val (.slice (.named 1)) xs]) (some 2) .nils) (some 3) (.val (.slice (.named 1)) xs)) (some 4) (.val .bool false)) (some 5) .nils) (some 6) (.val (.slice (.named 1)) xs)) (some 7) (.own n)) (some 2) (.own n)) :=
  ⟨_, _, _, _, _, _, rfl, ⟨rfl, rfl, rfl⟩, ⟨rfl, rfl, rfl⟩, by
    constructor
    all_goals intros
    all_goals kernel_rfl⟩
theorem p64 : SpecOk Tryz.prog E P64.1 P64.2 := by
  obtain ⟨R0, C, R, id, o1, o2, hb, h1, h2, hF⟩ := cf64
  exact ⟨Tryz.call64, clone_fn sound mix Tryz.func64 hb h1 h2 ⟨_, Tryz.underlying24⟩ hF⟩

/-! slices.Clone[[]string,string] -/
def B65 : List (DVal E.T) → St E.T → Tree (Res E.T × St E.T) := cloneF E .str
noncomputable def P65 : Nat × D.Spec E := (65, .full [.data (.slice .str)] false B65)
theorem cf65 : ∃ R0 C R id o1 o2, Tryz.f65.body = some (.seq R0 (.seq (.seq (.region id #[o1, o2] false) C) R)) ∧ (o1.op = .move (.tmp 0) ∧ o1.dst = some 3 ∧ o1.guard = none) ∧ (o2.op = .binOp .eql 25 (.tmp 3) (.const (.slice none 0 0)) 25 ∧ o2.dst = some 4 ∧ o2.guard = none) ∧
    CloneFacts E Tryz.f65 .str R0 C R (fun xs => put E (frame E Tryz.f65 [.val (.slice .str) xs]) (some 2) .nils) (fun xs => put E (put E (put E (put E (frame E Tryz.f65 [.val (.slice .str) xs]) (some 2) .nils) (some 3) (.val (.slice .str) xs)) (some 4) (.val .bool true)) (some 2) .nils) (fun xs n => put E (put E (put E (put E (put E (put E (put E (frame E Tryz.f65 [.val (.slice .str) xs]) (some 2) .nils) (some 3) (.val (.slice .str) xs)) (some 4) (.val .bool false)) (some 5) .nils) (some 6) (.val (.slice .str) xs)) (some 7) (.own n)) (some 2) (.own n)) :=
  ⟨_, _, _, _, _, _, rfl, ⟨rfl, rfl, rfl⟩, ⟨rfl, rfl, rfl⟩, by
    constructor
    all_goals intros
    all_goals kernel_rfl⟩
theorem p65 : SpecOk Tryz.prog E P65.1 P65.2 := by
  obtain ⟨R0, C, R, id, o1, o2, hb, h1, h2, hF⟩ := cf65
  exact ⟨Tryz.call65, clone_fn sound mix Tryz.func65 hb h1 h2 ⟨_, Tryz.underlying25⟩ hF⟩

/-! tenancy/client.of -/
noncomputable def S25 : List (Nat × D.Spec E) := [P64, P65, P66, P67]
theorem S25_ok : AllS Tryz.prog E S25 := ⟨p64, p65, p66, p67, trivial⟩
abbrev h25_s0 (t37 : Int) (c : N.TClient) (t38 : Int) (w : N.Tclient_work) : Fr E.T := ofSlots E 56 [] [1, 3, 36, 37, 38] [.ptr 0 [], .ptr 1 [], .own 2, .val (.int .i64) t37, .val (.int .i64) t38]
abbrev t25_s0 (t37 : Int) (c : N.TClient) (t38 : Int) (w : N.Tclient_work) : St E.T := [.box false (.val (.named 4) c), .box false (.agg 8 [.agg 4 [.val (.int .i64) w.Client.ID, .val (.int .i64) w.Client.Now, .val (.int .i64) w.Client.Epoch, .val (.int .i64) w.Client.Seq, .own 2, .own 3, .val (.named 3) w.Client.Out, .val (.int .i64) w.Client.Bad, .val (.int .i64) w.Client.Hits, .val (.int .i64) w.Client.Asks], .nils]), .arr .live (.named 1) w.Client.Files, .arr .live .str w.Client.Names]
def x25_s0 (t37 : Int) (c : N.TClient) (x_ : N.Tclient_work) : Tree (CodeOut E) := .ret (.exit 0, ofSlots E 56 [] [2, 3] [.undef, .ptr 1 []], [.box false (.val (.named 4) c), .box false (.agg 8 [.agg 4 [.val (.int .i64) x_.Client.ID, .val (.int .i64) x_.Client.Now, .val (.int .i64) x_.Client.Epoch, .val (.int .i64) x_.Client.Seq, .own 2, .own 3, .val (.named 3) x_.Client.Out, .val (.int .i64) x_.Client.Bad, .val (.int .i64) x_.Client.Hits, .val (.int .i64) x_.Client.Asks], .nils]), .arr .live (.named 1) x_.Client.Files, .arr .live .str x_.Client.Names])
noncomputable def g25_s0 : Ins E (CodeOut E) := ⟨[.ptr 0 [], .ptr 1 [], .own 2, .v (.int .i64), .v (.int .i64)], [.box false (.v (.named 4)), .box false (.agg 8 [.agg 4 [.v (.int .i64), .v (.int .i64), .v (.int .i64), .v (.int .i64), .own 2, .own 3, .v (.named 3), .v (.int .i64), .v (.int .i64), .v (.int .i64)], .nils]), .arr .live (.named 1), .arr .live .str], fun t37 t38 c w_Client_ID w_Client_Now w_Client_Epoch w_Client_Seq w_Client_Out w_Client_Bad w_Client_Hits w_Client_Asks a2_ a3_ => .opt (N.client_of_l0 N.fuel t37 c t38 (N.Tclient_work.mk (N.TClient.mk w_Client_ID w_Client_Now w_Client_Epoch w_Client_Seq a2_ a3_ w_Client_Out w_Client_Bad w_Client_Hits w_Client_Asks) [])) (x25_s0 t37 c)⟩
noncomputable def L25 : Nat → LoopInfo E := clL E 56 [{ ks := [1, 3, 36, 37, 38], mvs := [], pro := [], d := [], g := some (insF [g25_s0]) }] []
theorem f25_s0 (t37 : Int) (c : N.TClient) (t38 : Int) (w : N.Tclient_work) : ((stepOf E S25 L25 0 0 Tryz.f25 (h25_s0 t37 c t38 w) (t25_s0 t37 c t38 w)).bind (nx E [1, 3, 36, 37, 38] [] [2, 3] 4)).get = N.client_of_s0k t37 c (fun v_ => some (.inl (h25_s0 t37 c v_.1 v_.2, t25_s0 t37 c v_.1 v_.2))) (fun x_ => some (.inr (.exit 0, ofSlots E 56 [] [2, 3] [.undef, .ptr 1 []], [.box false (.val (.named 4) c), .box false (.agg 8 [.agg 4 [.val (.int .i64) x_.Client.ID, .val (.int .i64) x_.Client.Now, .val (.int .i64) x_.Client.Epoch, .val (.int .i64) x_.Client.Seq, .own 2, .own 3, .val (.named 3) x_.Client.Out, .val (.int .i64) x_.Client.Bad, .val (.int .i64) x_.Client.Hits, .val (.int .i64) x_.Client.Asks], .nils]), .arr .live (.named 1) x_.Client.Files, .arr .live .str x_.Client.Names]))) t38 w := by kernel_rfl
theorem q25_s0 : InsLp 56 [1, 3, 36, 37, 38] [] [] (stepOf E S25 L25 0 0 Tryz.f25) g25_s0 := by
  intro t37 t38 c w_Client_ID w_Client_Now w_Client_Epoch w_Client_Seq w_Client_Out w_Client_Bad w_Client_Hits w_Client_Asks a2_ a3_ out_ ho_
  obtain ⟨x_, h1_, h2_⟩ := Option.bind_eq_some_iff.1 ho_
  refine iter_loop (rs := [2, 3]) (step := N.client_of_s0 t37 c) (hd := fun v_ => h25_s0 t37 c v_.1 v_.2) (sv := fun v_ => t25_s0 t37 c v_.1 v_.2) (ex := x25_s0 t37 c) (fun v_ => ?_) N.fuel (t38, (N.Tclient_work.mk (N.TClient.mk w_Client_ID w_Client_Now w_Client_Epoch w_Client_Seq a2_ a3_ w_Client_Out w_Client_Bad w_Client_Hits w_Client_Asks) [])) h1_ h2_
  refine (f25_s0 t37 c v_.1 v_.2).trans ((N.client_of_s0_bind t37 c _ _ v_.1 v_.2).trans ?_)
  refine congrArg _ (funext fun s_ => ?_)
  rcases s_ with v_ | a <;> rfl
noncomputable def B25 : List (DVal E.T) → St E.T → Tree (Res E.T × St E.T) := tidyF (dbody E (lookS S25) (lookD []) L25 0 true Tryz.f25)
theorem B25_ok : FnOk Tryz.prog E 25 B25 := tidy_fn ok (bodyC_ok sound mix S25_ok (SD := []) trivial (L := L25) (N := 0) (keep := true) Tryz.func25 rfl (by
  intro k g hg fr st out ho
  match k, hg with
  | 0, hg => cases hg; exact lp_ok (allLp_cons q25_s0 (allLp_nil)) fr st out ho
  | _ + 1, hg => cases hg))
theorem F25 (c : N.TClient) : (B25 [.val (.named 4) c] []).get = N.client_of_k N.fuel (fun x_ => some (.ret [.ptr 1 []], [.dead, .box false (.agg 8 [.agg 4 [.val (.int .i64) x_.Client.ID, .val (.int .i64) x_.Client.Now, .val (.int .i64) x_.Client.Epoch, .val (.int .i64) x_.Client.Seq, .own 2, .own 3, .val (.named 3) x_.Client.Out, .val (.int .i64) x_.Client.Bad, .val (.int .i64) x_.Client.Hits, .val (.int .i64) x_.Client.Asks], .nils]), .arr .live (.named 1) x_.Client.Files, .arr .live .str x_.Client.Names])) c := by kernel_rfl
noncomputable def i25 : Ins E (Res E.T × St E.T) := ⟨[.v (.named 4)], [], fun c => .opt (N.client_of N.fuel c) fun x_ => .ret (.ret [.ptr 1 []], [.dead, .box false (.agg 8 [.agg 4 [.val (.int .i64) x_.Client.ID, .val (.int .i64) x_.Client.Now, .val (.int .i64) x_.Client.Epoch, .val (.int .i64) x_.Client.Seq, .own 2, .own 3, .val (.named 3) x_.Client.Out, .val (.int .i64) x_.Client.Bad, .val (.int .i64) x_.Client.Hits, .val (.int .i64) x_.Client.Asks], .nils]), .arr .live (.named 1) x_.Client.Files, .arr .live .str x_.Client.Names])⟩
theorem i25_ok : InsOk Tryz.prog 25 i25 := ⟨B25, B25_ok, by intro c out_ h_; exact ((F25 c).trans (N.client_of_bind N.fuel _ c)).trans h_⟩
noncomputable def P25 : Nat × D.Spec E := (25, .full [.data (.named 4)] false (fullF [i25]))
theorem p25 : SpecOk Tryz.prog E P25.1 P25.2 := fullI_ok ok Tryz.call25 ⟨i25_ok, trivial⟩

/-! (*tenancy/client.work).says -/
noncomputable def S106 : List (Nat × D.Spec E) := []
theorem S106_ok : AllS Tryz.prog E S106 := trivial
noncomputable def L106 : Nat → LoopInfo E := clL E 8 [] []
noncomputable def B106 : List (DVal E.T) → St E.T → Tree (Res E.T × St E.T) := tidyF (dbody E (lookS S106) (lookD []) L106 0 false Tryz.f106)
theorem B106_ok : FnOk Tryz.prog E 106 B106 := tidy_fn ok (bodyC_ok sound mix S106_ok (SD := []) trivial (L := L106) (N := 0) (keep := false) Tryz.func106 rfl (by
  intro k g hg fr st out ho
  match k, hg with
  | _, hg => cases hg))
theorem F106 (e : Int) (w_Client_ID : Int) (w_Client_Now : Int) (w_Client_Epoch : Int) (w_Client_Seq : Int) (w_Client_Out : N.TOut) (w_Client_Bad : Int) (w_Client_Hits : Int) (w_Client_Asks : Int) (a1_ : List N.TCache) (a2_ : List (List UInt8)) : (B106 [.ptr 0 [], .val (.int .i64) e] [.box false (.agg 8 [.agg 4 [.val (.int .i64) w_Client_ID, .val (.int .i64) w_Client_Now, .val (.int .i64) w_Client_Epoch, .val (.int .i64) w_Client_Seq, .own 1, .own 2, .val (.named 3) w_Client_Out, .val (.int .i64) w_Client_Bad, .val (.int .i64) w_Client_Hits, .val (.int .i64) w_Client_Asks], .nils]), .arr .live (.named 1) a1_, .arr .live .str a2_]).get = N.client_work_says_k (fun x_ => some (.panic (.ifc 137 (.val (.named 12) x_)), [.box false (.agg 8 [.agg 4 [.val (.int .i64) w_Client_ID, .val (.int .i64) w_Client_Now, .val (.int .i64) w_Client_Epoch, .val (.int .i64) w_Client_Seq, .own 1, .own 2, .val (.named 3) w_Client_Out, .val (.int .i64) w_Client_Bad, .val (.int .i64) w_Client_Hits, .val (.int .i64) w_Client_Asks], .nils]), .arr .live (.named 1) a1_, .arr .live .str a2_])) e (N.Tclient_work.mk (N.TClient.mk w_Client_ID w_Client_Now w_Client_Epoch w_Client_Seq a1_ a2_ w_Client_Out w_Client_Bad w_Client_Hits w_Client_Asks) []) := by kernel_rfl
noncomputable def i106 : Ins E (Res E.T × St E.T) := ⟨[.ptr 0 [], .v (.int .i64)], [.box false (.agg 8 [.agg 4 [.v (.int .i64), .v (.int .i64), .v (.int .i64), .v (.int .i64), .own 1, .own 2, .v (.named 3), .v (.int .i64), .v (.int .i64), .v (.int .i64)], .nils]), .arr .live (.named 1), .arr .live .str], fun e w_Client_ID w_Client_Now w_Client_Epoch w_Client_Seq w_Client_Out w_Client_Bad w_Client_Hits w_Client_Asks a1_ a2_ => .ret (.panic (.ifc 137 (.val (.named 12) (N.client_work_says e (N.Tclient_work.mk (N.TClient.mk w_Client_ID w_Client_Now w_Client_Epoch w_Client_Seq a1_ a2_ w_Client_Out w_Client_Bad w_Client_Hits w_Client_Asks) [])))), [.box false (.agg 8 [.agg 4 [.val (.int .i64) w_Client_ID, .val (.int .i64) w_Client_Now, .val (.int .i64) w_Client_Epoch, .val (.int .i64) w_Client_Seq, .own 1, .own 2, .val (.named 3) w_Client_Out, .val (.int .i64) w_Client_Bad, .val (.int .i64) w_Client_Hits, .val (.int .i64) w_Client_Asks], .nils]), .arr .live (.named 1) a1_, .arr .live .str a2_])⟩
theorem i106_ok : InsOk Tryz.prog 106 i106 := ⟨B106, B106_ok, by intro e w_Client_ID w_Client_Now w_Client_Epoch w_Client_Seq w_Client_Out w_Client_Bad w_Client_Hits w_Client_Asks a1_ a2_ out_ h_; exact ((F106 e w_Client_ID w_Client_Now w_Client_Epoch w_Client_Seq w_Client_Out w_Client_Bad w_Client_Hits w_Client_Asks a1_ a2_).trans (N.client_work_says_bind _ e (N.Tclient_work.mk (N.TClient.mk w_Client_ID w_Client_Now w_Client_Epoch w_Client_Seq a1_ a2_ w_Client_Out w_Client_Bad w_Client_Hits w_Client_Asks) []))).trans h_⟩
noncomputable def S106a : List (Nat × D.Spec E) := []
theorem S106a_ok : AllS Tryz.prog E S106a := trivial
noncomputable def L106a : Nat → LoopInfo E := clL E 8 [] []
noncomputable def B106a : List (DVal E.T) → St E.T → Tree (Res E.T × St E.T) := tidyF (dbody E (lookS S106a) (lookD []) L106a 0 false Tryz.f106)
theorem B106a_ok : FnOk Tryz.prog E 106 B106a := tidy_fn ok (bodyC_ok sound mix S106a_ok (SD := []) trivial (L := L106a) (N := 0) (keep := false) Tryz.func106 rfl (by
  intro k g hg fr st out ho
  match k, hg with
  | _, hg => cases hg))
theorem F106a (e : Int) (w_Client_ID : Int) (w_Client_Now : Int) (w_Client_Epoch : Int) (w_Client_Seq : Int) (w_Client_Out : N.TOut) (w_Client_Bad : Int) (w_Client_Hits : Int) (w_Client_Asks : Int) (a1_ : List N.TCache) (a2_ : List (List UInt8)) : (B106a [.ptr 0 [], .val (.int .i64) e] [.box false (.agg 8 [.agg 4 [.val (.int .i64) w_Client_ID, .val (.int .i64) w_Client_Now, .val (.int .i64) w_Client_Epoch, .val (.int .i64) w_Client_Seq, .own 1, .own 2, .val (.named 3) w_Client_Out, .val (.int .i64) w_Client_Bad, .val (.int .i64) w_Client_Hits, .val (.int .i64) w_Client_Asks], .nils]), .arr .fix (.named 1) a1_, .arr .live .str a2_]).get = N.client_work_says_2_k (fun x_ => some (.panic (.ifc 137 (.val (.named 12) x_)), [.box false (.agg 8 [.agg 4 [.val (.int .i64) w_Client_ID, .val (.int .i64) w_Client_Now, .val (.int .i64) w_Client_Epoch, .val (.int .i64) w_Client_Seq, .own 1, .own 2, .val (.named 3) w_Client_Out, .val (.int .i64) w_Client_Bad, .val (.int .i64) w_Client_Hits, .val (.int .i64) w_Client_Asks], .nils]), .arr .fix (.named 1) a1_, .arr .live .str a2_])) e (N.Tclient_work.mk (N.TClient.mk w_Client_ID w_Client_Now w_Client_Epoch w_Client_Seq a1_ a2_ w_Client_Out w_Client_Bad w_Client_Hits w_Client_Asks) []) := by kernel_rfl
noncomputable def i106a : Ins E (Res E.T × St E.T) := ⟨[.ptr 0 [], .v (.int .i64)], [.box false (.agg 8 [.agg 4 [.v (.int .i64), .v (.int .i64), .v (.int .i64), .v (.int .i64), .own 1, .own 2, .v (.named 3), .v (.int .i64), .v (.int .i64), .v (.int .i64)], .nils]), .arr .fix (.named 1), .arr .live .str], fun e w_Client_ID w_Client_Now w_Client_Epoch w_Client_Seq w_Client_Out w_Client_Bad w_Client_Hits w_Client_Asks a1_ a2_ => .ret (.panic (.ifc 137 (.val (.named 12) (N.client_work_says_2 e (N.Tclient_work.mk (N.TClient.mk w_Client_ID w_Client_Now w_Client_Epoch w_Client_Seq a1_ a2_ w_Client_Out w_Client_Bad w_Client_Hits w_Client_Asks) [])))), [.box false (.agg 8 [.agg 4 [.val (.int .i64) w_Client_ID, .val (.int .i64) w_Client_Now, .val (.int .i64) w_Client_Epoch, .val (.int .i64) w_Client_Seq, .own 1, .own 2, .val (.named 3) w_Client_Out, .val (.int .i64) w_Client_Bad, .val (.int .i64) w_Client_Hits, .val (.int .i64) w_Client_Asks], .nils]), .arr .fix (.named 1) a1_, .arr .live .str a2_])⟩
theorem i106a_ok : InsOk Tryz.prog 106 i106a := ⟨B106a, B106a_ok, by intro e w_Client_ID w_Client_Now w_Client_Epoch w_Client_Seq w_Client_Out w_Client_Bad w_Client_Hits w_Client_Asks a1_ a2_ out_ h_; exact ((F106a e w_Client_ID w_Client_Now w_Client_Epoch w_Client_Seq w_Client_Out w_Client_Bad w_Client_Hits w_Client_Asks a1_ a2_).trans (N.client_work_says_2_bind _ e (N.Tclient_work.mk (N.TClient.mk w_Client_ID w_Client_Now w_Client_Epoch w_Client_Seq a1_ a2_ w_Client_Out w_Client_Bad w_Client_Hits w_Client_Asks) []))).trans h_⟩
noncomputable def P106 : Nat × D.Spec E := (106, .full [.ptr, .data (.int .i64)] false (fullF [i106, i106a]))
theorem p106 : SpecOk Tryz.prog E P106.1 P106.2 := fullI_ok ok Tryz.call106 ⟨i106_ok, i106a_ok, trivial⟩

/-! tenancy/dir.May -/
noncomputable def S124 : List (Nat × D.Spec E) := []
theorem S124_ok : AllS Tryz.prog E S124 := trivial
abbrev h124_s0 (name : List UInt8) (t7 : Int) (r0 : List UInt8) (t8 : Int) : Fr E.T := ofSlots E 27 [] [0, 6, 7, 8] [.val .str name, .own 0, .val (.int .i64) t7, .val (.int .i64) t8]
abbrev t124_s0 (name : List UInt8) (t7 : Int) (r0 : List UInt8) (t8 : Int) : St E.T := [.arr .live (.int .u8) r0]
def x124_s0 (name : List UInt8) (t7 : Int) (r0 : List UInt8) (x_ : Unit ⊕ Unit) : Tree (CodeOut E) := altT x_ (fun u0_ => .ret (.ret, ofSlots E 27 [] [0, 2] [.val .str name, .val .bool false], [.arr .live (.int .u8) r0])) (fun w0_ => .ret (.exit 0, ofSlots E 27 [] [0, 2] [.val .str name, .undef], [.arr .live (.int .u8) r0]))
noncomputable def g124_s0 : Ins E (CodeOut E) := ⟨[.v .str, .own 0, .v (.int .i64), .v (.int .i64)], [.arr .live (.int .u8)], fun name t7 t8 r0 => .opt (N.dir_May_l0 N.fuel name t7 r0 t8) (x124_s0 name t7 r0)⟩
noncomputable def L124 : Nat → LoopInfo E := clL E 27 [{ ks := [0, 6, 7, 8], mvs := [], pro := [], d := [], g := some (insF [g124_s0]) }] []
theorem f124_s0 (name : List UInt8) (t7 : Int) (r0 : List UInt8) (t8 : Int) : ((stepOf E S124 L124 0 0 Tryz.f124 (h124_s0 name t7 r0 t8) (t124_s0 name t7 r0 t8)).bind (nx E [0, 6, 7, 8] [] [0, 2] 1)).get = N.dir_May_s0k name t7 r0 (fun v_ => some (.inl (h124_s0 name t7 r0 v_, t124_s0 name t7 r0 v_))) (fun x_ => some (.inr (.ret, ofSlots E 27 [] [0, 2] [.val .str name, .val .bool false], [.arr .live (.int .u8) r0]))) (fun x_ => some (.inr (.exit 0, ofSlots E 27 [] [0, 2] [.val .str name, .undef], [.arr .live (.int .u8) r0]))) t8 := by kernel_rfl
theorem q124_s0 : InsLp 27 [0, 6, 7, 8] [] [] (stepOf E S124 L124 0 0 Tryz.f124) g124_s0 := by
  intro name t7 t8 r0 out_ ho_
  obtain ⟨x_, h1_, h2_⟩ := Option.bind_eq_some_iff.1 ho_
  refine iter_loop (rs := [0, 2]) (step := N.dir_May_s0 name t7 r0) (hd := fun v_ => h124_s0 name t7 r0 v_) (sv := fun v_ => t124_s0 name t7 r0 v_) (ex := x124_s0 name t7 r0) (fun v_ => ?_) N.fuel t8 h1_ h2_
  refine (f124_s0 name t7 r0 v_).trans ((N.dir_May_s0_bind name t7 r0 _ _ _ v_).trans ?_)
  refine congrArg _ (funext fun s_ => ?_)
  rcases s_ with v_ | a | a <;> rfl
noncomputable def B124 : List (DVal E.T) → St E.T → Tree (Res E.T × St E.T) := dbody E (lookS S124) (lookD []) L124 0 false Tryz.f124
theorem B124_ok : FnOk Tryz.prog E 124 B124 := bodyC_ok sound mix S124_ok (SD := []) trivial (L := L124) (N := 0) (keep := false) Tryz.func124 rfl (by
  intro k g hg fr st out ho
  match k, hg with
  | 0, hg => cases hg; exact lp_ok (allLp_cons q124_s0 (allLp_nil)) fr st out ho
  | _ + 1, hg => cases hg)
theorem F124 (name : List UInt8) : (B124 [.val .str name] []).get = N.dir_May_k N.fuel (fun x_ => some (.ret [.val .bool x_], [])) name := by kernel_rfl
noncomputable def i124 : Ins E (Res E.T × St E.T) := ⟨[.v .str], [], fun name => .opt (N.dir_May N.fuel name) fun x_ => .ret (.ret [.val .bool x_], [])⟩
theorem i124_ok : InsOk Tryz.prog 124 i124 := ⟨B124, B124_ok, by intro name out_ h_; exact ((F124 name).trans (N.dir_May_bind N.fuel _ name)).trans h_⟩
noncomputable def P124 : Nat × D.Spec E := (124, .pure [.str] (pureF [i124]))
theorem p124 : SpecOk Tryz.prog E P124.1 P124.2 := pureI_ok Tryz.call124 ⟨i124_ok, trivial⟩

/-! slices.Index[[]string,string] -/
noncomputable def S125 : List (Nat × D.Spec E) := []
theorem S125_ok : AllS Tryz.prog E S125 := trivial
abbrev h125_s0 (s : List (List UInt8)) (v : List UInt8) (t7 : Int) (t8 : Int) : Fr E.T := ofSlots E 19 [] [0, 1, 7, 8] [.val (.slice .str) s, .val .str v, .val (.int .i64) t7, .val (.int .i64) t8]
abbrev t125_s0 (s : List (List UInt8)) (v : List UInt8) (t7 : Int) (t8 : Int) : St E.T := []
def x125_s0 (s : List (List UInt8)) (v : List UInt8) (t7 : Int) (x_ : Int ⊕ Unit) : Tree (CodeOut E) := altT x_ (fun u0_ => .ret (.ret, ofSlots E 19 [] [4] [.val (.int .i64) u0_], [])) (fun w0_ => .ret (.exit 0, ofSlots E 19 [] [4] [.undef], []))
noncomputable def g125_s0 : Ins E (CodeOut E) := ⟨[.v (.slice .str), .v .str, .v (.int .i64), .v (.int .i64)], [], fun s v t7 t8 => .opt (N.slices_Index_string_l0 N.fuel s v t7 t8) (x125_s0 s v t7)⟩
noncomputable def L125 : Nat → LoopInfo E := clL E 19 [{ ks := [0, 1, 7, 8], mvs := [], pro := [], d := [], g := some (insF [g125_s0]) }] []
theorem f125_s0 (s : List (List UInt8)) (v : List UInt8) (t7 : Int) (t8 : Int) : ((stepOf E S125 L125 0 0 Tryz.f125 (h125_s0 s v t7 t8) (t125_s0 s v t7 t8)).bind (nx E [0, 1, 7, 8] [] [4] 0)).get = N.slices_Index_string_s0k s v t7 (fun v_ => some (.inl (h125_s0 s v t7 v_, t125_s0 s v t7 v_))) (fun x_ => some (.inr (.ret, ofSlots E 19 [] [4] [.val (.int .i64) x_], []))) (fun x_ => some (.inr (.exit 0, ofSlots E 19 [] [4] [.undef], []))) t8 := by kernel_rfl
theorem q125_s0 : InsLp 19 [0, 1, 7, 8] [] [] (stepOf E S125 L125 0 0 Tryz.f125) g125_s0 := by
  intro s v t7 t8 out_ ho_
  obtain ⟨x_, h1_, h2_⟩ := Option.bind_eq_some_iff.1 ho_
  refine iter_loop (rs := [4]) (step := N.slices_Index_string_s0 s v t7) (hd := fun v_ => h125_s0 s v t7 v_) (sv := fun v_ => t125_s0 s v t7 v_) (ex := x125_s0 s v t7) (fun v_ => ?_) N.fuel t8 h1_ h2_
  refine (f125_s0 s v t7 v_).trans ((N.slices_Index_string_s0_bind s v t7 _ _ _ v_).trans ?_)
  refine congrArg _ (funext fun s_ => ?_)
  rcases s_ with v_ | a | a <;> rfl
noncomputable def B125 : List (DVal E.T) → St E.T → Tree (Res E.T × St E.T) := dbody E (lookS S125) (lookD []) L125 0 false Tryz.f125
theorem B125_ok : FnOk Tryz.prog E 125 B125 := bodyC_ok sound mix S125_ok (SD := []) trivial (L := L125) (N := 0) (keep := false) Tryz.func125 rfl (by
  intro k g hg fr st out ho
  match k, hg with
  | 0, hg => cases hg; exact lp_ok (allLp_cons q125_s0 (allLp_nil)) fr st out ho
  | _ + 1, hg => cases hg)
theorem F125 (s : List (List UInt8)) (v : List UInt8) : (B125 [.val (.slice .str) s, .val .str v] []).get = N.slices_Index_string_k N.fuel (fun x_ => some (.ret [.val (.int .i64) x_], [])) s v := by kernel_rfl
noncomputable def i125 : Ins E (Res E.T × St E.T) := ⟨[.v (.slice .str), .v .str], [], fun s v => .opt (N.slices_Index_string N.fuel s v) fun x_ => .ret (.ret [.val (.int .i64) x_], [])⟩
theorem i125_ok : InsOk Tryz.prog 125 i125 := ⟨B125, B125_ok, by intro s v out_ h_; exact ((F125 s v).trans (N.slices_Index_string_bind N.fuel _ s v)).trans h_⟩
noncomputable def P125 : Nat × D.Spec E := (125, .pure [(.slice .str), .str] (pureF [i125]))
theorem p125 : SpecOk Tryz.prog E P125.1 P125.2 := pureI_ok Tryz.call125 ⟨i125_ok, trivial⟩

/-! (*tenancy/client.work).free -/
noncomputable def S126 : List (Nat × D.Spec E) := [P106]
theorem S126_ok : AllS Tryz.prog E S126 := ⟨p106, trivial⟩
noncomputable def L126 : Nat → LoopInfo E := clL E 10 [] []
noncomputable def B126 : List (DVal E.T) → St E.T → Tree (Res E.T × St E.T) := tidyF (dbody E (lookS S126) (lookD []) L126 0 false Tryz.f126)
theorem B126_ok : FnOk Tryz.prog E 126 B126 := tidy_fn ok (bodyC_ok sound mix S126_ok (SD := []) trivial (L := L126) (N := 0) (keep := false) Tryz.func126 rfl (by
  intro k g hg fr st out ho
  match k, hg with
  | _, hg => cases hg))
theorem F126 (w_Client_ID : Int) (w_Client_Now : Int) (w_Client_Epoch : Int) (w_Client_Seq : Int) (w_Client_Out : N.TOut) (w_Client_Bad : Int) (w_Client_Hits : Int) (w_Client_Asks : Int) (a1_ : List N.TCache) (a2_ : List (List UInt8)) : (B126 [.ptr 0 []] [.box false (.agg 8 [.agg 4 [.val (.int .i64) w_Client_ID, .val (.int .i64) w_Client_Now, .val (.int .i64) w_Client_Epoch, .val (.int .i64) w_Client_Seq, .own 1, .own 2, .val (.named 3) w_Client_Out, .val (.int .i64) w_Client_Bad, .val (.int .i64) w_Client_Hits, .val (.int .i64) w_Client_Asks], .nils]), .arr .live (.named 1) a1_, .arr .live .str a2_]).get = N.client_work_free_k (fun x_ => some (.ret [], [.box false (.agg 8 [.agg 4 [.val (.int .i64) w_Client_ID, .val (.int .i64) w_Client_Now, .val (.int .i64) w_Client_Epoch, .val (.int .i64) w_Client_Seq, .own 1, .own 2, .val (.named 3) w_Client_Out, .val (.int .i64) w_Client_Bad, .val (.int .i64) w_Client_Hits, .val (.int .i64) w_Client_Asks], .nils]), .arr .live (.named 1) a1_, .arr .live .str a2_])) (fun x_ => some (.panic (.ifc 137 (.val (.named 12) x_)), [.box false (.agg 8 [.agg 4 [.val (.int .i64) w_Client_ID, .val (.int .i64) w_Client_Now, .val (.int .i64) w_Client_Epoch, .val (.int .i64) w_Client_Seq, .own 1, .own 2, .val (.named 3) w_Client_Out, .val (.int .i64) w_Client_Bad, .val (.int .i64) w_Client_Hits, .val (.int .i64) w_Client_Asks], .nils]), .arr .live (.named 1) a1_, .arr .live .str a2_])) (N.Tclient_work.mk (N.TClient.mk w_Client_ID w_Client_Now w_Client_Epoch w_Client_Seq a1_ a2_ w_Client_Out w_Client_Bad w_Client_Hits w_Client_Asks) []) := by kernel_rfl
noncomputable def i126 : Ins E (Res E.T × St E.T) := ⟨[.ptr 0 []], [.box false (.agg 8 [.agg 4 [.v (.int .i64), .v (.int .i64), .v (.int .i64), .v (.int .i64), .own 1, .own 2, .v (.named 3), .v (.int .i64), .v (.int .i64), .v (.int .i64)], .nils]), .arr .live (.named 1), .arr .live .str], fun w_Client_ID w_Client_Now w_Client_Epoch w_Client_Seq w_Client_Out w_Client_Bad w_Client_Hits w_Client_Asks a1_ a2_ => .opt (N.client_work_free (N.Tclient_work.mk (N.TClient.mk w_Client_ID w_Client_Now w_Client_Epoch w_Client_Seq a1_ a2_ w_Client_Out w_Client_Bad w_Client_Hits w_Client_Asks) [])) fun x_ => altT x_ (fun u0_ => .ret (.ret [], [.box false (.agg 8 [.agg 4 [.val (.int .i64) w_Client_ID, .val (.int .i64) w_Client_Now, .val (.int .i64) w_Client_Epoch, .val (.int .i64) w_Client_Seq, .own 1, .own 2, .val (.named 3) w_Client_Out, .val (.int .i64) w_Client_Bad, .val (.int .i64) w_Client_Hits, .val (.int .i64) w_Client_Asks], .nils]), .arr .live (.named 1) a1_, .arr .live .str a2_])) (fun w0_ => .ret (.panic (.ifc 137 (.val (.named 12) w0_)), [.box false (.agg 8 [.agg 4 [.val (.int .i64) w_Client_ID, .val (.int .i64) w_Client_Now, .val (.int .i64) w_Client_Epoch, .val (.int .i64) w_Client_Seq, .own 1, .own 2, .val (.named 3) w_Client_Out, .val (.int .i64) w_Client_Bad, .val (.int .i64) w_Client_Hits, .val (.int .i64) w_Client_Asks], .nils]), .arr .live (.named 1) a1_, .arr .live .str a2_]))⟩
theorem i126_ok : InsOk Tryz.prog 126 i126 := ⟨B126, B126_ok, by intro w_Client_ID w_Client_Now w_Client_Epoch w_Client_Seq w_Client_Out w_Client_Bad w_Client_Hits w_Client_Asks a1_ a2_ out_ h_; exact ((F126 w_Client_ID w_Client_Now w_Client_Epoch w_Client_Seq w_Client_Out w_Client_Bad w_Client_Hits w_Client_Asks a1_ a2_).trans (N.client_work_free_bind _ _ (N.Tclient_work.mk (N.TClient.mk w_Client_ID w_Client_Now w_Client_Epoch w_Client_Seq a1_ a2_ w_Client_Out w_Client_Bad w_Client_Hits w_Client_Asks) []))).trans h_⟩
noncomputable def S126a : List (Nat × D.Spec E) := [P106]
theorem S126a_ok : AllS Tryz.prog E S126a := ⟨p106, trivial⟩
noncomputable def L126a : Nat → LoopInfo E := clL E 10 [] []
noncomputable def B126a : List (DVal E.T) → St E.T → Tree (Res E.T × St E.T) := tidyF (dbody E (lookS S126a) (lookD []) L126a 0 false Tryz.f126)
theorem B126a_ok : FnOk Tryz.prog E 126 B126a := tidy_fn ok (bodyC_ok sound mix S126a_ok (SD := []) trivial (L := L126a) (N := 0) (keep := false) Tryz.func126 rfl (by
  intro k g hg fr st out ho
  match k, hg with
  | _, hg => cases hg))
theorem F126a (w_Client_ID : Int) (w_Client_Now : Int) (w_Client_Epoch : Int) (w_Client_Seq : Int) (w_Client_Out : N.TOut) (w_Client_Bad : Int) (w_Client_Hits : Int) (w_Client_Asks : Int) (a1_ : List N.TCache) (a2_ : List (List UInt8)) : (B126a [.ptr 0 []] [.box false (.agg 8 [.agg 4 [.val (.int .i64) w_Client_ID, .val (.int .i64) w_Client_Now, .val (.int .i64) w_Client_Epoch, .val (.int .i64) w_Client_Seq, .own 1, .own 2, .val (.named 3) w_Client_Out, .val (.int .i64) w_Client_Bad, .val (.int .i64) w_Client_Hits, .val (.int .i64) w_Client_Asks], .nils]), .arr .fix (.named 1) a1_, .arr .live .str a2_]).get = N.client_work_free_2_k (fun x_ => some (.ret [], [.box false (.agg 8 [.agg 4 [.val (.int .i64) w_Client_ID, .val (.int .i64) w_Client_Now, .val (.int .i64) w_Client_Epoch, .val (.int .i64) w_Client_Seq, .own 1, .own 2, .val (.named 3) w_Client_Out, .val (.int .i64) w_Client_Bad, .val (.int .i64) w_Client_Hits, .val (.int .i64) w_Client_Asks], .nils]), .arr .fix (.named 1) a1_, .arr .live .str a2_])) (fun x_ => some (.panic (.ifc 137 (.val (.named 12) x_)), [.box false (.agg 8 [.agg 4 [.val (.int .i64) w_Client_ID, .val (.int .i64) w_Client_Now, .val (.int .i64) w_Client_Epoch, .val (.int .i64) w_Client_Seq, .own 1, .own 2, .val (.named 3) w_Client_Out, .val (.int .i64) w_Client_Bad, .val (.int .i64) w_Client_Hits, .val (.int .i64) w_Client_Asks], .nils]), .arr .fix (.named 1) a1_, .arr .live .str a2_])) (N.Tclient_work.mk (N.TClient.mk w_Client_ID w_Client_Now w_Client_Epoch w_Client_Seq a1_ a2_ w_Client_Out w_Client_Bad w_Client_Hits w_Client_Asks) []) := by kernel_rfl
noncomputable def i126a : Ins E (Res E.T × St E.T) := ⟨[.ptr 0 []], [.box false (.agg 8 [.agg 4 [.v (.int .i64), .v (.int .i64), .v (.int .i64), .v (.int .i64), .own 1, .own 2, .v (.named 3), .v (.int .i64), .v (.int .i64), .v (.int .i64)], .nils]), .arr .fix (.named 1), .arr .live .str], fun w_Client_ID w_Client_Now w_Client_Epoch w_Client_Seq w_Client_Out w_Client_Bad w_Client_Hits w_Client_Asks a1_ a2_ => .opt (N.client_work_free_2 (N.Tclient_work.mk (N.TClient.mk w_Client_ID w_Client_Now w_Client_Epoch w_Client_Seq a1_ a2_ w_Client_Out w_Client_Bad w_Client_Hits w_Client_Asks) [])) fun x_ => altT x_ (fun u0_ => .ret (.ret [], [.box false (.agg 8 [.agg 4 [.val (.int .i64) w_Client_ID, .val (.int .i64) w_Client_Now, .val (.int .i64) w_Client_Epoch, .val (.int .i64) w_Client_Seq, .own 1, .own 2, .val (.named 3) w_Client_Out, .val (.int .i64) w_Client_Bad, .val (.int .i64) w_Client_Hits, .val (.int .i64) w_Client_Asks], .nils]), .arr .fix (.named 1) a1_, .arr .live .str a2_])) (fun w0_ => .ret (.panic (.ifc 137 (.val (.named 12) w0_)), [.box false (.agg 8 [.agg 4 [.val (.int .i64) w_Client_ID, .val (.int .i64) w_Client_Now, .val (.int .i64) w_Client_Epoch, .val (.int .i64) w_Client_Seq, .own 1, .own 2, .val (.named 3) w_Client_Out, .val (.int .i64) w_Client_Bad, .val (.int .i64) w_Client_Hits, .val (.int .i64) w_Client_Asks], .nils]), .arr .fix (.named 1) a1_, .arr .live .str a2_]))⟩
theorem i126a_ok : InsOk Tryz.prog 126 i126a := ⟨B126a, B126a_ok, by intro w_Client_ID w_Client_Now w_Client_Epoch w_Client_Seq w_Client_Out w_Client_Bad w_Client_Hits w_Client_Asks a1_ a2_ out_ h_; exact ((F126a w_Client_ID w_Client_Now w_Client_Epoch w_Client_Seq w_Client_Out w_Client_Bad w_Client_Hits w_Client_Asks a1_ a2_).trans (N.client_work_free_2_bind _ _ (N.Tclient_work.mk (N.TClient.mk w_Client_ID w_Client_Now w_Client_Epoch w_Client_Seq a1_ a2_ w_Client_Out w_Client_Bad w_Client_Hits w_Client_Asks) []))).trans h_⟩
noncomputable def P126 : Nat × D.Spec E := (126, .full [.ptr] false (fullF [i126, i126a]))
theorem p126 : SpecOk Tryz.prog E P126.1 P126.2 := fullI_ok ok Tryz.call126 ⟨i126_ok, i126a_ok, trivial⟩

/-! (*tenancy/client.work).again -/
noncomputable def S31 : List (Nat × D.Spec E) := [P66]
theorem S31_ok : AllS Tryz.prog E S31 := ⟨p66, trivial⟩
noncomputable def L31 : Nat → LoopInfo E := clL E 28 [] []
noncomputable def B31 : List (DVal E.T) → St E.T → Tree (Res E.T × St E.T) := tidyF (dbody E (lookS S31) (lookD []) L31 0 true Tryz.f31)
theorem B31_ok : FnOk Tryz.prog E 31 B31 := tidy_fn ok (bodyC_ok sound mix S31_ok (SD := []) trivial (L := L31) (N := 0) (keep := true) Tryz.func31 rfl (by
  intro k g hg fr st out ho
  match k, hg with
  | _, hg => cases hg))
theorem F31 (w_Client_ID : Int) (w_Client_Now : Int) (w_Client_Epoch : Int) (w_Client_Seq : Int) (w_Client_Out : N.TOut) (w_Client_Bad : Int) (w_Client_Hits : Int) (w_Client_Asks : Int) (a1_ : List N.TCache) (a2_ : List (List UInt8)) : (B31 [.ptr 0 []] [.box false (.agg 8 [.agg 4 [.val (.int .i64) w_Client_ID, .val (.int .i64) w_Client_Now, .val (.int .i64) w_Client_Epoch, .val (.int .i64) w_Client_Seq, .own 1, .own 2, .val (.named 3) w_Client_Out, .val (.int .i64) w_Client_Bad, .val (.int .i64) w_Client_Hits, .val (.int .i64) w_Client_Asks], .nils]), .arr .live (.named 1) a1_, .arr .live .str a2_]).get = N.client_work_again_k (fun x_ => some (.ret [], [.box false (.agg 8 [.agg 4 [.val (.int .i64) x_.Client.ID, .val (.int .i64) x_.Client.Now, .val (.int .i64) x_.Client.Epoch, .val (.int .i64) x_.Client.Seq, .own 1, .own 2, .val (.named 3) x_.Client.Out, .val (.int .i64) x_.Client.Bad, .val (.int .i64) x_.Client.Hits, .val (.int .i64) x_.Client.Asks], .own 3]), .arr .live (.named 1) x_.Client.Files, .arr .live .str x_.Client.Names, .arr .live (.named 2) x_.asked])) (N.Tclient_work.mk (N.TClient.mk w_Client_ID w_Client_Now w_Client_Epoch w_Client_Seq a1_ a2_ w_Client_Out w_Client_Bad w_Client_Hits w_Client_Asks) []) := by kernel_rfl
noncomputable def i31 : Ins E (Res E.T × St E.T) := ⟨[.ptr 0 []], [.box false (.agg 8 [.agg 4 [.v (.int .i64), .v (.int .i64), .v (.int .i64), .v (.int .i64), .own 1, .own 2, .v (.named 3), .v (.int .i64), .v (.int .i64), .v (.int .i64)], .nils]), .arr .live (.named 1), .arr .live .str], fun w_Client_ID w_Client_Now w_Client_Epoch w_Client_Seq w_Client_Out w_Client_Bad w_Client_Hits w_Client_Asks a1_ a2_ => .ret (.ret [], [.box false (.agg 8 [.agg 4 [.val (.int .i64) ((N.client_work_again (N.Tclient_work.mk (N.TClient.mk w_Client_ID w_Client_Now w_Client_Epoch w_Client_Seq a1_ a2_ w_Client_Out w_Client_Bad w_Client_Hits w_Client_Asks) [])).Client.ID), .val (.int .i64) ((N.client_work_again (N.Tclient_work.mk (N.TClient.mk w_Client_ID w_Client_Now w_Client_Epoch w_Client_Seq a1_ a2_ w_Client_Out w_Client_Bad w_Client_Hits w_Client_Asks) [])).Client.Now), .val (.int .i64) ((N.client_work_again (N.Tclient_work.mk (N.TClient.mk w_Client_ID w_Client_Now w_Client_Epoch w_Client_Seq a1_ a2_ w_Client_Out w_Client_Bad w_Client_Hits w_Client_Asks) [])).Client.Epoch), .val (.int .i64) ((N.client_work_again (N.Tclient_work.mk (N.TClient.mk w_Client_ID w_Client_Now w_Client_Epoch w_Client_Seq a1_ a2_ w_Client_Out w_Client_Bad w_Client_Hits w_Client_Asks) [])).Client.Seq), .own 1, .own 2, .val (.named 3) ((N.client_work_again (N.Tclient_work.mk (N.TClient.mk w_Client_ID w_Client_Now w_Client_Epoch w_Client_Seq a1_ a2_ w_Client_Out w_Client_Bad w_Client_Hits w_Client_Asks) [])).Client.Out), .val (.int .i64) ((N.client_work_again (N.Tclient_work.mk (N.TClient.mk w_Client_ID w_Client_Now w_Client_Epoch w_Client_Seq a1_ a2_ w_Client_Out w_Client_Bad w_Client_Hits w_Client_Asks) [])).Client.Bad), .val (.int .i64) ((N.client_work_again (N.Tclient_work.mk (N.TClient.mk w_Client_ID w_Client_Now w_Client_Epoch w_Client_Seq a1_ a2_ w_Client_Out w_Client_Bad w_Client_Hits w_Client_Asks) [])).Client.Hits), .val (.int .i64) ((N.client_work_again (N.Tclient_work.mk (N.TClient.mk w_Client_ID w_Client_Now w_Client_Epoch w_Client_Seq a1_ a2_ w_Client_Out w_Client_Bad w_Client_Hits w_Client_Asks) [])).Client.Asks)], .own 3]), .arr .live (.named 1) ((N.client_work_again (N.Tclient_work.mk (N.TClient.mk w_Client_ID w_Client_Now w_Client_Epoch w_Client_Seq a1_ a2_ w_Client_Out w_Client_Bad w_Client_Hits w_Client_Asks) [])).Client.Files), .arr .live .str ((N.client_work_again (N.Tclient_work.mk (N.TClient.mk w_Client_ID w_Client_Now w_Client_Epoch w_Client_Seq a1_ a2_ w_Client_Out w_Client_Bad w_Client_Hits w_Client_Asks) [])).Client.Names), .arr .live (.named 2) ((N.client_work_again (N.Tclient_work.mk (N.TClient.mk w_Client_ID w_Client_Now w_Client_Epoch w_Client_Seq a1_ a2_ w_Client_Out w_Client_Bad w_Client_Hits w_Client_Asks) [])).asked)])⟩
theorem i31_ok : InsOk Tryz.prog 31 i31 := ⟨B31, B31_ok, by intro w_Client_ID w_Client_Now w_Client_Epoch w_Client_Seq w_Client_Out w_Client_Bad w_Client_Hits w_Client_Asks a1_ a2_ out_ h_; exact ((F31 w_Client_ID w_Client_Now w_Client_Epoch w_Client_Seq w_Client_Out w_Client_Bad w_Client_Hits w_Client_Asks a1_ a2_).trans (N.client_work_again_bind _ (N.Tclient_work.mk (N.TClient.mk w_Client_ID w_Client_Now w_Client_Epoch w_Client_Seq a1_ a2_ w_Client_Out w_Client_Bad w_Client_Hits w_Client_Asks) []))).trans h_⟩
noncomputable def S31a : List (Nat × D.Spec E) := [P66]
theorem S31a_ok : AllS Tryz.prog E S31a := ⟨p66, trivial⟩
noncomputable def L31a : Nat → LoopInfo E := clL E 28 [] []
noncomputable def B31a : List (DVal E.T) → St E.T → Tree (Res E.T × St E.T) := tidyF (dbody E (lookS S31a) (lookD []) L31a 0 true Tryz.f31)
theorem B31a_ok : FnOk Tryz.prog E 31 B31a := tidy_fn ok (bodyC_ok sound mix S31a_ok (SD := []) trivial (L := L31a) (N := 0) (keep := true) Tryz.func31 rfl (by
  intro k g hg fr st out ho
  match k, hg with
  | _, hg => cases hg))
theorem F31a (w_Client_ID : Int) (w_Client_Now : Int) (w_Client_Epoch : Int) (w_Client_Seq : Int) (w_Client_Out : N.TOut) (w_Client_Bad : Int) (w_Client_Hits : Int) (w_Client_Asks : Int) (a1_ : List N.TCache) (a2_ : List (List UInt8)) : (B31a [.ptr 0 []] [.box false (.agg 8 [.agg 4 [.val (.int .i64) w_Client_ID, .val (.int .i64) w_Client_Now, .val (.int .i64) w_Client_Epoch, .val (.int .i64) w_Client_Seq, .own 1, .own 2, .val (.named 3) w_Client_Out, .val (.int .i64) w_Client_Bad, .val (.int .i64) w_Client_Hits, .val (.int .i64) w_Client_Asks], .nils]), .arr .fix (.named 1) a1_, .arr .live .str a2_]).get = N.client_work_again_2_k (fun x_ => some (.ret [], [.box false (.agg 8 [.agg 4 [.val (.int .i64) x_.Client.ID, .val (.int .i64) x_.Client.Now, .val (.int .i64) x_.Client.Epoch, .val (.int .i64) x_.Client.Seq, .own 1, .own 2, .val (.named 3) x_.Client.Out, .val (.int .i64) x_.Client.Bad, .val (.int .i64) x_.Client.Hits, .val (.int .i64) x_.Client.Asks], .own 3]), .arr .fix (.named 1) x_.Client.Files, .arr .live .str x_.Client.Names, .arr .live (.named 2) x_.asked])) (N.Tclient_work.mk (N.TClient.mk w_Client_ID w_Client_Now w_Client_Epoch w_Client_Seq a1_ a2_ w_Client_Out w_Client_Bad w_Client_Hits w_Client_Asks) []) := by kernel_rfl
noncomputable def i31a : Ins E (Res E.T × St E.T) := ⟨[.ptr 0 []], [.box false (.agg 8 [.agg 4 [.v (.int .i64), .v (.int .i64), .v (.int .i64), .v (.int .i64), .own 1, .own 2, .v (.named 3), .v (.int .i64), .v (.int .i64), .v (.int .i64)], .nils]), .arr .fix (.named 1), .arr .live .str], fun w_Client_ID w_Client_Now w_Client_Epoch w_Client_Seq w_Client_Out w_Client_Bad w_Client_Hits w_Client_Asks a1_ a2_ => .ret (.ret [], [.box false (.agg 8 [.agg 4 [.val (.int .i64) ((N.client_work_again_2 (N.Tclient_work.mk (N.TClient.mk w_Client_ID w_Client_Now w_Client_Epoch w_Client_Seq a1_ a2_ w_Client_Out w_Client_Bad w_Client_Hits w_Client_Asks) [])).Client.ID), .val (.int .i64) ((N.client_work_again_2 (N.Tclient_work.mk (N.TClient.mk w_Client_ID w_Client_Now w_Client_Epoch w_Client_Seq a1_ a2_ w_Client_Out w_Client_Bad w_Client_Hits w_Client_Asks) [])).Client.Now), .val (.int .i64) ((N.client_work_again_2 (N.Tclient_work.mk (N.TClient.mk w_Client_ID w_Client_Now w_Client_Epoch w_Client_Seq a1_ a2_ w_Client_Out w_Client_Bad w_Client_Hits w_Client_Asks) [])).Client.Epoch), .val (.int .i64) ((N.client_work_again_2 (N.Tclient_work.mk (N.TClient.mk w_Client_ID w_Client_Now w_Client_Epoch w_Client_Seq a1_ a2_ w_Client_Out w_Client_Bad w_Client_Hits w_Client_Asks) [])).Client.Seq), .own 1, .own 2, .val (.named 3) ((N.client_work_again_2 (N.Tclient_work.mk (N.TClient.mk w_Client_ID w_Client_Now w_Client_Epoch w_Client_Seq a1_ a2_ w_Client_Out w_Client_Bad w_Client_Hits w_Client_Asks) [])).Client.Out), .val (.int .i64) ((N.client_work_again_2 (N.Tclient_work.mk (N.TClient.mk w_Client_ID w_Client_Now w_Client_Epoch w_Client_Seq a1_ a2_ w_Client_Out w_Client_Bad w_Client_Hits w_Client_Asks) [])).Client.Bad), .val (.int .i64) ((N.client_work_again_2 (N.Tclient_work.mk (N.TClient.mk w_Client_ID w_Client_Now w_Client_Epoch w_Client_Seq a1_ a2_ w_Client_Out w_Client_Bad w_Client_Hits w_Client_Asks) [])).Client.Hits), .val (.int .i64) ((N.client_work_again_2 (N.Tclient_work.mk (N.TClient.mk w_Client_ID w_Client_Now w_Client_Epoch w_Client_Seq a1_ a2_ w_Client_Out w_Client_Bad w_Client_Hits w_Client_Asks) [])).Client.Asks)], .own 3]), .arr .fix (.named 1) ((N.client_work_again_2 (N.Tclient_work.mk (N.TClient.mk w_Client_ID w_Client_Now w_Client_Epoch w_Client_Seq a1_ a2_ w_Client_Out w_Client_Bad w_Client_Hits w_Client_Asks) [])).Client.Files), .arr .live .str ((N.client_work_again_2 (N.Tclient_work.mk (N.TClient.mk w_Client_ID w_Client_Now w_Client_Epoch w_Client_Seq a1_ a2_ w_Client_Out w_Client_Bad w_Client_Hits w_Client_Asks) [])).Client.Names), .arr .live (.named 2) ((N.client_work_again_2 (N.Tclient_work.mk (N.TClient.mk w_Client_ID w_Client_Now w_Client_Epoch w_Client_Seq a1_ a2_ w_Client_Out w_Client_Bad w_Client_Hits w_Client_Asks) [])).asked)])⟩
theorem i31a_ok : InsOk Tryz.prog 31 i31a := ⟨B31a, B31a_ok, by intro w_Client_ID w_Client_Now w_Client_Epoch w_Client_Seq w_Client_Out w_Client_Bad w_Client_Hits w_Client_Asks a1_ a2_ out_ h_; exact ((F31a w_Client_ID w_Client_Now w_Client_Epoch w_Client_Seq w_Client_Out w_Client_Bad w_Client_Hits w_Client_Asks a1_ a2_).trans (N.client_work_again_2_bind _ (N.Tclient_work.mk (N.TClient.mk w_Client_ID w_Client_Now w_Client_Epoch w_Client_Seq a1_ a2_ w_Client_Out w_Client_Bad w_Client_Hits w_Client_Asks) []))).trans h_⟩
noncomputable def P31 : Nat × D.Spec E := (31, .full [.ptr] false (fullF [i31, i31a]))
theorem p31 : SpecOk Tryz.prog E P31.1 P31.2 := fullI_ok ok Tryz.call31 ⟨i31_ok, i31a_ok, trivial⟩

/-! (*tenancy/client.work).asks -/
noncomputable def S78 : List (Nat × D.Spec E) := [P31, P66]
theorem S78_ok : AllS Tryz.prog E S78 := ⟨p31, p66, trivial⟩
noncomputable def L78 : Nat → LoopInfo E := clL E 54 [] []
noncomputable def B78 : List (DVal E.T) → St E.T → Tree (Res E.T × St E.T) := tidyF (dbody E (lookS S78) (lookD []) L78 0 true Tryz.f78)
theorem B78_ok : FnOk Tryz.prog E 78 B78 := tidy_fn ok (bodyC_ok sound mix S78_ok (SD := []) trivial (L := L78) (N := 0) (keep := true) Tryz.func78 rfl (by
  intro k g hg fr st out ho
  match k, hg with
  | _, hg => cases hg))
theorem F78 (a : N.TAsk) (w_Client_ID : Int) (w_Client_Now : Int) (w_Client_Epoch : Int) (w_Client_Seq : Int) (w_Client_Out : N.TOut) (w_Client_Bad : Int) (w_Client_Hits : Int) (w_Client_Asks : Int) (a1_ : List N.TCache) (a2_ : List (List UInt8)) : (B78 [.ptr 0 [], .val (.named 2) a] [.box false (.agg 8 [.agg 4 [.val (.int .i64) w_Client_ID, .val (.int .i64) w_Client_Now, .val (.int .i64) w_Client_Epoch, .val (.int .i64) w_Client_Seq, .own 1, .own 2, .val (.named 3) w_Client_Out, .val (.int .i64) w_Client_Bad, .val (.int .i64) w_Client_Hits, .val (.int .i64) w_Client_Asks], .nils]), .arr .live (.named 1) a1_, .arr .live .str a2_]).get = N.client_work_asks_k (fun x_ => some (.ret [], [.box false (.agg 8 [.agg 4 [.val (.int .i64) x_.Client.ID, .val (.int .i64) x_.Client.Now, .val (.int .i64) x_.Client.Epoch, .val (.int .i64) x_.Client.Seq, .own 1, .own 2, .val (.named 3) x_.Client.Out, .val (.int .i64) x_.Client.Bad, .val (.int .i64) x_.Client.Hits, .val (.int .i64) x_.Client.Asks], .own 4]), .arr .live (.named 1) x_.Client.Files, .arr .live .str x_.Client.Names, .dead, .arr .live (.named 2) x_.asked])) a (N.Tclient_work.mk (N.TClient.mk w_Client_ID w_Client_Now w_Client_Epoch w_Client_Seq a1_ a2_ w_Client_Out w_Client_Bad w_Client_Hits w_Client_Asks) []) := by kernel_rfl
noncomputable def i78 : Ins E (Res E.T × St E.T) := ⟨[.ptr 0 [], .v (.named 2)], [.box false (.agg 8 [.agg 4 [.v (.int .i64), .v (.int .i64), .v (.int .i64), .v (.int .i64), .own 1, .own 2, .v (.named 3), .v (.int .i64), .v (.int .i64), .v (.int .i64)], .nils]), .arr .live (.named 1), .arr .live .str], fun a w_Client_ID w_Client_Now w_Client_Epoch w_Client_Seq w_Client_Out w_Client_Bad w_Client_Hits w_Client_Asks a1_ a2_ => .ret (.ret [], [.box false (.agg 8 [.agg 4 [.val (.int .i64) ((N.client_work_asks a (N.Tclient_work.mk (N.TClient.mk w_Client_ID w_Client_Now w_Client_Epoch w_Client_Seq a1_ a2_ w_Client_Out w_Client_Bad w_Client_Hits w_Client_Asks) [])).Client.ID), .val (.int .i64) ((N.client_work_asks a (N.Tclient_work.mk (N.TClient.mk w_Client_ID w_Client_Now w_Client_Epoch w_Client_Seq a1_ a2_ w_Client_Out w_Client_Bad w_Client_Hits w_Client_Asks) [])).Client.Now), .val (.int .i64) ((N.client_work_asks a (N.Tclient_work.mk (N.TClient.mk w_Client_ID w_Client_Now w_Client_Epoch w_Client_Seq a1_ a2_ w_Client_Out w_Client_Bad w_Client_Hits w_Client_Asks) [])).Client.Epoch), .val (.int .i64) ((N.client_work_asks a (N.Tclient_work.mk (N.TClient.mk w_Client_ID w_Client_Now w_Client_Epoch w_Client_Seq a1_ a2_ w_Client_Out w_Client_Bad w_Client_Hits w_Client_Asks) [])).Client.Seq), .own 1, .own 2, .val (.named 3) ((N.client_work_asks a (N.Tclient_work.mk (N.TClient.mk w_Client_ID w_Client_Now w_Client_Epoch w_Client_Seq a1_ a2_ w_Client_Out w_Client_Bad w_Client_Hits w_Client_Asks) [])).Client.Out), .val (.int .i64) ((N.client_work_asks a (N.Tclient_work.mk (N.TClient.mk w_Client_ID w_Client_Now w_Client_Epoch w_Client_Seq a1_ a2_ w_Client_Out w_Client_Bad w_Client_Hits w_Client_Asks) [])).Client.Bad), .val (.int .i64) ((N.client_work_asks a (N.Tclient_work.mk (N.TClient.mk w_Client_ID w_Client_Now w_Client_Epoch w_Client_Seq a1_ a2_ w_Client_Out w_Client_Bad w_Client_Hits w_Client_Asks) [])).Client.Hits), .val (.int .i64) ((N.client_work_asks a (N.Tclient_work.mk (N.TClient.mk w_Client_ID w_Client_Now w_Client_Epoch w_Client_Seq a1_ a2_ w_Client_Out w_Client_Bad w_Client_Hits w_Client_Asks) [])).Client.Asks)], .own 4]), .arr .live (.named 1) ((N.client_work_asks a (N.Tclient_work.mk (N.TClient.mk w_Client_ID w_Client_Now w_Client_Epoch w_Client_Seq a1_ a2_ w_Client_Out w_Client_Bad w_Client_Hits w_Client_Asks) [])).Client.Files), .arr .live .str ((N.client_work_asks a (N.Tclient_work.mk (N.TClient.mk w_Client_ID w_Client_Now w_Client_Epoch w_Client_Seq a1_ a2_ w_Client_Out w_Client_Bad w_Client_Hits w_Client_Asks) [])).Client.Names), .dead, .arr .live (.named 2) ((N.client_work_asks a (N.Tclient_work.mk (N.TClient.mk w_Client_ID w_Client_Now w_Client_Epoch w_Client_Seq a1_ a2_ w_Client_Out w_Client_Bad w_Client_Hits w_Client_Asks) [])).asked)])⟩
theorem i78_ok : InsOk Tryz.prog 78 i78 := ⟨B78, B78_ok, by intro a w_Client_ID w_Client_Now w_Client_Epoch w_Client_Seq w_Client_Out w_Client_Bad w_Client_Hits w_Client_Asks a1_ a2_ out_ h_; exact ((F78 a w_Client_ID w_Client_Now w_Client_Epoch w_Client_Seq w_Client_Out w_Client_Bad w_Client_Hits w_Client_Asks a1_ a2_).trans (N.client_work_asks_bind _ a (N.Tclient_work.mk (N.TClient.mk w_Client_ID w_Client_Now w_Client_Epoch w_Client_Seq a1_ a2_ w_Client_Out w_Client_Bad w_Client_Hits w_Client_Asks) []))).trans h_⟩
noncomputable def S78a : List (Nat × D.Spec E) := [P31, P66]
theorem S78a_ok : AllS Tryz.prog E S78a := ⟨p31, p66, trivial⟩
noncomputable def L78a : Nat → LoopInfo E := clL E 54 [] []
noncomputable def B78a : List (DVal E.T) → St E.T → Tree (Res E.T × St E.T) := tidyF (dbody E (lookS S78a) (lookD []) L78a 0 true Tryz.f78)
theorem B78a_ok : FnOk Tryz.prog E 78 B78a := tidy_fn ok (bodyC_ok sound mix S78a_ok (SD := []) trivial (L := L78a) (N := 0) (keep := true) Tryz.func78 rfl (by
  intro k g hg fr st out ho
  match k, hg with
  | _, hg => cases hg))
theorem F78a (a : N.TAsk) (w_Client_ID : Int) (w_Client_Now : Int) (w_Client_Epoch : Int) (w_Client_Seq : Int) (w_Client_Out : N.TOut) (w_Client_Bad : Int) (w_Client_Hits : Int) (w_Client_Asks : Int) (a1_ : List N.TCache) (a2_ : List (List UInt8)) : (B78a [.ptr 0 [], .val (.named 2) a] [.box false (.agg 8 [.agg 4 [.val (.int .i64) w_Client_ID, .val (.int .i64) w_Client_Now, .val (.int .i64) w_Client_Epoch, .val (.int .i64) w_Client_Seq, .own 1, .own 2, .val (.named 3) w_Client_Out, .val (.int .i64) w_Client_Bad, .val (.int .i64) w_Client_Hits, .val (.int .i64) w_Client_Asks], .nils]), .arr .fix (.named 1) a1_, .arr .live .str a2_]).get = N.client_work_asks_2_k (fun x_ => some (.ret [], [.box false (.agg 8 [.agg 4 [.val (.int .i64) x_.Client.ID, .val (.int .i64) x_.Client.Now, .val (.int .i64) x_.Client.Epoch, .val (.int .i64) x_.Client.Seq, .own 1, .own 2, .val (.named 3) x_.Client.Out, .val (.int .i64) x_.Client.Bad, .val (.int .i64) x_.Client.Hits, .val (.int .i64) x_.Client.Asks], .own 4]), .arr .fix (.named 1) x_.Client.Files, .arr .live .str x_.Client.Names, .dead, .arr .live (.named 2) x_.asked])) a (N.Tclient_work.mk (N.TClient.mk w_Client_ID w_Client_Now w_Client_Epoch w_Client_Seq a1_ a2_ w_Client_Out w_Client_Bad w_Client_Hits w_Client_Asks) []) := by kernel_rfl
noncomputable def i78a : Ins E (Res E.T × St E.T) := ⟨[.ptr 0 [], .v (.named 2)], [.box false (.agg 8 [.agg 4 [.v (.int .i64), .v (.int .i64), .v (.int .i64), .v (.int .i64), .own 1, .own 2, .v (.named 3), .v (.int .i64), .v (.int .i64), .v (.int .i64)], .nils]), .arr .fix (.named 1), .arr .live .str], fun a w_Client_ID w_Client_Now w_Client_Epoch w_Client_Seq w_Client_Out w_Client_Bad w_Client_Hits w_Client_Asks a1_ a2_ => .ret (.ret [], [.box false (.agg 8 [.agg 4 [.val (.int .i64) ((N.client_work_asks_2 a (N.Tclient_work.mk (N.TClient.mk w_Client_ID w_Client_Now w_Client_Epoch w_Client_Seq a1_ a2_ w_Client_Out w_Client_Bad w_Client_Hits w_Client_Asks) [])).Client.ID), .val (.int .i64) ((N.client_work_asks_2 a (N.Tclient_work.mk (N.TClient.mk w_Client_ID w_Client_Now w_Client_Epoch w_Client_Seq a1_ a2_ w_Client_Out w_Client_Bad w_Client_Hits w_Client_Asks) [])).Client.Now), .val (.int .i64) ((N.client_work_asks_2 a (N.Tclient_work.mk (N.TClient.mk w_Client_ID w_Client_Now w_Client_Epoch w_Client_Seq a1_ a2_ w_Client_Out w_Client_Bad w_Client_Hits w_Client_Asks) [])).Client.Epoch), .val (.int .i64) ((N.client_work_asks_2 a (N.Tclient_work.mk (N.TClient.mk w_Client_ID w_Client_Now w_Client_Epoch w_Client_Seq a1_ a2_ w_Client_Out w_Client_Bad w_Client_Hits w_Client_Asks) [])).Client.Seq), .own 1, .own 2, .val (.named 3) ((N.client_work_asks_2 a (N.Tclient_work.mk (N.TClient.mk w_Client_ID w_Client_Now w_Client_Epoch w_Client_Seq a1_ a2_ w_Client_Out w_Client_Bad w_Client_Hits w_Client_Asks) [])).Client.Out), .val (.int .i64) ((N.client_work_asks_2 a (N.Tclient_work.mk (N.TClient.mk w_Client_ID w_Client_Now w_Client_Epoch w_Client_Seq a1_ a2_ w_Client_Out w_Client_Bad w_Client_Hits w_Client_Asks) [])).Client.Bad), .val (.int .i64) ((N.client_work_asks_2 a (N.Tclient_work.mk (N.TClient.mk w_Client_ID w_Client_Now w_Client_Epoch w_Client_Seq a1_ a2_ w_Client_Out w_Client_Bad w_Client_Hits w_Client_Asks) [])).Client.Hits), .val (.int .i64) ((N.client_work_asks_2 a (N.Tclient_work.mk (N.TClient.mk w_Client_ID w_Client_Now w_Client_Epoch w_Client_Seq a1_ a2_ w_Client_Out w_Client_Bad w_Client_Hits w_Client_Asks) [])).Client.Asks)], .own 4]), .arr .fix (.named 1) ((N.client_work_asks_2 a (N.Tclient_work.mk (N.TClient.mk w_Client_ID w_Client_Now w_Client_Epoch w_Client_Seq a1_ a2_ w_Client_Out w_Client_Bad w_Client_Hits w_Client_Asks) [])).Client.Files), .arr .live .str ((N.client_work_asks_2 a (N.Tclient_work.mk (N.TClient.mk w_Client_ID w_Client_Now w_Client_Epoch w_Client_Seq a1_ a2_ w_Client_Out w_Client_Bad w_Client_Hits w_Client_Asks) [])).Client.Names), .dead, .arr .live (.named 2) ((N.client_work_asks_2 a (N.Tclient_work.mk (N.TClient.mk w_Client_ID w_Client_Now w_Client_Epoch w_Client_Seq a1_ a2_ w_Client_Out w_Client_Bad w_Client_Hits w_Client_Asks) [])).asked)])⟩
theorem i78a_ok : InsOk Tryz.prog 78 i78a := ⟨B78a, B78a_ok, by intro a w_Client_ID w_Client_Now w_Client_Epoch w_Client_Seq w_Client_Out w_Client_Bad w_Client_Hits w_Client_Asks a1_ a2_ out_ h_; exact ((F78a a w_Client_ID w_Client_Now w_Client_Epoch w_Client_Seq w_Client_Out w_Client_Bad w_Client_Hits w_Client_Asks a1_ a2_).trans (N.client_work_asks_2_bind _ a (N.Tclient_work.mk (N.TClient.mk w_Client_ID w_Client_Now w_Client_Epoch w_Client_Seq a1_ a2_ w_Client_Out w_Client_Bad w_Client_Hits w_Client_Asks) []))).trans h_⟩
noncomputable def P78 : Nat × D.Spec E := (78, .full [.ptr, .data (.named 2)] false (fullF [i78, i78a]))
theorem p78 : SpecOk Tryz.prog E P78.1 P78.2 := fullI_ok ok Tryz.call78 ⟨i78_ok, i78a_ok, trivial⟩

/-! (*tenancy/client.work).opens -/
noncomputable def S107 : List (Nat × D.Spec E) := [P106, P124, P125, P126, P78]
theorem S107_ok : AllS Tryz.prog E S107 := ⟨p106, p124, p125, p126, p78, trivial⟩
noncomputable def L107 : Nat → LoopInfo E := clL E 30 [] []
noncomputable def B107 : List (DVal E.T) → St E.T → Tree (Res E.T × St E.T) := tidyF (dbody E (lookS S107) (lookD []) L107 0 true Tryz.f107)
theorem B107_ok : FnOk Tryz.prog E 107 B107 := tidy_fn ok (bodyC_ok sound mix S107_ok (SD := []) trivial (L := L107) (N := 0) (keep := true) Tryz.func107 rfl (by
  intro k g hg fr st out ho
  match k, hg with
  | _, hg => cases hg))
theorem F107 (name : List UInt8) (w_Client_ID : Int) (w_Client_Now : Int) (w_Client_Epoch : Int) (w_Client_Seq : Int) (w_Client_Out : N.TOut) (w_Client_Bad : Int) (w_Client_Hits : Int) (w_Client_Asks : Int) (a1_ : List N.TCache) (a2_ : List (List UInt8)) : (B107 [.ptr 0 [], .val .str name] [.box false (.agg 8 [.agg 4 [.val (.int .i64) w_Client_ID, .val (.int .i64) w_Client_Now, .val (.int .i64) w_Client_Epoch, .val (.int .i64) w_Client_Seq, .own 1, .own 2, .val (.named 3) w_Client_Out, .val (.int .i64) w_Client_Bad, .val (.int .i64) w_Client_Hits, .val (.int .i64) w_Client_Asks], .nils]), .arr .live (.named 1) a1_, .arr .live .str a2_]).get = N.client_work_opens_k N.fuel (fun x_ => some (.ret [], [.box false (.agg 8 [.agg 4 [.val (.int .i64) x_.Client.ID, .val (.int .i64) x_.Client.Now, .val (.int .i64) x_.Client.Epoch, .val (.int .i64) x_.Client.Seq, .own 1, .own 2, .val (.named 3) x_.Client.Out, .val (.int .i64) x_.Client.Bad, .val (.int .i64) x_.Client.Hits, .val (.int .i64) x_.Client.Asks], .own 4]), .arr .live (.named 1) x_.Client.Files, .arr .live .str x_.Client.Names, .dead, .arr .live (.named 2) x_.asked])) (fun x_ => some (.panic (.ifc 137 (.val (.named 12) x_.1)), [.box false (.agg 8 [.agg 4 [.val (.int .i64) x_.2.Client.ID, .val (.int .i64) x_.2.Client.Now, .val (.int .i64) x_.2.Client.Epoch, .val (.int .i64) x_.2.Client.Seq, .own 1, .own 2, .val (.named 3) x_.2.Client.Out, .val (.int .i64) x_.2.Client.Bad, .val (.int .i64) x_.2.Client.Hits, .val (.int .i64) x_.2.Client.Asks], .nils]), .arr .live (.named 1) x_.2.Client.Files, .arr .live .str x_.2.Client.Names])) name (N.Tclient_work.mk (N.TClient.mk w_Client_ID w_Client_Now w_Client_Epoch w_Client_Seq a1_ a2_ w_Client_Out w_Client_Bad w_Client_Hits w_Client_Asks) []) := by kernel_rfl
noncomputable def i107 : Ins E (Res E.T × St E.T) := ⟨[.ptr 0 [], .v .str], [.box false (.agg 8 [.agg 4 [.v (.int .i64), .v (.int .i64), .v (.int .i64), .v (.int .i64), .own 1, .own 2, .v (.named 3), .v (.int .i64), .v (.int .i64), .v (.int .i64)], .nils]), .arr .live (.named 1), .arr .live .str], fun name w_Client_ID w_Client_Now w_Client_Epoch w_Client_Seq w_Client_Out w_Client_Bad w_Client_Hits w_Client_Asks a1_ a2_ => .opt (N.client_work_opens N.fuel name (N.Tclient_work.mk (N.TClient.mk w_Client_ID w_Client_Now w_Client_Epoch w_Client_Seq a1_ a2_ w_Client_Out w_Client_Bad w_Client_Hits w_Client_Asks) [])) fun x_ => altT x_ (fun u0_ => .ret (.ret [], [.box false (.agg 8 [.agg 4 [.val (.int .i64) u0_.Client.ID, .val (.int .i64) u0_.Client.Now, .val (.int .i64) u0_.Client.Epoch, .val (.int .i64) u0_.Client.Seq, .own 1, .own 2, .val (.named 3) u0_.Client.Out, .val (.int .i64) u0_.Client.Bad, .val (.int .i64) u0_.Client.Hits, .val (.int .i64) u0_.Client.Asks], .own 4]), .arr .live (.named 1) u0_.Client.Files, .arr .live .str u0_.Client.Names, .dead, .arr .live (.named 2) u0_.asked])) (fun w0_ => .ret (.panic (.ifc 137 (.val (.named 12) w0_.1)), [.box false (.agg 8 [.agg 4 [.val (.int .i64) w0_.2.Client.ID, .val (.int .i64) w0_.2.Client.Now, .val (.int .i64) w0_.2.Client.Epoch, .val (.int .i64) w0_.2.Client.Seq, .own 1, .own 2, .val (.named 3) w0_.2.Client.Out, .val (.int .i64) w0_.2.Client.Bad, .val (.int .i64) w0_.2.Client.Hits, .val (.int .i64) w0_.2.Client.Asks], .nils]), .arr .live (.named 1) w0_.2.Client.Files, .arr .live .str w0_.2.Client.Names]))⟩
theorem i107_ok : InsOk Tryz.prog 107 i107 := ⟨B107, B107_ok, by intro name w_Client_ID w_Client_Now w_Client_Epoch w_Client_Seq w_Client_Out w_Client_Bad w_Client_Hits w_Client_Asks a1_ a2_ out_ h_; exact ((F107 name w_Client_ID w_Client_Now w_Client_Epoch w_Client_Seq w_Client_Out w_Client_Bad w_Client_Hits w_Client_Asks a1_ a2_).trans (N.client_work_opens_bind N.fuel _ _ name (N.Tclient_work.mk (N.TClient.mk w_Client_ID w_Client_Now w_Client_Epoch w_Client_Seq a1_ a2_ w_Client_Out w_Client_Bad w_Client_Hits w_Client_Asks) []))).trans h_⟩
noncomputable def P107 : Nat × D.Spec E := (107, .full [.ptr, .data .str] false (fullF [i107]))
theorem p107 : SpecOk Tryz.prog E P107.1 P107.2 := fullI_ok ok Tryz.call107 ⟨i107_ok, trivial⟩

/-! tenancy/file.May -/
noncomputable def S108 : List (Nat × D.Spec E) := []
theorem S108_ok : AllS Tryz.prog E S108 := trivial
noncomputable def L108 : Nat → LoopInfo E := clL E 27 [] []
noncomputable def B108 : List (DVal E.T) → St E.T → Tree (Res E.T × St E.T) := dbody E (lookS S108) (lookD []) L108 0 false Tryz.f108
theorem B108_ok : FnOk Tryz.prog E 108 B108 := bodyC_ok sound mix S108_ok (SD := []) trivial (L := L108) (N := 0) (keep := false) Tryz.func108 rfl (by
  intro k g hg fr st out ho
  match k, hg with
  | _, hg => cases hg)
theorem F108 (w : N.TWrite) : (B108 [.val (.named 0) w] []).get = N.file_May_k (fun x_ => some (.ret [.val .bool x_], [])) w := by kernel_rfl
noncomputable def i108 : Ins E (Res E.T × St E.T) := ⟨[.v (.named 0)], [], fun w => .ret (.ret [.val .bool (N.file_May w)], [])⟩
theorem i108_ok : InsOk Tryz.prog 108 i108 := ⟨B108, B108_ok, by intro w out_ h_; exact ((F108 w).trans (N.file_May_bind _ w)).trans h_⟩
noncomputable def P108 : Nat × D.Spec E := (108, .pure [(.named 0)] (pureF [i108]))
theorem p108 : SpecOk Tryz.prog E P108.1 P108.2 := pureI_ok Tryz.call108 ⟨i108_ok, trivial⟩

/-! (*tenancy/client.work).file -/
noncomputable def S72 : List (Nat × D.Spec E) := []
theorem S72_ok : AllS Tryz.prog E S72 := trivial
noncomputable def L72 : Nat → LoopInfo E := clL E 27 [] []
noncomputable def B72 : List (DVal E.T) → St E.T → Tree (Res E.T × St E.T) := tidyF (dbody E (lookS S72) (lookD []) L72 0 true Tryz.f72)
theorem B72_ok : FnOk Tryz.prog E 72 B72 := tidy_fn ok (bodyC_ok sound mix S72_ok (SD := []) trivial (L := L72) (N := 0) (keep := true) Tryz.func72 rfl (by
  intro k g hg fr st out ho
  match k, hg with
  | _, hg => cases hg))
theorem F72 (n : Int) (w_Client_ID : Int) (w_Client_Now : Int) (w_Client_Epoch : Int) (w_Client_Seq : Int) (w_Client_Out : N.TOut) (w_Client_Bad : Int) (w_Client_Hits : Int) (w_Client_Asks : Int) (a1_ : List N.TCache) (a2_ : List (List UInt8)) : (B72 [.ptr 0 [], .val (.int .i64) n] [.box false (.agg 8 [.agg 4 [.val (.int .i64) w_Client_ID, .val (.int .i64) w_Client_Now, .val (.int .i64) w_Client_Epoch, .val (.int .i64) w_Client_Seq, .own 1, .own 2, .val (.named 3) w_Client_Out, .val (.int .i64) w_Client_Bad, .val (.int .i64) w_Client_Hits, .val (.int .i64) w_Client_Asks], .nils]), .arr .live (.named 1) a1_, .arr .live .str a2_]).get = N.client_work_file_k (fun x_ => some (.ret [.ptr 1 [.idx (.named 1) x_]], [.box false (.agg 8 [.agg 4 [.val (.int .i64) w_Client_ID, .val (.int .i64) w_Client_Now, .val (.int .i64) w_Client_Epoch, .val (.int .i64) w_Client_Seq, .own 1, .own 2, .val (.named 3) w_Client_Out, .val (.int .i64) w_Client_Bad, .val (.int .i64) w_Client_Hits, .val (.int .i64) w_Client_Asks], .nils]), .arr .live (.named 1) a1_, .arr .live .str a2_])) (fun x_ => some (.ret [.ptr 3 []], [.box false (.agg 8 [.agg 4 [.val (.int .i64) w_Client_ID, .val (.int .i64) w_Client_Now, .val (.int .i64) w_Client_Epoch, .val (.int .i64) w_Client_Seq, .own 1, .own 2, .val (.named 3) w_Client_Out, .val (.int .i64) w_Client_Bad, .val (.int .i64) w_Client_Hits, .val (.int .i64) w_Client_Asks], .nils]), .arr .live (.named 1) a1_, .arr .live .str a2_, .box false (.agg 1 [.val (.int .i64) 0, .val (.int .i64) 0, .val (.int .i64) 0, .val .str ([]), .nils, .val (.int .i64) 0, .val .bool false, .val .bool false])])) n (N.Tclient_work.mk (N.TClient.mk w_Client_ID w_Client_Now w_Client_Epoch w_Client_Seq a1_ a2_ w_Client_Out w_Client_Bad w_Client_Hits w_Client_Asks) []) := by kernel_rfl
noncomputable def i72 : Ins E (Res E.T × St E.T) := ⟨[.ptr 0 [], .v (.int .i64)], [.box false (.agg 8 [.agg 4 [.v (.int .i64), .v (.int .i64), .v (.int .i64), .v (.int .i64), .own 1, .own 2, .v (.named 3), .v (.int .i64), .v (.int .i64), .v (.int .i64)], .nils]), .arr .live (.named 1), .arr .live .str], fun n w_Client_ID w_Client_Now w_Client_Epoch w_Client_Seq w_Client_Out w_Client_Bad w_Client_Hits w_Client_Asks a1_ a2_ => .opt (N.client_work_file n (N.Tclient_work.mk (N.TClient.mk w_Client_ID w_Client_Now w_Client_Epoch w_Client_Seq a1_ a2_ w_Client_Out w_Client_Bad w_Client_Hits w_Client_Asks) [])) fun x_ => altT x_ (fun u0_ => .ret (.ret [.ptr 1 [.idx (.named 1) u0_]], [.box false (.agg 8 [.agg 4 [.val (.int .i64) w_Client_ID, .val (.int .i64) w_Client_Now, .val (.int .i64) w_Client_Epoch, .val (.int .i64) w_Client_Seq, .own 1, .own 2, .val (.named 3) w_Client_Out, .val (.int .i64) w_Client_Bad, .val (.int .i64) w_Client_Hits, .val (.int .i64) w_Client_Asks], .nils]), .arr .live (.named 1) a1_, .arr .live .str a2_])) (fun w0_ => .ret (.ret [.ptr 3 []], [.box false (.agg 8 [.agg 4 [.val (.int .i64) w_Client_ID, .val (.int .i64) w_Client_Now, .val (.int .i64) w_Client_Epoch, .val (.int .i64) w_Client_Seq, .own 1, .own 2, .val (.named 3) w_Client_Out, .val (.int .i64) w_Client_Bad, .val (.int .i64) w_Client_Hits, .val (.int .i64) w_Client_Asks], .nils]), .arr .live (.named 1) a1_, .arr .live .str a2_, .box false (.agg 1 [.val (.int .i64) 0, .val (.int .i64) 0, .val (.int .i64) 0, .val .str ([]), .nils, .val (.int .i64) 0, .val .bool false, .val .bool false])]))⟩
theorem i72_ok : InsOk Tryz.prog 72 i72 := ⟨B72, B72_ok, by intro n w_Client_ID w_Client_Now w_Client_Epoch w_Client_Seq w_Client_Out w_Client_Bad w_Client_Hits w_Client_Asks a1_ a2_ out_ h_; exact ((F72 n w_Client_ID w_Client_Now w_Client_Epoch w_Client_Seq w_Client_Out w_Client_Bad w_Client_Hits w_Client_Asks a1_ a2_).trans (N.client_work_file_bind _ _ n (N.Tclient_work.mk (N.TClient.mk w_Client_ID w_Client_Now w_Client_Epoch w_Client_Seq a1_ a2_ w_Client_Out w_Client_Bad w_Client_Hits w_Client_Asks) []))).trans h_⟩
noncomputable def S72a : List (Nat × D.Spec E) := []
theorem S72a_ok : AllS Tryz.prog E S72a := trivial
noncomputable def L72a : Nat → LoopInfo E := clL E 27 [] []
noncomputable def B72a : List (DVal E.T) → St E.T → Tree (Res E.T × St E.T) := tidyF (dbody E (lookS S72a) (lookD []) L72a 0 true Tryz.f72)
theorem B72a_ok : FnOk Tryz.prog E 72 B72a := tidy_fn ok (bodyC_ok sound mix S72a_ok (SD := []) trivial (L := L72a) (N := 0) (keep := true) Tryz.func72 rfl (by
  intro k g hg fr st out ho
  match k, hg with
  | _, hg => cases hg))
theorem F72a (n : Int) (w_Client_ID : Int) (w_Client_Now : Int) (w_Client_Epoch : Int) (w_Client_Seq : Int) (w_Client_Out : N.TOut) (w_Client_Bad : Int) (w_Client_Hits : Int) (w_Client_Asks : Int) (a1_ : List N.TCache) (a2_ : List (List UInt8)) : (B72a [.ptr 0 [], .val (.int .i64) n] [.box false (.agg 8 [.agg 4 [.val (.int .i64) w_Client_ID, .val (.int .i64) w_Client_Now, .val (.int .i64) w_Client_Epoch, .val (.int .i64) w_Client_Seq, .own 1, .own 2, .val (.named 3) w_Client_Out, .val (.int .i64) w_Client_Bad, .val (.int .i64) w_Client_Hits, .val (.int .i64) w_Client_Asks], .nils]), .arr .fix (.named 1) a1_, .arr .live .str a2_]).get = N.client_work_file_2_k (fun x_ => some (.ret [.ptr 1 [.idx (.named 1) x_]], [.box false (.agg 8 [.agg 4 [.val (.int .i64) w_Client_ID, .val (.int .i64) w_Client_Now, .val (.int .i64) w_Client_Epoch, .val (.int .i64) w_Client_Seq, .own 1, .own 2, .val (.named 3) w_Client_Out, .val (.int .i64) w_Client_Bad, .val (.int .i64) w_Client_Hits, .val (.int .i64) w_Client_Asks], .nils]), .arr .fix (.named 1) a1_, .arr .live .str a2_])) (fun x_ => some (.ret [.ptr 3 []], [.box false (.agg 8 [.agg 4 [.val (.int .i64) w_Client_ID, .val (.int .i64) w_Client_Now, .val (.int .i64) w_Client_Epoch, .val (.int .i64) w_Client_Seq, .own 1, .own 2, .val (.named 3) w_Client_Out, .val (.int .i64) w_Client_Bad, .val (.int .i64) w_Client_Hits, .val (.int .i64) w_Client_Asks], .nils]), .arr .fix (.named 1) a1_, .arr .live .str a2_, .box false (.agg 1 [.val (.int .i64) 0, .val (.int .i64) 0, .val (.int .i64) 0, .val .str ([]), .nils, .val (.int .i64) 0, .val .bool false, .val .bool false])])) n (N.Tclient_work.mk (N.TClient.mk w_Client_ID w_Client_Now w_Client_Epoch w_Client_Seq a1_ a2_ w_Client_Out w_Client_Bad w_Client_Hits w_Client_Asks) []) := by kernel_rfl
noncomputable def i72a : Ins E (Res E.T × St E.T) := ⟨[.ptr 0 [], .v (.int .i64)], [.box false (.agg 8 [.agg 4 [.v (.int .i64), .v (.int .i64), .v (.int .i64), .v (.int .i64), .own 1, .own 2, .v (.named 3), .v (.int .i64), .v (.int .i64), .v (.int .i64)], .nils]), .arr .fix (.named 1), .arr .live .str], fun n w_Client_ID w_Client_Now w_Client_Epoch w_Client_Seq w_Client_Out w_Client_Bad w_Client_Hits w_Client_Asks a1_ a2_ => .opt (N.client_work_file_2 n (N.Tclient_work.mk (N.TClient.mk w_Client_ID w_Client_Now w_Client_Epoch w_Client_Seq a1_ a2_ w_Client_Out w_Client_Bad w_Client_Hits w_Client_Asks) [])) fun x_ => altT x_ (fun u0_ => .ret (.ret [.ptr 1 [.idx (.named 1) u0_]], [.box false (.agg 8 [.agg 4 [.val (.int .i64) w_Client_ID, .val (.int .i64) w_Client_Now, .val (.int .i64) w_Client_Epoch, .val (.int .i64) w_Client_Seq, .own 1, .own 2, .val (.named 3) w_Client_Out, .val (.int .i64) w_Client_Bad, .val (.int .i64) w_Client_Hits, .val (.int .i64) w_Client_Asks], .nils]), .arr .fix (.named 1) a1_, .arr .live .str a2_])) (fun w0_ => .ret (.ret [.ptr 3 []], [.box false (.agg 8 [.agg 4 [.val (.int .i64) w_Client_ID, .val (.int .i64) w_Client_Now, .val (.int .i64) w_Client_Epoch, .val (.int .i64) w_Client_Seq, .own 1, .own 2, .val (.named 3) w_Client_Out, .val (.int .i64) w_Client_Bad, .val (.int .i64) w_Client_Hits, .val (.int .i64) w_Client_Asks], .nils]), .arr .fix (.named 1) a1_, .arr .live .str a2_, .box false (.agg 1 [.val (.int .i64) 0, .val (.int .i64) 0, .val (.int .i64) 0, .val .str ([]), .nils, .val (.int .i64) 0, .val .bool false, .val .bool false])]))⟩
theorem i72a_ok : InsOk Tryz.prog 72 i72a := ⟨B72a, B72a_ok, by intro n w_Client_ID w_Client_Now w_Client_Epoch w_Client_Seq w_Client_Out w_Client_Bad w_Client_Hits w_Client_Asks a1_ a2_ out_ h_; exact ((F72a n w_Client_ID w_Client_Now w_Client_Epoch w_Client_Seq w_Client_Out w_Client_Bad w_Client_Hits w_Client_Asks a1_ a2_).trans (N.client_work_file_2_bind _ _ n (N.Tclient_work.mk (N.TClient.mk w_Client_ID w_Client_Now w_Client_Epoch w_Client_Seq a1_ a2_ w_Client_Out w_Client_Bad w_Client_Hits w_Client_Asks) []))).trans h_⟩
noncomputable def S72b : List (Nat × D.Spec E) := []
theorem S72b_ok : AllS Tryz.prog E S72b := trivial
noncomputable def L72b : Nat → LoopInfo E := clL E 27 [] []
noncomputable def B72b : List (DVal E.T) → St E.T → Tree (Res E.T × St E.T) := tidyF (dbody E (lookS S72b) (lookD []) L72b 0 true Tryz.f72)
theorem B72b_ok : FnOk Tryz.prog E 72 B72b := tidy_fn ok (bodyC_ok sound mix S72b_ok (SD := []) trivial (L := L72b) (N := 0) (keep := true) Tryz.func72 rfl (by
  intro k g hg fr st out ho
  match k, hg with
  | _, hg => cases hg))
theorem F72b (n : Int) (w_Client_ID : Int) (w_Client_Now : Int) (w_Client_Epoch : Int) (w_Client_Seq : Int) (w_Client_Out_Is : Bool) (w_Client_Out_Ask_Kind : Int) (w_Client_Out_Ask_From : Int) (w_Client_Out_Ask_Epoch : Int) (w_Client_Out_Ask_Seq : Int) (w_Client_Out_Ask_Name : List UInt8) (w_Client_Out_Ask_File : Int) (w_Client_Out_Ask_Mode : Int) (w_Client_Out_First : Int) (w_Client_Out_Last : Int) (w_Client_Bad : Int) (w_Client_Hits : Int) (w_Client_Asks : Int) (a1_ : List N.TCache) (a2_ : List (List UInt8)) : (B72b [.ptr 0 [], .val (.int .i64) n] [.box false (.agg 8 [.agg 4 [.val (.int .i64) w_Client_ID, .val (.int .i64) w_Client_Now, .val (.int .i64) w_Client_Epoch, .val (.int .i64) w_Client_Seq, .own 1, .own 2, .agg 3 [.val .bool w_Client_Out_Is, .agg 2 [.val (.int .i64) w_Client_Out_Ask_Kind, .val (.int .i64) w_Client_Out_Ask_From, .val (.int .i64) w_Client_Out_Ask_Epoch, .val (.int .i64) w_Client_Out_Ask_Seq, .val .str w_Client_Out_Ask_Name, .val (.int .i64) w_Client_Out_Ask_File, .val (.int .i64) w_Client_Out_Ask_Mode, .nils], .val (.int .i64) w_Client_Out_First, .val (.int .i64) w_Client_Out_Last], .val (.int .i64) w_Client_Bad, .val (.int .i64) w_Client_Hits, .val (.int .i64) w_Client_Asks], .nils]), .arr .live (.named 1) a1_, .arr .live .str a2_]).get = N.client_work_file_3_k (fun x_ => some (.ret [.ptr 1 [.idx (.named 1) x_]], [.box false (.agg 8 [.agg 4 [.val (.int .i64) w_Client_ID, .val (.int .i64) w_Client_Now, .val (.int .i64) w_Client_Epoch, .val (.int .i64) w_Client_Seq, .own 1, .own 2, .agg 3 [.val .bool w_Client_Out_Is, .agg 2 [.val (.int .i64) w_Client_Out_Ask_Kind, .val (.int .i64) w_Client_Out_Ask_From, .val (.int .i64) w_Client_Out_Ask_Epoch, .val (.int .i64) w_Client_Out_Ask_Seq, .val .str w_Client_Out_Ask_Name, .val (.int .i64) w_Client_Out_Ask_File, .val (.int .i64) w_Client_Out_Ask_Mode, .nils], .val (.int .i64) w_Client_Out_First, .val (.int .i64) w_Client_Out_Last], .val (.int .i64) w_Client_Bad, .val (.int .i64) w_Client_Hits, .val (.int .i64) w_Client_Asks], .nils]), .arr .live (.named 1) a1_, .arr .live .str a2_])) (fun x_ => some (.ret [.ptr 3 []], [.box false (.agg 8 [.agg 4 [.val (.int .i64) w_Client_ID, .val (.int .i64) w_Client_Now, .val (.int .i64) w_Client_Epoch, .val (.int .i64) w_Client_Seq, .own 1, .own 2, .agg 3 [.val .bool w_Client_Out_Is, .agg 2 [.val (.int .i64) w_Client_Out_Ask_Kind, .val (.int .i64) w_Client_Out_Ask_From, .val (.int .i64) w_Client_Out_Ask_Epoch, .val (.int .i64) w_Client_Out_Ask_Seq, .val .str w_Client_Out_Ask_Name, .val (.int .i64) w_Client_Out_Ask_File, .val (.int .i64) w_Client_Out_Ask_Mode, .nils], .val (.int .i64) w_Client_Out_First, .val (.int .i64) w_Client_Out_Last], .val (.int .i64) w_Client_Bad, .val (.int .i64) w_Client_Hits, .val (.int .i64) w_Client_Asks], .nils]), .arr .live (.named 1) a1_, .arr .live .str a2_, .box false (.agg 1 [.val (.int .i64) 0, .val (.int .i64) 0, .val (.int .i64) 0, .val .str ([]), .nils, .val (.int .i64) 0, .val .bool false, .val .bool false])])) n (N.Tclient_work.mk (N.TClient.mk w_Client_ID w_Client_Now w_Client_Epoch w_Client_Seq a1_ a2_ (N.TOut.mk w_Client_Out_Is (N.TAsk.mk w_Client_Out_Ask_Kind w_Client_Out_Ask_From w_Client_Out_Ask_Epoch w_Client_Out_Ask_Seq w_Client_Out_Ask_Name w_Client_Out_Ask_File w_Client_Out_Ask_Mode []) w_Client_Out_First w_Client_Out_Last) w_Client_Bad w_Client_Hits w_Client_Asks) []) := by kernel_rfl
noncomputable def i72b : Ins E (Res E.T × St E.T) := ⟨[.ptr 0 [], .v (.int .i64)], [.box false (.agg 8 [.agg 4 [.v (.int .i64), .v (.int .i64), .v (.int .i64), .v (.int .i64), .own 1, .own 2, .agg 3 [.v .bool, .agg 2 [.v (.int .i64), .v (.int .i64), .v (.int .i64), .v (.int .i64), .v .str, .v (.int .i64), .v (.int .i64), .nils], .v (.int .i64), .v (.int .i64)], .v (.int .i64), .v (.int .i64), .v (.int .i64)], .nils]), .arr .live (.named 1), .arr .live .str], fun n w_Client_ID w_Client_Now w_Client_Epoch w_Client_Seq w_Client_Out_Is w_Client_Out_Ask_Kind w_Client_Out_Ask_From w_Client_Out_Ask_Epoch w_Client_Out_Ask_Seq w_Client_Out_Ask_Name w_Client_Out_Ask_File w_Client_Out_Ask_Mode w_Client_Out_First w_Client_Out_Last w_Client_Bad w_Client_Hits w_Client_Asks a1_ a2_ => .opt (N.client_work_file_3 n (N.Tclient_work.mk (N.TClient.mk w_Client_ID w_Client_Now w_Client_Epoch w_Client_Seq a1_ a2_ (N.TOut.mk w_Client_Out_Is (N.TAsk.mk w_Client_Out_Ask_Kind w_Client_Out_Ask_From w_Client_Out_Ask_Epoch w_Client_Out_Ask_Seq w_Client_Out_Ask_Name w_Client_Out_Ask_File w_Client_Out_Ask_Mode []) w_Client_Out_First w_Client_Out_Last) w_Client_Bad w_Client_Hits w_Client_Asks) [])) fun x_ => altT x_ (fun u0_ => .ret (.ret [.ptr 1 [.idx (.named 1) u0_]], [.box false (.agg 8 [.agg 4 [.val (.int .i64) w_Client_ID, .val (.int .i64) w_Client_Now, .val (.int .i64) w_Client_Epoch, .val (.int .i64) w_Client_Seq, .own 1, .own 2, .agg 3 [.val .bool w_Client_Out_Is, .agg 2 [.val (.int .i64) w_Client_Out_Ask_Kind, .val (.int .i64) w_Client_Out_Ask_From, .val (.int .i64) w_Client_Out_Ask_Epoch, .val (.int .i64) w_Client_Out_Ask_Seq, .val .str w_Client_Out_Ask_Name, .val (.int .i64) w_Client_Out_Ask_File, .val (.int .i64) w_Client_Out_Ask_Mode, .nils], .val (.int .i64) w_Client_Out_First, .val (.int .i64) w_Client_Out_Last], .val (.int .i64) w_Client_Bad, .val (.int .i64) w_Client_Hits, .val (.int .i64) w_Client_Asks], .nils]), .arr .live (.named 1) a1_, .arr .live .str a2_])) (fun w0_ => .ret (.ret [.ptr 3 []], [.box false (.agg 8 [.agg 4 [.val (.int .i64) w_Client_ID, .val (.int .i64) w_Client_Now, .val (.int .i64) w_Client_Epoch, .val (.int .i64) w_Client_Seq, .own 1, .own 2, .agg 3 [.val .bool w_Client_Out_Is, .agg 2 [.val (.int .i64) w_Client_Out_Ask_Kind, .val (.int .i64) w_Client_Out_Ask_From, .val (.int .i64) w_Client_Out_Ask_Epoch, .val (.int .i64) w_Client_Out_Ask_Seq, .val .str w_Client_Out_Ask_Name, .val (.int .i64) w_Client_Out_Ask_File, .val (.int .i64) w_Client_Out_Ask_Mode, .nils], .val (.int .i64) w_Client_Out_First, .val (.int .i64) w_Client_Out_Last], .val (.int .i64) w_Client_Bad, .val (.int .i64) w_Client_Hits, .val (.int .i64) w_Client_Asks], .nils]), .arr .live (.named 1) a1_, .arr .live .str a2_, .box false (.agg 1 [.val (.int .i64) 0, .val (.int .i64) 0, .val (.int .i64) 0, .val .str ([]), .nils, .val (.int .i64) 0, .val .bool false, .val .bool false])]))⟩
theorem i72b_ok : InsOk Tryz.prog 72 i72b := ⟨B72b, B72b_ok, by intro n w_Client_ID w_Client_Now w_Client_Epoch w_Client_Seq w_Client_Out_Is w_Client_Out_Ask_Kind w_Client_Out_Ask_From w_Client_Out_Ask_Epoch w_Client_Out_Ask_Seq w_Client_Out_Ask_Name w_Client_Out_Ask_File w_Client_Out_Ask_Mode w_Client_Out_First w_Client_Out_Last w_Client_Bad w_Client_Hits w_Client_Asks a1_ a2_ out_ h_; exact ((F72b n w_Client_ID w_Client_Now w_Client_Epoch w_Client_Seq w_Client_Out_Is w_Client_Out_Ask_Kind w_Client_Out_Ask_From w_Client_Out_Ask_Epoch w_Client_Out_Ask_Seq w_Client_Out_Ask_Name w_Client_Out_Ask_File w_Client_Out_Ask_Mode w_Client_Out_First w_Client_Out_Last w_Client_Bad w_Client_Hits w_Client_Asks a1_ a2_).trans (N.client_work_file_3_bind _ _ n (N.Tclient_work.mk (N.TClient.mk w_Client_ID w_Client_Now w_Client_Epoch w_Client_Seq a1_ a2_ (N.TOut.mk w_Client_Out_Is (N.TAsk.mk w_Client_Out_Ask_Kind w_Client_Out_Ask_From w_Client_Out_Ask_Epoch w_Client_Out_Ask_Seq w_Client_Out_Ask_Name w_Client_Out_Ask_File w_Client_Out_Ask_Mode []) w_Client_Out_First w_Client_Out_Last) w_Client_Bad w_Client_Hits w_Client_Asks) []))).trans h_⟩
noncomputable def P72 : Nat × D.Spec E := (72, .full [.ptr, .data (.int .i64)] false (fullF [i72, i72a, i72b]))
theorem p72 : SpecOk Tryz.prog E P72.1 P72.2 := fullI_ok ok Tryz.call72 ⟨i72_ok, i72a_ok, i72b_ok, trivial⟩

-- LIB 133 strings.Repeat

/-! tenancy/file.kept -/
noncomputable def S132 : List (Nat × D.Spec E) := []
theorem S132_ok : AllS Tryz.prog E S132 := trivial
noncomputable def L132 : Nat → LoopInfo E := clL E 21 [] []
noncomputable def B132 : DSpec E := dbodyD E (lookS S132) L132 0 Tryz.f132
theorem p132 : DSpecOk Tryz.prog E 132 B132 := dfullD_ok sound mix S132_ok (L := L132) (fun _ => rfl) Tryz.call132 Tryz.func132 rfl

/-! tenancy/file.Put -/
noncomputable def S123 : List (Nat × D.Spec E) := [P108, P133]
theorem S123_ok : AllS Tryz.prog E S123 := ⟨p108, p133, trivial⟩
noncomputable def D123 : List (Nat × DSpec E) := [(132, B132)]
theorem D123_ok : AllD Tryz.prog E D123 := ⟨p132, trivial⟩
noncomputable def L123 : Nat → LoopInfo E := clL E 44 [] []
noncomputable def B123 : List (DVal E.T) → St E.T → Tree (Res E.T × St E.T) := dbody E (lookS S123) (lookD D123) L123 0 false Tryz.f123
theorem B123_ok : FnOk Tryz.prog E 123 B123 := bodyC_ok sound mix S123_ok (SD := D123) D123_ok (L := L123) (N := 0) (keep := false) Tryz.func123 rfl (by
  intro k g hg fr st out ho
  match k, hg with
  | _, hg => cases hg)
theorem F123 (body : List UInt8) (w : N.TWrite) : (B123 [.val .str body, .val (.named 0) w] []).get = N.file_Put_k (fun x_ => some (.ret [.val .str x_], [])) body w := by kernel_rfl
noncomputable def i123 : Ins E (Res E.T × St E.T) := ⟨[.v .str, .v (.named 0)], [], fun body w => .opt (N.file_Put body w) fun x_ => .ret (.ret [.val .str x_], [])⟩
theorem i123_ok : InsOk Tryz.prog 123 i123 := ⟨B123, B123_ok, by intro body w out_ h_; exact ((F123 body w).trans (N.file_Put_bind _ body w)).trans h_⟩
noncomputable def P123 : Nat × D.Spec E := (123, .pure [.str, (.named 0)] (pureF [i123]))
theorem p123 : SpecOk Tryz.prog E P123.1 P123.2 := pureI_ok Tryz.call123 ⟨i123_ok, trivial⟩

/-! tenancy/file.All -/
noncomputable def S105 : List (Nat × D.Spec E) := [P123]
theorem S105_ok : AllS Tryz.prog E S105 := ⟨p123, trivial⟩
abbrev h105_s0 (t7 : List N.TWrite) (t8 : Int) (body : List UInt8) (t9 : Int) : Fr E.T := ofSlots E 18 [] [0, 7, 8, 9] [.val .str body, .val (.slice (.named 0)) t7, .val (.int .i64) t8, .val (.int .i64) t9]
abbrev t105_s0 (t7 : List N.TWrite) (t8 : Int) (body : List UInt8) (t9 : Int) : St E.T := []
def x105_s0 (t7 : List N.TWrite) (t8 : Int) (x_ : List UInt8) : Tree (CodeOut E) := .ret (.exit 0, ofSlots E 18 [] [0, 4] [.val .str x_, .undef], [])
noncomputable def g105_s0 : Ins E (CodeOut E) := ⟨[.v .str, .v (.slice (.named 0)), .v (.int .i64), .v (.int .i64)], [], fun body t7 t8 t9 => .opt (N.file_All_l0 N.fuel t7 t8 body t9) (x105_s0 t7 t8)⟩
noncomputable def L105 : Nat → LoopInfo E := clL E 18 [{ ks := [0, 7, 8, 9], mvs := [], pro := [], d := [], g := some (insF [g105_s0]) }] []
theorem f105_s0 (t7 : List N.TWrite) (t8 : Int) (body : List UInt8) (t9 : Int) : ((stepOf E S105 L105 0 0 Tryz.f105 (h105_s0 t7 t8 body t9) (t105_s0 t7 t8 body t9)).bind (nx E [0, 7, 8, 9] [] [0, 4] 0)).get = N.file_All_s0k t7 t8 (fun v_ => some (.inl (h105_s0 t7 t8 v_.1 v_.2, t105_s0 t7 t8 v_.1 v_.2))) (fun x_ => some (.inr (.exit 0, ofSlots E 18 [] [0, 4] [.val .str x_, .undef], []))) body t9 := by kernel_rfl
theorem q105_s0 : InsLp 18 [0, 7, 8, 9] [] [] (stepOf E S105 L105 0 0 Tryz.f105) g105_s0 := by
  intro body t7 t8 t9 out_ ho_
  obtain ⟨x_, h1_, h2_⟩ := Option.bind_eq_some_iff.1 ho_
  refine iter_loop (rs := [0, 4]) (step := N.file_All_s0 t7 t8) (hd := fun v_ => h105_s0 t7 t8 v_.1 v_.2) (sv := fun v_ => t105_s0 t7 t8 v_.1 v_.2) (ex := x105_s0 t7 t8) (fun v_ => ?_) N.fuel (body, t9) h1_ h2_
  refine (f105_s0 t7 t8 v_.1 v_.2).trans ((N.file_All_s0_bind t7 t8 _ _ v_.1 v_.2).trans ?_)
  refine congrArg _ (funext fun s_ => ?_)
  rcases s_ with v_ | a <;> rfl
noncomputable def B105 : List (DVal E.T) → St E.T → Tree (Res E.T × St E.T) := dbody E (lookS S105) (lookD []) L105 0 false Tryz.f105
theorem B105_ok : FnOk Tryz.prog E 105 B105 := bodyC_ok sound mix S105_ok (SD := []) trivial (L := L105) (N := 0) (keep := false) Tryz.func105 rfl (by
  intro k g hg fr st out ho
  match k, hg with
  | 0, hg => cases hg; exact lp_ok (allLp_cons q105_s0 (allLp_nil)) fr st out ho
  | _ + 1, hg => cases hg)
theorem F105 (body : List UInt8) (l : List N.TWrite) : (B105 [.val .str body, .val (.slice (.named 0)) l] []).get = N.file_All_k N.fuel (fun x_ => some (.ret [.val .str x_], [])) body l := by kernel_rfl
noncomputable def i105 : Ins E (Res E.T × St E.T) := ⟨[.v .str, .v (.slice (.named 0))], [], fun body l => .opt (N.file_All N.fuel body l) fun x_ => .ret (.ret [.val .str x_], [])⟩
theorem i105_ok : InsOk Tryz.prog 105 i105 := ⟨B105, B105_ok, by intro body l out_ h_; exact ((F105 body l).trans (N.file_All_bind N.fuel _ body l)).trans h_⟩
noncomputable def P105 : Nat × D.Spec E := (105, .pure [.str, (.slice (.named 0))] (pureF [i105]))
theorem p105 : SpecOk Tryz.prog E P105.1 P105.2 := pureI_ok Tryz.call105 ⟨i105_ok, trivial⟩

/-! tenancy/cache.View -/
noncomputable def S127 : List (Nat × D.Spec E) := [P105]
theorem S127_ok : AllS Tryz.prog E S127 := ⟨p105, trivial⟩
noncomputable def L127 : Nat → LoopInfo E := clL E 8 [] []
noncomputable def B127 : List (DVal E.T) → St E.T → Tree (Res E.T × St E.T) := dbody E (lookS S127) (lookD []) L127 0 false Tryz.f127
theorem B127_ok : FnOk Tryz.prog E 127 B127 := bodyC_ok sound mix S127_ok (SD := []) trivial (L := L127) (N := 0) (keep := false) Tryz.func127 rfl (by
  intro k g hg fr st out ho
  match k, hg with
  | _, hg => cases hg)
theorem F127 (c : N.TCache) : (B127 [.val (.named 1) c] []).get = N.cache_View_k N.fuel (fun x_ => some (.ret [.val .str x_], [])) c := by kernel_rfl
noncomputable def i127 : Ins E (Res E.T × St E.T) := ⟨[.v (.named 1)], [], fun c => .opt (N.cache_View N.fuel c) fun x_ => .ret (.ret [.val .str x_], [])⟩
theorem i127_ok : InsOk Tryz.prog 127 i127 := ⟨B127, B127_ok, by intro c out_ h_; exact ((F127 c).trans (N.cache_View_bind N.fuel _ c)).trans h_⟩
noncomputable def P127 : Nat × D.Spec E := (127, .pure [(.named 1)] (pureF [i127]))
theorem p127 : SpecOk Tryz.prog E P127.1 P127.2 := pureI_ok Tryz.call127 ⟨i127_ok, trivial⟩

end Go.Proofs.YthabbcjjecpbmaaGreat.Z
