/- The seat's functions, and the nice ones (4). -/
import Derived.Test.YthabbcjjecpbmaaGreatSeat5
set_option linter.unusedVariables false
set_option maxRecDepth 100000
namespace Go.Proofs.YthabbcjjecpbmaaGreat.Z
open Go Go.Proofs.YthabbcjjecpbmaaGreat.D

/-! (*tenancy/client.work).called -/
noncomputable def S28 : List (Nat × D.Spec E) := [P34, P72]
theorem S28_ok : AllS Tryz.prog E S28 := ⟨p34, p72, trivial⟩
noncomputable def L28 : Nat → LoopInfo E := clL E 38 [] []
noncomputable def B28 : List (DVal E.T) → St E.T → Tree (Res E.T × St E.T) := tidyF (dbody E (lookS S28) (lookD []) L28 0 true Tryz.f28)
theorem B28_ok : FnOk Tryz.prog E 28 B28 := tidy_fn ok (bodyC_ok sound mix S28_ok (SD := []) trivial (L := L28) (N := 0) (keep := true) Tryz.func28 rfl (by
  intro k g hg fr st out ho
  match k, hg with
  | _, hg => cases hg))
theorem F28 (t : N.TTell) (w_Client_ID : Int) (w_Client_Now : Int) (w_Client_Epoch : Int) (w_Client_Seq : Int) (w_Client_Out : N.TOut) (w_Client_Bad : Int) (w_Client_Hits : Int) (w_Client_Asks : Int) (a1_ : List N.TCache) (a2_ : List (List UInt8)) : (B28 [.ptr 0 [], .val (.named 7) t] [.box false (.agg 8 [.agg 4 [.val (.int .i64) w_Client_ID, .val (.int .i64) w_Client_Now, .val (.int .i64) w_Client_Epoch, .val (.int .i64) w_Client_Seq, .own 1, .own 2, .val (.named 3) w_Client_Out, .val (.int .i64) w_Client_Bad, .val (.int .i64) w_Client_Hits, .val (.int .i64) w_Client_Asks], .nils]), .arr .live (.named 1) a1_, .arr .live .str a2_]).get = N.client_work_called_k (fun x_ => some (.ret [], [.box false (.agg 8 [.agg 4 [.val (.int .i64) x_.Client.ID, .val (.int .i64) x_.Client.Now, .val (.int .i64) x_.Client.Epoch, .val (.int .i64) x_.Client.Seq, .own 1, .own 2, .val (.named 3) x_.Client.Out, .val (.int .i64) x_.Client.Bad, .val (.int .i64) x_.Client.Hits, .val (.int .i64) x_.Client.Asks], .nils]), .arr .live (.named 1) x_.Client.Files, .arr .live .str x_.Client.Names, .dead])) (fun x_ => some (.ret [], [.box false (.agg 8 [.agg 4 [.val (.int .i64) x_.Client.ID, .val (.int .i64) x_.Client.Now, .val (.int .i64) x_.Client.Epoch, .val (.int .i64) x_.Client.Seq, .own 1, .own 2, .val (.named 3) x_.Client.Out, .val (.int .i64) x_.Client.Bad, .val (.int .i64) x_.Client.Hits, .val (.int .i64) x_.Client.Asks], .nils]), .arr .live (.named 1) x_.Client.Files, .arr .live .str x_.Client.Names, .dead, .dead])) (fun x_ => some (.ret [], [.box false (.agg 8 [.agg 4 [.val (.int .i64) x_.Client.ID, .val (.int .i64) x_.Client.Now, .val (.int .i64) x_.Client.Epoch, .val (.int .i64) x_.Client.Seq, .own 1, .own 2, .val (.named 3) x_.Client.Out, .val (.int .i64) x_.Client.Bad, .val (.int .i64) x_.Client.Hits, .val (.int .i64) x_.Client.Asks], .own 5]), .arr .live (.named 1) x_.Client.Files, .arr .live .str x_.Client.Names, .dead, .dead, .arr .live (.named 2) x_.asked])) (fun x_ => some (.ret [], [.box false (.agg 8 [.agg 4 [.val (.int .i64) x_.Client.ID, .val (.int .i64) x_.Client.Now, .val (.int .i64) x_.Client.Epoch, .val (.int .i64) x_.Client.Seq, .own 1, .own 2, .val (.named 3) x_.Client.Out, .val (.int .i64) x_.Client.Bad, .val (.int .i64) x_.Client.Hits, .val (.int .i64) x_.Client.Asks], .own 6]), .arr .live (.named 1) x_.Client.Files, .arr .live .str x_.Client.Names, .dead, .dead, .dead, .arr .live (.named 2) x_.asked])) t (N.Tclient_work.mk (N.TClient.mk w_Client_ID w_Client_Now w_Client_Epoch w_Client_Seq a1_ a2_ w_Client_Out w_Client_Bad w_Client_Hits w_Client_Asks) []) := by kernel_rfl
noncomputable def i28 : Ins E (Res E.T × St E.T) := ⟨[.ptr 0 [], .v (.named 7)], [.box false (.agg 8 [.agg 4 [.v (.int .i64), .v (.int .i64), .v (.int .i64), .v (.int .i64), .own 1, .own 2, .v (.named 3), .v (.int .i64), .v (.int .i64), .v (.int .i64)], .nils]), .arr .live (.named 1), .arr .live .str], fun t w_Client_ID w_Client_Now w_Client_Epoch w_Client_Seq w_Client_Out w_Client_Bad w_Client_Hits w_Client_Asks a1_ a2_ => .opt (N.client_work_called t (N.Tclient_work.mk (N.TClient.mk w_Client_ID w_Client_Now w_Client_Epoch w_Client_Seq a1_ a2_ w_Client_Out w_Client_Bad w_Client_Hits w_Client_Asks) [])) fun x_ => altT x_ (fun u0_ => .ret (.ret [], [.box false (.agg 8 [.agg 4 [.val (.int .i64) u0_.Client.ID, .val (.int .i64) u0_.Client.Now, .val (.int .i64) u0_.Client.Epoch, .val (.int .i64) u0_.Client.Seq, .own 1, .own 2, .val (.named 3) u0_.Client.Out, .val (.int .i64) u0_.Client.Bad, .val (.int .i64) u0_.Client.Hits, .val (.int .i64) u0_.Client.Asks], .nils]), .arr .live (.named 1) u0_.Client.Files, .arr .live .str u0_.Client.Names, .dead])) (fun w0_ => altT w0_ (fun u1_ => .ret (.ret [], [.box false (.agg 8 [.agg 4 [.val (.int .i64) u1_.Client.ID, .val (.int .i64) u1_.Client.Now, .val (.int .i64) u1_.Client.Epoch, .val (.int .i64) u1_.Client.Seq, .own 1, .own 2, .val (.named 3) u1_.Client.Out, .val (.int .i64) u1_.Client.Bad, .val (.int .i64) u1_.Client.Hits, .val (.int .i64) u1_.Client.Asks], .nils]), .arr .live (.named 1) u1_.Client.Files, .arr .live .str u1_.Client.Names, .dead, .dead])) (fun w1_ => altT w1_ (fun u2_ => .ret (.ret [], [.box false (.agg 8 [.agg 4 [.val (.int .i64) u2_.Client.ID, .val (.int .i64) u2_.Client.Now, .val (.int .i64) u2_.Client.Epoch, .val (.int .i64) u2_.Client.Seq, .own 1, .own 2, .val (.named 3) u2_.Client.Out, .val (.int .i64) u2_.Client.Bad, .val (.int .i64) u2_.Client.Hits, .val (.int .i64) u2_.Client.Asks], .own 5]), .arr .live (.named 1) u2_.Client.Files, .arr .live .str u2_.Client.Names, .dead, .dead, .arr .live (.named 2) u2_.asked])) (fun w2_ => .ret (.ret [], [.box false (.agg 8 [.agg 4 [.val (.int .i64) w2_.Client.ID, .val (.int .i64) w2_.Client.Now, .val (.int .i64) w2_.Client.Epoch, .val (.int .i64) w2_.Client.Seq, .own 1, .own 2, .val (.named 3) w2_.Client.Out, .val (.int .i64) w2_.Client.Bad, .val (.int .i64) w2_.Client.Hits, .val (.int .i64) w2_.Client.Asks], .own 6]), .arr .live (.named 1) w2_.Client.Files, .arr .live .str w2_.Client.Names, .dead, .dead, .dead, .arr .live (.named 2) w2_.asked]))))⟩
theorem i28_ok : InsOk Tryz.prog 28 i28 := ⟨B28, B28_ok, by intro t w_Client_ID w_Client_Now w_Client_Epoch w_Client_Seq w_Client_Out w_Client_Bad w_Client_Hits w_Client_Asks a1_ a2_ out_ h_; exact ((F28 t w_Client_ID w_Client_Now w_Client_Epoch w_Client_Seq w_Client_Out w_Client_Bad w_Client_Hits w_Client_Asks a1_ a2_).trans (N.client_work_called_bind _ _ _ _ t (N.Tclient_work.mk (N.TClient.mk w_Client_ID w_Client_Now w_Client_Epoch w_Client_Seq a1_ a2_ w_Client_Out w_Client_Bad w_Client_Hits w_Client_Asks) []))).trans h_⟩
noncomputable def P28 : Nat × D.Spec E := (28, .full [.ptr, .data (.named 7)] false (fullF [i28]))
theorem p28 : SpecOk Tryz.prog E P28.1 P28.2 := fullI_ok ok Tryz.call28 ⟨i28_ok, trivial⟩

/-! (*tenancy/client.work).named -/
noncomputable def S73 : List (Nat × D.Spec E) := []
theorem S73_ok : AllS Tryz.prog E S73 := trivial
abbrev h73_s0 (name : List UInt8) (n : Int) (t25 : Int) (t26 : Int) (w : N.Tclient_work) : Fr E.T := ofSlots E 51 [] [0, 1, 2, 24, 25, 26] [.ptr 0 [], .val .str name, .val (.int .i64) n, .own 2, .val (.int .i64) t25, .val (.int .i64) t26]
abbrev t73_s0 (name : List UInt8) (n : Int) (t25 : Int) (t26 : Int) (w : N.Tclient_work) : St E.T := [.box false (.agg 8 [.agg 4 [.val (.int .i64) w.Client.ID, .val (.int .i64) w.Client.Now, .val (.int .i64) w.Client.Epoch, .val (.int .i64) w.Client.Seq, .own 1, .own 2, .agg 3 [.val .bool w.Client.Out.Is, .agg 2 [.val (.int .i64) w.Client.Out.Ask.Kind, .val (.int .i64) w.Client.Out.Ask.From, .val (.int .i64) w.Client.Out.Ask.Epoch, .val (.int .i64) w.Client.Out.Ask.Seq, .val .str w.Client.Out.Ask.Name, .val (.int .i64) w.Client.Out.Ask.File, .val (.int .i64) w.Client.Out.Ask.Mode, .nils], .val (.int .i64) w.Client.Out.First, .val (.int .i64) w.Client.Out.Last], .val (.int .i64) w.Client.Bad, .val (.int .i64) w.Client.Hits, .val (.int .i64) w.Client.Asks], .nils]), .arr .fix (.named 1) w.Client.Files, .arr .live .str w.Client.Names]
def x73_s0 (name : List UInt8) (n : Int) (t25 : Int) (x_ : N.Tclient_work) : Tree (CodeOut E) := .ret (.exit 0, ofSlots E 51 [] [0, 1, 2] [.ptr 0 [], .val .str name, .val (.int .i64) n], [.box false (.agg 8 [.agg 4 [.val (.int .i64) x_.Client.ID, .val (.int .i64) x_.Client.Now, .val (.int .i64) x_.Client.Epoch, .val (.int .i64) x_.Client.Seq, .own 1, .own 2, .agg 3 [.val .bool x_.Client.Out.Is, .agg 2 [.val (.int .i64) x_.Client.Out.Ask.Kind, .val (.int .i64) x_.Client.Out.Ask.From, .val (.int .i64) x_.Client.Out.Ask.Epoch, .val (.int .i64) x_.Client.Out.Ask.Seq, .val .str x_.Client.Out.Ask.Name, .val (.int .i64) x_.Client.Out.Ask.File, .val (.int .i64) x_.Client.Out.Ask.Mode, .nils], .val (.int .i64) x_.Client.Out.First, .val (.int .i64) x_.Client.Out.Last], .val (.int .i64) x_.Client.Bad, .val (.int .i64) x_.Client.Hits, .val (.int .i64) x_.Client.Asks], .nils]), .arr .fix (.named 1) x_.Client.Files, .arr .live .str x_.Client.Names])
noncomputable def g73_s0 : Ins E (CodeOut E) := ⟨[.ptr 0 [], .v .str, .v (.int .i64), .own 2, .v (.int .i64), .v (.int .i64)], [.box false (.agg 8 [.agg 4 [.v (.int .i64), .v (.int .i64), .v (.int .i64), .v (.int .i64), .own 1, .own 2, .agg 3 [.v .bool, .agg 2 [.v (.int .i64), .v (.int .i64), .v (.int .i64), .v (.int .i64), .v .str, .v (.int .i64), .v (.int .i64), .nils], .v (.int .i64), .v (.int .i64)], .v (.int .i64), .v (.int .i64), .v (.int .i64)], .nils]), .arr .fix (.named 1), .arr .live .str], fun name n t25 t26 w_Client_ID w_Client_Now w_Client_Epoch w_Client_Seq w_Client_Out_Is w_Client_Out_Ask_Kind w_Client_Out_Ask_From w_Client_Out_Ask_Epoch w_Client_Out_Ask_Seq w_Client_Out_Ask_Name w_Client_Out_Ask_File w_Client_Out_Ask_Mode w_Client_Out_First w_Client_Out_Last w_Client_Bad w_Client_Hits w_Client_Asks a1_ a2_ => .opt (N.client_work_named_l0 N.fuel name n t25 t26 (N.Tclient_work.mk (N.TClient.mk w_Client_ID w_Client_Now w_Client_Epoch w_Client_Seq a1_ a2_ (N.TOut.mk w_Client_Out_Is (N.TAsk.mk w_Client_Out_Ask_Kind w_Client_Out_Ask_From w_Client_Out_Ask_Epoch w_Client_Out_Ask_Seq w_Client_Out_Ask_Name w_Client_Out_Ask_File w_Client_Out_Ask_Mode []) w_Client_Out_First w_Client_Out_Last) w_Client_Bad w_Client_Hits w_Client_Asks) [])) (x73_s0 name n t25)⟩
noncomputable def L73 : Nat → LoopInfo E := clL E 51 [{ ks := [0, 1, 2, 24, 25, 26], mvs := [], pro := [], d := [], g := some (insF [g73_s0]) }] []
theorem f73_s0 (name : List UInt8) (n : Int) (t25 : Int) (t26 : Int) (w : N.Tclient_work) : ((stepOf E S73 L73 0 0 Tryz.f73 (h73_s0 name n t25 t26 w) (t73_s0 name n t25 t26 w)).bind (nx E [0, 1, 2, 24, 25, 26] [] [0, 1, 2] 3)).get = N.client_work_named_s0k name n t25 (fun v_ => some (.inl (h73_s0 name n t25 v_.1 v_.2, t73_s0 name n t25 v_.1 v_.2))) (fun x_ => some (.inr (.exit 0, ofSlots E 51 [] [0, 1, 2] [.ptr 0 [], .val .str name, .val (.int .i64) n], [.box false (.agg 8 [.agg 4 [.val (.int .i64) x_.Client.ID, .val (.int .i64) x_.Client.Now, .val (.int .i64) x_.Client.Epoch, .val (.int .i64) x_.Client.Seq, .own 1, .own 2, .agg 3 [.val .bool x_.Client.Out.Is, .agg 2 [.val (.int .i64) x_.Client.Out.Ask.Kind, .val (.int .i64) x_.Client.Out.Ask.From, .val (.int .i64) x_.Client.Out.Ask.Epoch, .val (.int .i64) x_.Client.Out.Ask.Seq, .val .str x_.Client.Out.Ask.Name, .val (.int .i64) x_.Client.Out.Ask.File, .val (.int .i64) x_.Client.Out.Ask.Mode, .nils], .val (.int .i64) x_.Client.Out.First, .val (.int .i64) x_.Client.Out.Last], .val (.int .i64) x_.Client.Bad, .val (.int .i64) x_.Client.Hits, .val (.int .i64) x_.Client.Asks], .nils]), .arr .fix (.named 1) x_.Client.Files, .arr .live .str x_.Client.Names]))) t26 w := by kernel_rfl
theorem q73_s0 : InsLp 51 [0, 1, 2, 24, 25, 26] [] [] (stepOf E S73 L73 0 0 Tryz.f73) g73_s0 := by
  intro name n t25 t26 w_Client_ID w_Client_Now w_Client_Epoch w_Client_Seq w_Client_Out_Is w_Client_Out_Ask_Kind w_Client_Out_Ask_From w_Client_Out_Ask_Epoch w_Client_Out_Ask_Seq w_Client_Out_Ask_Name w_Client_Out_Ask_File w_Client_Out_Ask_Mode w_Client_Out_First w_Client_Out_Last w_Client_Bad w_Client_Hits w_Client_Asks a1_ a2_ out_ ho_
  obtain ⟨x_, h1_, h2_⟩ := Option.bind_eq_some_iff.1 ho_
  refine iter_loop (rs := [0, 1, 2]) (step := N.client_work_named_s0 name n t25) (hd := fun v_ => h73_s0 name n t25 v_.1 v_.2) (sv := fun v_ => t73_s0 name n t25 v_.1 v_.2) (ex := x73_s0 name n t25) (fun v_ => ?_) N.fuel (t26, (N.Tclient_work.mk (N.TClient.mk w_Client_ID w_Client_Now w_Client_Epoch w_Client_Seq a1_ a2_ (N.TOut.mk w_Client_Out_Is (N.TAsk.mk w_Client_Out_Ask_Kind w_Client_Out_Ask_From w_Client_Out_Ask_Epoch w_Client_Out_Ask_Seq w_Client_Out_Ask_Name w_Client_Out_Ask_File w_Client_Out_Ask_Mode []) w_Client_Out_First w_Client_Out_Last) w_Client_Bad w_Client_Hits w_Client_Asks) [])) h1_ h2_
  refine (f73_s0 name n t25 v_.1 v_.2).trans ((N.client_work_named_s0_bind name n t25 _ _ v_.1 v_.2).trans ?_)
  refine congrArg _ (funext fun s_ => ?_)
  rcases s_ with v_ | a <;> rfl
noncomputable def B73 : List (DVal E.T) → St E.T → Tree (Res E.T × St E.T) := tidyF (dbody E (lookS S73) (lookD []) L73 0 false Tryz.f73)
theorem B73_ok : FnOk Tryz.prog E 73 B73 := tidy_fn ok (bodyC_ok sound mix S73_ok (SD := []) trivial (L := L73) (N := 0) (keep := false) Tryz.func73 rfl (by
  intro k g hg fr st out ho
  match k, hg with
  | 0, hg => cases hg; exact lp_ok (allLp_cons q73_s0 (allLp_nil)) fr st out ho
  | _ + 1, hg => cases hg))
theorem F73 (name : List UInt8) (n : Int) (w_Client_ID : Int) (w_Client_Now : Int) (w_Client_Epoch : Int) (w_Client_Seq : Int) (w_Client_Out_Is : Bool) (w_Client_Out_Ask_Kind : Int) (w_Client_Out_Ask_From : Int) (w_Client_Out_Ask_Epoch : Int) (w_Client_Out_Ask_Seq : Int) (w_Client_Out_Ask_Name : List UInt8) (w_Client_Out_Ask_File : Int) (w_Client_Out_Ask_Mode : Int) (w_Client_Out_First : Int) (w_Client_Out_Last : Int) (w_Client_Bad : Int) (w_Client_Hits : Int) (w_Client_Asks : Int) (a1_ : List N.TCache) (a2_ : List (List UInt8)) : (B73 [.ptr 0 [], .val .str name, .val (.int .i64) n] [.box false (.agg 8 [.agg 4 [.val (.int .i64) w_Client_ID, .val (.int .i64) w_Client_Now, .val (.int .i64) w_Client_Epoch, .val (.int .i64) w_Client_Seq, .own 1, .own 2, .agg 3 [.val .bool w_Client_Out_Is, .agg 2 [.val (.int .i64) w_Client_Out_Ask_Kind, .val (.int .i64) w_Client_Out_Ask_From, .val (.int .i64) w_Client_Out_Ask_Epoch, .val (.int .i64) w_Client_Out_Ask_Seq, .val .str w_Client_Out_Ask_Name, .val (.int .i64) w_Client_Out_Ask_File, .val (.int .i64) w_Client_Out_Ask_Mode, .nils], .val (.int .i64) w_Client_Out_First, .val (.int .i64) w_Client_Out_Last], .val (.int .i64) w_Client_Bad, .val (.int .i64) w_Client_Hits, .val (.int .i64) w_Client_Asks], .nils]), .arr .fix (.named 1) a1_, .arr .live .str a2_]).get = N.client_work_named_k N.fuel (fun x_ => some (.ret [], [.box false (.agg 8 [.agg 4 [.val (.int .i64) x_.Client.ID, .val (.int .i64) x_.Client.Now, .val (.int .i64) x_.Client.Epoch, .val (.int .i64) x_.Client.Seq, .own 1, .own 2, .agg 3 [.val .bool x_.Client.Out.Is, .agg 2 [.val (.int .i64) x_.Client.Out.Ask.Kind, .val (.int .i64) x_.Client.Out.Ask.From, .val (.int .i64) x_.Client.Out.Ask.Epoch, .val (.int .i64) x_.Client.Out.Ask.Seq, .val .str x_.Client.Out.Ask.Name, .val (.int .i64) x_.Client.Out.Ask.File, .val (.int .i64) x_.Client.Out.Ask.Mode, .nils], .val (.int .i64) x_.Client.Out.First, .val (.int .i64) x_.Client.Out.Last], .val (.int .i64) x_.Client.Bad, .val (.int .i64) x_.Client.Hits, .val (.int .i64) x_.Client.Asks], .nils]), .arr .fix (.named 1) x_.Client.Files, .arr .live .str x_.Client.Names])) name n (N.Tclient_work.mk (N.TClient.mk w_Client_ID w_Client_Now w_Client_Epoch w_Client_Seq a1_ a2_ (N.TOut.mk w_Client_Out_Is (N.TAsk.mk w_Client_Out_Ask_Kind w_Client_Out_Ask_From w_Client_Out_Ask_Epoch w_Client_Out_Ask_Seq w_Client_Out_Ask_Name w_Client_Out_Ask_File w_Client_Out_Ask_Mode []) w_Client_Out_First w_Client_Out_Last) w_Client_Bad w_Client_Hits w_Client_Asks) []) := by kernel_rfl
noncomputable def i73 : Ins E (Res E.T × St E.T) := ⟨[.ptr 0 [], .v .str, .v (.int .i64)], [.box false (.agg 8 [.agg 4 [.v (.int .i64), .v (.int .i64), .v (.int .i64), .v (.int .i64), .own 1, .own 2, .agg 3 [.v .bool, .agg 2 [.v (.int .i64), .v (.int .i64), .v (.int .i64), .v (.int .i64), .v .str, .v (.int .i64), .v (.int .i64), .nils], .v (.int .i64), .v (.int .i64)], .v (.int .i64), .v (.int .i64), .v (.int .i64)], .nils]), .arr .fix (.named 1), .arr .live .str], fun name n w_Client_ID w_Client_Now w_Client_Epoch w_Client_Seq w_Client_Out_Is w_Client_Out_Ask_Kind w_Client_Out_Ask_From w_Client_Out_Ask_Epoch w_Client_Out_Ask_Seq w_Client_Out_Ask_Name w_Client_Out_Ask_File w_Client_Out_Ask_Mode w_Client_Out_First w_Client_Out_Last w_Client_Bad w_Client_Hits w_Client_Asks a1_ a2_ => .opt (N.client_work_named N.fuel name n (N.Tclient_work.mk (N.TClient.mk w_Client_ID w_Client_Now w_Client_Epoch w_Client_Seq a1_ a2_ (N.TOut.mk w_Client_Out_Is (N.TAsk.mk w_Client_Out_Ask_Kind w_Client_Out_Ask_From w_Client_Out_Ask_Epoch w_Client_Out_Ask_Seq w_Client_Out_Ask_Name w_Client_Out_Ask_File w_Client_Out_Ask_Mode []) w_Client_Out_First w_Client_Out_Last) w_Client_Bad w_Client_Hits w_Client_Asks) [])) fun x_ => .ret (.ret [], [.box false (.agg 8 [.agg 4 [.val (.int .i64) x_.Client.ID, .val (.int .i64) x_.Client.Now, .val (.int .i64) x_.Client.Epoch, .val (.int .i64) x_.Client.Seq, .own 1, .own 2, .agg 3 [.val .bool x_.Client.Out.Is, .agg 2 [.val (.int .i64) x_.Client.Out.Ask.Kind, .val (.int .i64) x_.Client.Out.Ask.From, .val (.int .i64) x_.Client.Out.Ask.Epoch, .val (.int .i64) x_.Client.Out.Ask.Seq, .val .str x_.Client.Out.Ask.Name, .val (.int .i64) x_.Client.Out.Ask.File, .val (.int .i64) x_.Client.Out.Ask.Mode, .nils], .val (.int .i64) x_.Client.Out.First, .val (.int .i64) x_.Client.Out.Last], .val (.int .i64) x_.Client.Bad, .val (.int .i64) x_.Client.Hits, .val (.int .i64) x_.Client.Asks], .nils]), .arr .fix (.named 1) x_.Client.Files, .arr .live .str x_.Client.Names])⟩
theorem i73_ok : InsOk Tryz.prog 73 i73 := ⟨B73, B73_ok, by intro name n w_Client_ID w_Client_Now w_Client_Epoch w_Client_Seq w_Client_Out_Is w_Client_Out_Ask_Kind w_Client_Out_Ask_From w_Client_Out_Ask_Epoch w_Client_Out_Ask_Seq w_Client_Out_Ask_Name w_Client_Out_Ask_File w_Client_Out_Ask_Mode w_Client_Out_First w_Client_Out_Last w_Client_Bad w_Client_Hits w_Client_Asks a1_ a2_ out_ h_; exact ((F73 name n w_Client_ID w_Client_Now w_Client_Epoch w_Client_Seq w_Client_Out_Is w_Client_Out_Ask_Kind w_Client_Out_Ask_From w_Client_Out_Ask_Epoch w_Client_Out_Ask_Seq w_Client_Out_Ask_Name w_Client_Out_Ask_File w_Client_Out_Ask_Mode w_Client_Out_First w_Client_Out_Last w_Client_Bad w_Client_Hits w_Client_Asks a1_ a2_).trans (N.client_work_named_bind N.fuel _ name n (N.Tclient_work.mk (N.TClient.mk w_Client_ID w_Client_Now w_Client_Epoch w_Client_Seq a1_ a2_ (N.TOut.mk w_Client_Out_Is (N.TAsk.mk w_Client_Out_Ask_Kind w_Client_Out_Ask_From w_Client_Out_Ask_Epoch w_Client_Out_Ask_Seq w_Client_Out_Ask_Name w_Client_Out_Ask_File w_Client_Out_Ask_Mode []) w_Client_Out_First w_Client_Out_Last) w_Client_Bad w_Client_Hits w_Client_Asks) []))).trans h_⟩
noncomputable def S73a : List (Nat × D.Spec E) := []
theorem S73a_ok : AllS Tryz.prog E S73a := trivial
abbrev h73a_s0 (name : List UInt8) (n : Int) (t25 : Int) (t26 : Int) (w : N.Tclient_work) : Fr E.T := ofSlots E 51 [] [0, 1, 2, 24, 25, 26] [.ptr 0 [], .val .str name, .val (.int .i64) n, .own 2, .val (.int .i64) t25, .val (.int .i64) t26]
abbrev t73a_s0 (name : List UInt8) (n : Int) (t25 : Int) (t26 : Int) (w : N.Tclient_work) : St E.T := [.box false (.agg 8 [.agg 4 [.val (.int .i64) w.Client.ID, .val (.int .i64) w.Client.Now, .val (.int .i64) w.Client.Epoch, .val (.int .i64) w.Client.Seq, .own 1, .own 2, .agg 3 [.val .bool w.Client.Out.Is, .agg 2 [.val (.int .i64) w.Client.Out.Ask.Kind, .val (.int .i64) w.Client.Out.Ask.From, .val (.int .i64) w.Client.Out.Ask.Epoch, .val (.int .i64) w.Client.Out.Ask.Seq, .val .str w.Client.Out.Ask.Name, .val (.int .i64) w.Client.Out.Ask.File, .val (.int .i64) w.Client.Out.Ask.Mode, .nils], .val (.int .i64) w.Client.Out.First, .val (.int .i64) w.Client.Out.Last], .val (.int .i64) w.Client.Bad, .val (.int .i64) w.Client.Hits, .val (.int .i64) w.Client.Asks], .nils]), .arr .live (.named 1) w.Client.Files, .arr .live .str w.Client.Names]
def x73a_s0 (name : List UInt8) (n : Int) (t25 : Int) (x_ : N.Tclient_work) : Tree (CodeOut E) := .ret (.exit 0, ofSlots E 51 [] [0, 1, 2] [.ptr 0 [], .val .str name, .val (.int .i64) n], [.box false (.agg 8 [.agg 4 [.val (.int .i64) x_.Client.ID, .val (.int .i64) x_.Client.Now, .val (.int .i64) x_.Client.Epoch, .val (.int .i64) x_.Client.Seq, .own 1, .own 2, .agg 3 [.val .bool x_.Client.Out.Is, .agg 2 [.val (.int .i64) x_.Client.Out.Ask.Kind, .val (.int .i64) x_.Client.Out.Ask.From, .val (.int .i64) x_.Client.Out.Ask.Epoch, .val (.int .i64) x_.Client.Out.Ask.Seq, .val .str x_.Client.Out.Ask.Name, .val (.int .i64) x_.Client.Out.Ask.File, .val (.int .i64) x_.Client.Out.Ask.Mode, .nils], .val (.int .i64) x_.Client.Out.First, .val (.int .i64) x_.Client.Out.Last], .val (.int .i64) x_.Client.Bad, .val (.int .i64) x_.Client.Hits, .val (.int .i64) x_.Client.Asks], .nils]), .arr .live (.named 1) x_.Client.Files, .arr .live .str x_.Client.Names])
noncomputable def g73a_s0 : Ins E (CodeOut E) := ⟨[.ptr 0 [], .v .str, .v (.int .i64), .own 2, .v (.int .i64), .v (.int .i64)], [.box false (.agg 8 [.agg 4 [.v (.int .i64), .v (.int .i64), .v (.int .i64), .v (.int .i64), .own 1, .own 2, .agg 3 [.v .bool, .agg 2 [.v (.int .i64), .v (.int .i64), .v (.int .i64), .v (.int .i64), .v .str, .v (.int .i64), .v (.int .i64), .nils], .v (.int .i64), .v (.int .i64)], .v (.int .i64), .v (.int .i64), .v (.int .i64)], .nils]), .arr .live (.named 1), .arr .live .str], fun name n t25 t26 w_Client_ID w_Client_Now w_Client_Epoch w_Client_Seq w_Client_Out_Is w_Client_Out_Ask_Kind w_Client_Out_Ask_From w_Client_Out_Ask_Epoch w_Client_Out_Ask_Seq w_Client_Out_Ask_Name w_Client_Out_Ask_File w_Client_Out_Ask_Mode w_Client_Out_First w_Client_Out_Last w_Client_Bad w_Client_Hits w_Client_Asks a1_ a2_ => .opt (N.client_work_named_2_l0 N.fuel name n t25 t26 (N.Tclient_work.mk (N.TClient.mk w_Client_ID w_Client_Now w_Client_Epoch w_Client_Seq a1_ a2_ (N.TOut.mk w_Client_Out_Is (N.TAsk.mk w_Client_Out_Ask_Kind w_Client_Out_Ask_From w_Client_Out_Ask_Epoch w_Client_Out_Ask_Seq w_Client_Out_Ask_Name w_Client_Out_Ask_File w_Client_Out_Ask_Mode []) w_Client_Out_First w_Client_Out_Last) w_Client_Bad w_Client_Hits w_Client_Asks) [])) (x73a_s0 name n t25)⟩
noncomputable def L73a : Nat → LoopInfo E := clL E 51 [{ ks := [0, 1, 2, 24, 25, 26], mvs := [], pro := [], d := [], g := some (insF [g73a_s0]) }] []
theorem f73a_s0 (name : List UInt8) (n : Int) (t25 : Int) (t26 : Int) (w : N.Tclient_work) : ((stepOf E S73a L73a 0 0 Tryz.f73 (h73a_s0 name n t25 t26 w) (t73a_s0 name n t25 t26 w)).bind (nx E [0, 1, 2, 24, 25, 26] [] [0, 1, 2] 3)).get = N.client_work_named_2_s0k name n t25 (fun v_ => some (.inl (h73a_s0 name n t25 v_.1 v_.2, t73a_s0 name n t25 v_.1 v_.2))) (fun x_ => some (.inr (.exit 0, ofSlots E 51 [] [0, 1, 2] [.ptr 0 [], .val .str name, .val (.int .i64) n], [.box false (.agg 8 [.agg 4 [.val (.int .i64) x_.Client.ID, .val (.int .i64) x_.Client.Now, .val (.int .i64) x_.Client.Epoch, .val (.int .i64) x_.Client.Seq, .own 1, .own 2, .agg 3 [.val .bool x_.Client.Out.Is, .agg 2 [.val (.int .i64) x_.Client.Out.Ask.Kind, .val (.int .i64) x_.Client.Out.Ask.From, .val (.int .i64) x_.Client.Out.Ask.Epoch, .val (.int .i64) x_.Client.Out.Ask.Seq, .val .str x_.Client.Out.Ask.Name, .val (.int .i64) x_.Client.Out.Ask.File, .val (.int .i64) x_.Client.Out.Ask.Mode, .nils], .val (.int .i64) x_.Client.Out.First, .val (.int .i64) x_.Client.Out.Last], .val (.int .i64) x_.Client.Bad, .val (.int .i64) x_.Client.Hits, .val (.int .i64) x_.Client.Asks], .nils]), .arr .live (.named 1) x_.Client.Files, .arr .live .str x_.Client.Names]))) t26 w := by kernel_rfl
theorem q73a_s0 : InsLp 51 [0, 1, 2, 24, 25, 26] [] [] (stepOf E S73a L73a 0 0 Tryz.f73) g73a_s0 := by
  intro name n t25 t26 w_Client_ID w_Client_Now w_Client_Epoch w_Client_Seq w_Client_Out_Is w_Client_Out_Ask_Kind w_Client_Out_Ask_From w_Client_Out_Ask_Epoch w_Client_Out_Ask_Seq w_Client_Out_Ask_Name w_Client_Out_Ask_File w_Client_Out_Ask_Mode w_Client_Out_First w_Client_Out_Last w_Client_Bad w_Client_Hits w_Client_Asks a1_ a2_ out_ ho_
  obtain ⟨x_, h1_, h2_⟩ := Option.bind_eq_some_iff.1 ho_
  refine iter_loop (rs := [0, 1, 2]) (step := N.client_work_named_2_s0 name n t25) (hd := fun v_ => h73a_s0 name n t25 v_.1 v_.2) (sv := fun v_ => t73a_s0 name n t25 v_.1 v_.2) (ex := x73a_s0 name n t25) (fun v_ => ?_) N.fuel (t26, (N.Tclient_work.mk (N.TClient.mk w_Client_ID w_Client_Now w_Client_Epoch w_Client_Seq a1_ a2_ (N.TOut.mk w_Client_Out_Is (N.TAsk.mk w_Client_Out_Ask_Kind w_Client_Out_Ask_From w_Client_Out_Ask_Epoch w_Client_Out_Ask_Seq w_Client_Out_Ask_Name w_Client_Out_Ask_File w_Client_Out_Ask_Mode []) w_Client_Out_First w_Client_Out_Last) w_Client_Bad w_Client_Hits w_Client_Asks) [])) h1_ h2_
  refine (f73a_s0 name n t25 v_.1 v_.2).trans ((N.client_work_named_2_s0_bind name n t25 _ _ v_.1 v_.2).trans ?_)
  refine congrArg _ (funext fun s_ => ?_)
  rcases s_ with v_ | a <;> rfl
noncomputable def B73a : List (DVal E.T) → St E.T → Tree (Res E.T × St E.T) := tidyF (dbody E (lookS S73a) (lookD []) L73a 0 false Tryz.f73)
theorem B73a_ok : FnOk Tryz.prog E 73 B73a := tidy_fn ok (bodyC_ok sound mix S73a_ok (SD := []) trivial (L := L73a) (N := 0) (keep := false) Tryz.func73 rfl (by
  intro k g hg fr st out ho
  match k, hg with
  | 0, hg => cases hg; exact lp_ok (allLp_cons q73a_s0 (allLp_nil)) fr st out ho
  | _ + 1, hg => cases hg))
theorem F73a (name : List UInt8) (n : Int) (w_Client_ID : Int) (w_Client_Now : Int) (w_Client_Epoch : Int) (w_Client_Seq : Int) (w_Client_Out_Is : Bool) (w_Client_Out_Ask_Kind : Int) (w_Client_Out_Ask_From : Int) (w_Client_Out_Ask_Epoch : Int) (w_Client_Out_Ask_Seq : Int) (w_Client_Out_Ask_Name : List UInt8) (w_Client_Out_Ask_File : Int) (w_Client_Out_Ask_Mode : Int) (w_Client_Out_First : Int) (w_Client_Out_Last : Int) (w_Client_Bad : Int) (w_Client_Hits : Int) (w_Client_Asks : Int) (a1_ : List N.TCache) (a2_ : List (List UInt8)) : (B73a [.ptr 0 [], .val .str name, .val (.int .i64) n] [.box false (.agg 8 [.agg 4 [.val (.int .i64) w_Client_ID, .val (.int .i64) w_Client_Now, .val (.int .i64) w_Client_Epoch, .val (.int .i64) w_Client_Seq, .own 1, .own 2, .agg 3 [.val .bool w_Client_Out_Is, .agg 2 [.val (.int .i64) w_Client_Out_Ask_Kind, .val (.int .i64) w_Client_Out_Ask_From, .val (.int .i64) w_Client_Out_Ask_Epoch, .val (.int .i64) w_Client_Out_Ask_Seq, .val .str w_Client_Out_Ask_Name, .val (.int .i64) w_Client_Out_Ask_File, .val (.int .i64) w_Client_Out_Ask_Mode, .nils], .val (.int .i64) w_Client_Out_First, .val (.int .i64) w_Client_Out_Last], .val (.int .i64) w_Client_Bad, .val (.int .i64) w_Client_Hits, .val (.int .i64) w_Client_Asks], .nils]), .arr .live (.named 1) a1_, .arr .live .str a2_]).get = N.client_work_named_2_k N.fuel (fun x_ => some (.ret [], [.box false (.agg 8 [.agg 4 [.val (.int .i64) x_.Client.ID, .val (.int .i64) x_.Client.Now, .val (.int .i64) x_.Client.Epoch, .val (.int .i64) x_.Client.Seq, .own 1, .own 2, .agg 3 [.val .bool x_.Client.Out.Is, .agg 2 [.val (.int .i64) x_.Client.Out.Ask.Kind, .val (.int .i64) x_.Client.Out.Ask.From, .val (.int .i64) x_.Client.Out.Ask.Epoch, .val (.int .i64) x_.Client.Out.Ask.Seq, .val .str x_.Client.Out.Ask.Name, .val (.int .i64) x_.Client.Out.Ask.File, .val (.int .i64) x_.Client.Out.Ask.Mode, .nils], .val (.int .i64) x_.Client.Out.First, .val (.int .i64) x_.Client.Out.Last], .val (.int .i64) x_.Client.Bad, .val (.int .i64) x_.Client.Hits, .val (.int .i64) x_.Client.Asks], .nils]), .arr .live (.named 1) x_.Client.Files, .arr .live .str x_.Client.Names])) name n (N.Tclient_work.mk (N.TClient.mk w_Client_ID w_Client_Now w_Client_Epoch w_Client_Seq a1_ a2_ (N.TOut.mk w_Client_Out_Is (N.TAsk.mk w_Client_Out_Ask_Kind w_Client_Out_Ask_From w_Client_Out_Ask_Epoch w_Client_Out_Ask_Seq w_Client_Out_Ask_Name w_Client_Out_Ask_File w_Client_Out_Ask_Mode []) w_Client_Out_First w_Client_Out_Last) w_Client_Bad w_Client_Hits w_Client_Asks) []) := by kernel_rfl
noncomputable def i73a : Ins E (Res E.T × St E.T) := ⟨[.ptr 0 [], .v .str, .v (.int .i64)], [.box false (.agg 8 [.agg 4 [.v (.int .i64), .v (.int .i64), .v (.int .i64), .v (.int .i64), .own 1, .own 2, .agg 3 [.v .bool, .agg 2 [.v (.int .i64), .v (.int .i64), .v (.int .i64), .v (.int .i64), .v .str, .v (.int .i64), .v (.int .i64), .nils], .v (.int .i64), .v (.int .i64)], .v (.int .i64), .v (.int .i64), .v (.int .i64)], .nils]), .arr .live (.named 1), .arr .live .str], fun name n w_Client_ID w_Client_Now w_Client_Epoch w_Client_Seq w_Client_Out_Is w_Client_Out_Ask_Kind w_Client_Out_Ask_From w_Client_Out_Ask_Epoch w_Client_Out_Ask_Seq w_Client_Out_Ask_Name w_Client_Out_Ask_File w_Client_Out_Ask_Mode w_Client_Out_First w_Client_Out_Last w_Client_Bad w_Client_Hits w_Client_Asks a1_ a2_ => .opt (N.client_work_named_2 N.fuel name n (N.Tclient_work.mk (N.TClient.mk w_Client_ID w_Client_Now w_Client_Epoch w_Client_Seq a1_ a2_ (N.TOut.mk w_Client_Out_Is (N.TAsk.mk w_Client_Out_Ask_Kind w_Client_Out_Ask_From w_Client_Out_Ask_Epoch w_Client_Out_Ask_Seq w_Client_Out_Ask_Name w_Client_Out_Ask_File w_Client_Out_Ask_Mode []) w_Client_Out_First w_Client_Out_Last) w_Client_Bad w_Client_Hits w_Client_Asks) [])) fun x_ => .ret (.ret [], [.box false (.agg 8 [.agg 4 [.val (.int .i64) x_.Client.ID, .val (.int .i64) x_.Client.Now, .val (.int .i64) x_.Client.Epoch, .val (.int .i64) x_.Client.Seq, .own 1, .own 2, .agg 3 [.val .bool x_.Client.Out.Is, .agg 2 [.val (.int .i64) x_.Client.Out.Ask.Kind, .val (.int .i64) x_.Client.Out.Ask.From, .val (.int .i64) x_.Client.Out.Ask.Epoch, .val (.int .i64) x_.Client.Out.Ask.Seq, .val .str x_.Client.Out.Ask.Name, .val (.int .i64) x_.Client.Out.Ask.File, .val (.int .i64) x_.Client.Out.Ask.Mode, .nils], .val (.int .i64) x_.Client.Out.First, .val (.int .i64) x_.Client.Out.Last], .val (.int .i64) x_.Client.Bad, .val (.int .i64) x_.Client.Hits, .val (.int .i64) x_.Client.Asks], .nils]), .arr .live (.named 1) x_.Client.Files, .arr .live .str x_.Client.Names])⟩
theorem i73a_ok : InsOk Tryz.prog 73 i73a := ⟨B73a, B73a_ok, by intro name n w_Client_ID w_Client_Now w_Client_Epoch w_Client_Seq w_Client_Out_Is w_Client_Out_Ask_Kind w_Client_Out_Ask_From w_Client_Out_Ask_Epoch w_Client_Out_Ask_Seq w_Client_Out_Ask_Name w_Client_Out_Ask_File w_Client_Out_Ask_Mode w_Client_Out_First w_Client_Out_Last w_Client_Bad w_Client_Hits w_Client_Asks a1_ a2_ out_ h_; exact ((F73a name n w_Client_ID w_Client_Now w_Client_Epoch w_Client_Seq w_Client_Out_Is w_Client_Out_Ask_Kind w_Client_Out_Ask_From w_Client_Out_Ask_Epoch w_Client_Out_Ask_Seq w_Client_Out_Ask_Name w_Client_Out_Ask_File w_Client_Out_Ask_Mode w_Client_Out_First w_Client_Out_Last w_Client_Bad w_Client_Hits w_Client_Asks a1_ a2_).trans (N.client_work_named_2_bind N.fuel _ name n (N.Tclient_work.mk (N.TClient.mk w_Client_ID w_Client_Now w_Client_Epoch w_Client_Seq a1_ a2_ (N.TOut.mk w_Client_Out_Is (N.TAsk.mk w_Client_Out_Ask_Kind w_Client_Out_Ask_From w_Client_Out_Ask_Epoch w_Client_Out_Ask_Seq w_Client_Out_Ask_Name w_Client_Out_Ask_File w_Client_Out_Ask_Mode []) w_Client_Out_First w_Client_Out_Last) w_Client_Bad w_Client_Hits w_Client_Asks) []))).trans h_⟩
noncomputable def P73 : Nat × D.Spec E := (73, .full [.ptr, .data .str, .data (.int .i64)] false (fullF [i73, i73a]))
theorem p73 : SpecOk Tryz.prog E P73.1 P73.2 := fullI_ok ok Tryz.call73 ⟨i73_ok, i73a_ok, trivial⟩

/-! tenancy/clock.within -/
noncomputable def S104 : List (Nat × D.Spec E) := []
theorem S104_ok : AllS Tryz.prog E S104 := trivial
noncomputable def L104 : Nat → LoopInfo E := clL E 13 [] []
noncomputable def B104 : List (DVal E.T) → St E.T → Tree (Res E.T × St E.T) := dbody E (lookS S104) (lookD []) L104 0 false Tryz.f104
theorem B104_ok : FnOk Tryz.prog E 104 B104 := bodyC_ok sound mix S104_ok (SD := []) trivial (L := L104) (N := 0) (keep := false) Tryz.func104 rfl (by
  intro k g hg fr st out ho
  match k, hg with
  | _, hg => cases hg)
theorem F104 (v : Int) (most : Int) : (B104 [.val (.int .i64) v, .val (.int .i64) most] []).get = N.clock_within_k (fun x_ => some (.ret [], [])) (fun x_ => some (.panic (.ifc 148 (.val (.named 10) N.TNil0.mk)), [])) v most := by kernel_rfl
noncomputable def i104 : Ins E (Res E.T × St E.T) := ⟨[.v (.int .i64), .v (.int .i64)], [], fun v most => .opt (N.clock_within v most) fun x_ => altT x_ (fun u0_ => .ret (.ret [], [])) (fun w0_ => .ret (.panic (.ifc 148 (.val (.named 10) N.TNil0.mk)), []))⟩
theorem i104_ok : InsOk Tryz.prog 104 i104 := ⟨B104, B104_ok, by intro v most out_ h_; exact ((F104 v most).trans (N.clock_within_bind _ _ v most)).trans h_⟩
noncomputable def P104 : Nat × D.Spec E := (104, .pure [(.int .i64), (.int .i64)] (pureF [i104]))
theorem p104 : SpecOk Tryz.prog E P104.1 P104.2 := pureI_ok Tryz.call104 ⟨i104_ok, trivial⟩

/-! tenancy/clock.told -/
noncomputable def S103 : List (Nat × D.Spec E) := []
theorem S103_ok : AllS Tryz.prog E S103 := trivial
noncomputable def L103 : Nat → LoopInfo E := clL E 18 [] []
noncomputable def B103 : DSpec E := dbodyD E (lookS S103) L103 0 Tryz.f103
theorem p103 : DSpecOk Tryz.prog E 103 B103 := dfullD_ok sound mix S103_ok (L := L103) (fun _ => rfl) Tryz.call103 Tryz.func103 rfl

/-! tenancy/clock.Short -/
noncomputable def S75 : List (Nat × D.Spec E) := [P104]
theorem S75_ok : AllS Tryz.prog E S75 := ⟨p104, trivial⟩
noncomputable def D75 : List (Nat × DSpec E) := [(103, B103)]
theorem D75_ok : AllD Tryz.prog E D75 := ⟨p103, trivial⟩
noncomputable def L75 : Nat → LoopInfo E := clL E 16 [] []
noncomputable def B75 : List (DVal E.T) → St E.T → Tree (Res E.T × St E.T) := dbody E (lookS S75) (lookD D75) L75 0 false Tryz.f75
theorem B75_ok : FnOk Tryz.prog E 75 B75 := bodyC_ok sound mix S75_ok (SD := D75) D75_ok (L := L75) (N := 0) (keep := false) Tryz.func75 rfl (by
  intro k g hg fr st out ho
  match k, hg with
  | _, hg => cases hg)
theorem F75 (term : Int) (eps : Int) : (B75 [.val (.int .i64) term, .val (.int .i64) eps] []).get = N.clock_Short_k (fun x_ => some (.ret [.val (.int .i64) x_], [])) term eps := by kernel_rfl
noncomputable def i75 : Ins E (Res E.T × St E.T) := ⟨[.v (.int .i64), .v (.int .i64)], [], fun term eps => .opt (N.clock_Short term eps) fun x_ => .ret (.ret [.val (.int .i64) x_], [])⟩
theorem i75_ok : InsOk Tryz.prog 75 i75 := ⟨B75, B75_ok, by intro term eps out_ h_; exact ((F75 term eps).trans (N.clock_Short_bind _ term eps)).trans h_⟩
noncomputable def P75 : Nat × D.Spec E := (75, .pure [(.int .i64), (.int .i64)] (pureF [i75]))
theorem p75 : SpecOk Tryz.prog E P75.1 P75.2 := pureI_ok Tryz.call75 ⟨i75_ok, trivial⟩

/-! tenancy/clock.Add -/
noncomputable def S74 : List (Nat × D.Spec E) := []
theorem S74_ok : AllS Tryz.prog E S74 := trivial
noncomputable def L74 : Nat → LoopInfo E := clL E 16 [] []
noncomputable def B74 : List (DVal E.T) → St E.T → Tree (Res E.T × St E.T) := dbody E (lookS S74) (lookD []) L74 0 false Tryz.f74
theorem B74_ok : FnOk Tryz.prog E 74 B74 := bodyC_ok sound mix S74_ok (SD := []) trivial (L := L74) (N := 0) (keep := false) Tryz.func74 rfl (by
  intro k g hg fr st out ho
  match k, hg with
  | _, hg => cases hg)
theorem F74 (a : Int) (b : Int) : (B74 [.val (.int .i64) a, .val (.int .i64) b] []).get = N.clock_Add_k (fun x_ => some (.ret [.val (.int .i64) x_], [])) a b := by kernel_rfl
noncomputable def i74 : Ins E (Res E.T × St E.T) := ⟨[.v (.int .i64), .v (.int .i64)], [], fun a b => .ret (.ret [.val (.int .i64) (N.clock_Add a b)], [])⟩
theorem i74_ok : InsOk Tryz.prog 74 i74 := ⟨B74, B74_ok, by intro a b out_ h_; exact ((F74 a b).trans (N.clock_Add_bind _ a b)).trans h_⟩
noncomputable def P74 : Nat × D.Spec E := (74, .pure [(.int .i64), (.int .i64)] (pureF [i74]))
theorem p74 : SpecOk Tryz.prog E P74.1 P74.2 := pureI_ok Tryz.call74 ⟨i74_ok, trivial⟩

/-! tenancy/cache.Let -/
noncomputable def S76 : List (Nat × D.Spec E) := [P94]
theorem S76_ok : AllS Tryz.prog E S76 := ⟨p94, trivial⟩
noncomputable def L76 : Nat → LoopInfo E := clL E 23 [] []
noncomputable def B76 : List (DVal E.T) → St E.T → Tree (Res E.T × St E.T) := dbody E (lookS S76) (lookD []) L76 0 false Tryz.f76
theorem B76_ok : FnOk Tryz.prog E 76 B76 := bodyC_ok sound mix S76_ok (SD := []) trivial (L := L76) (N := 0) (keep := false) Tryz.func76 rfl (by
  intro k g hg fr st out ho
  match k, hg with
  | _, hg => cases hg)
theorem F76 (c : N.TCache) (mode : Int) (until_ : Int) (ver : Int) (body : List UInt8) : (B76 [.val (.named 1) c, .val (.int .i64) mode, .val (.int .i64) until_, .val (.int .i64) ver, .val .str body] []).get = N.cache_Let_k (fun x_ => some (.ret [.val (.named 1) x_], [])) c mode until_ ver body := by kernel_rfl
noncomputable def i76 : Ins E (Res E.T × St E.T) := ⟨[.v (.named 1), .v (.int .i64), .v (.int .i64), .v (.int .i64), .v .str], [], fun c mode until_ ver body => .ret (.ret [.val (.named 1) (N.cache_Let c mode until_ ver body)], [])⟩
theorem i76_ok : InsOk Tryz.prog 76 i76 := ⟨B76, B76_ok, by intro c mode until_ ver body out_ h_; exact ((F76 c mode until_ ver body).trans (N.cache_Let_bind _ c mode until_ ver body)).trans h_⟩
noncomputable def P76 : Nat × D.Spec E := (76, .pure [(.named 1), (.int .i64), (.int .i64), (.int .i64), .str] (pureF [i76]))
theorem p76 : SpecOk Tryz.prog E P76.1 P76.2 := pureI_ok Tryz.call76 ⟨i76_ok, trivial⟩

/-! tenancy/cache.Done -/
noncomputable def S77 : List (Nat × D.Spec E) := [P105, P92, P94]
theorem S77_ok : AllS Tryz.prog E S77 := ⟨p105, p92, p94, trivial⟩
noncomputable def L77 : Nat → LoopInfo E := clL E 37 [] []
noncomputable def B77 : List (DVal E.T) → St E.T → Tree (Res E.T × St E.T) := dbody E (lookS S77) (lookD []) L77 0 false Tryz.f77
theorem B77_ok : FnOk Tryz.prog E 77 B77 := bodyC_ok sound mix S77_ok (SD := []) trivial (L := L77) (N := 0) (keep := false) Tryz.func77 rfl (by
  intro k g hg fr st out ho
  match k, hg with
  | _, hg => cases hg)
theorem F77 (c : N.TCache) (ver : Int) : (B77 [.val (.named 1) c, .val (.int .i64) ver] []).get = N.cache_Done_k N.fuel (fun x_ => some (.ret [.val (.named 1) x_], [])) c ver := by kernel_rfl
noncomputable def i77 : Ins E (Res E.T × St E.T) := ⟨[.v (.named 1), .v (.int .i64)], [], fun c ver => .opt (N.cache_Done N.fuel c ver) fun x_ => .ret (.ret [.val (.named 1) x_], [])⟩
theorem i77_ok : InsOk Tryz.prog 77 i77 := ⟨B77, B77_ok, by intro c ver out_ h_; exact ((F77 c ver).trans (N.cache_Done_bind N.fuel _ c ver)).trans h_⟩
noncomputable def P77 : Nat × D.Spec E := (77, .pure [(.named 1), (.int .i64)] (pureF [i77]))
theorem p77 : SpecOk Tryz.prog E P77.1 P77.2 := pureI_ok Tryz.call77 ⟨i77_ok, trivial⟩

/-! (*tenancy/client.work).done -/
noncomputable def S29 : List (Nat × D.Spec E) := [P71, P72, P73, P74, P75, P76, P77]
theorem S29_ok : AllS Tryz.prog E S29 := ⟨p71, p72, p73, p74, p75, p76, p77, trivial⟩
noncomputable def L29 : Nat → LoopInfo E := clL E 144 [] []
noncomputable def B29 : List (DVal E.T) → St E.T → Tree (Res E.T × St E.T) := tidyF (dbody E (lookS S29) (lookD []) L29 0 false Tryz.f29)
theorem B29_ok : FnOk Tryz.prog E 29 B29 := tidy_fn ok (bodyC_ok sound mix S29_ok (SD := []) trivial (L := L29) (N := 0) (keep := false) Tryz.func29 rfl (by
  intro k g hg fr st out ho
  match k, hg with
  | _, hg => cases hg))
theorem F29 (t : N.TTell) (w_Client_ID : Int) (w_Client_Now : Int) (w_Client_Epoch : Int) (w_Client_Seq : Int) (w_Client_Out : N.TOut) (w_Client_Bad : Int) (w_Client_Hits : Int) (w_Client_Asks : Int) (a1_ : List N.TCache) (a2_ : List (List UInt8)) : (B29 [.ptr 0 [], .val (.named 7) t] [.box false (.agg 8 [.agg 4 [.val (.int .i64) w_Client_ID, .val (.int .i64) w_Client_Now, .val (.int .i64) w_Client_Epoch, .val (.int .i64) w_Client_Seq, .own 1, .own 2, .val (.named 3) w_Client_Out, .val (.int .i64) w_Client_Bad, .val (.int .i64) w_Client_Hits, .val (.int .i64) w_Client_Asks], .nils]), .arr .live (.named 1) a1_, .arr .live .str a2_]).get = N.client_work_done_k N.fuel (fun x_ => some (.ret [], [.box false (.agg 8 [.agg 4 [.val (.int .i64) x_.Client.ID, .val (.int .i64) x_.Client.Now, .val (.int .i64) x_.Client.Epoch, .val (.int .i64) x_.Client.Seq, .own 1, .own 2, .agg 3 [.val .bool x_.Client.Out.Is, .agg 2 [.val (.int .i64) x_.Client.Out.Ask.Kind, .val (.int .i64) x_.Client.Out.Ask.From, .val (.int .i64) x_.Client.Out.Ask.Epoch, .val (.int .i64) x_.Client.Out.Ask.Seq, .val .str x_.Client.Out.Ask.Name, .val (.int .i64) x_.Client.Out.Ask.File, .val (.int .i64) x_.Client.Out.Ask.Mode, .nils], .val (.int .i64) x_.Client.Out.First, .val (.int .i64) x_.Client.Out.Last], .val (.int .i64) x_.Client.Bad, .val (.int .i64) x_.Client.Hits, .val (.int .i64) x_.Client.Asks], .nils]), .arr .live (.named 1) x_.Client.Files, .arr .live .str x_.Client.Names])) (fun x_ => some (.ret [], [.box false (.agg 8 [.agg 4 [.val (.int .i64) x_.Client.ID, .val (.int .i64) x_.Client.Now, .val (.int .i64) x_.Client.Epoch, .val (.int .i64) x_.Client.Seq, .own 1, .own 2, .val (.named 3) x_.Client.Out, .val (.int .i64) x_.Client.Bad, .val (.int .i64) x_.Client.Hits, .val (.int .i64) x_.Client.Asks], .nils]), .arr .live (.named 1) x_.Client.Files, .arr .live .str x_.Client.Names])) t (N.Tclient_work.mk (N.TClient.mk w_Client_ID w_Client_Now w_Client_Epoch w_Client_Seq a1_ a2_ w_Client_Out w_Client_Bad w_Client_Hits w_Client_Asks) []) := by kernel_rfl
noncomputable def i29 : Ins E (Res E.T × St E.T) := ⟨[.ptr 0 [], .v (.named 7)], [.box false (.agg 8 [.agg 4 [.v (.int .i64), .v (.int .i64), .v (.int .i64), .v (.int .i64), .own 1, .own 2, .v (.named 3), .v (.int .i64), .v (.int .i64), .v (.int .i64)], .nils]), .arr .live (.named 1), .arr .live .str], fun t w_Client_ID w_Client_Now w_Client_Epoch w_Client_Seq w_Client_Out w_Client_Bad w_Client_Hits w_Client_Asks a1_ a2_ => .opt (N.client_work_done N.fuel t (N.Tclient_work.mk (N.TClient.mk w_Client_ID w_Client_Now w_Client_Epoch w_Client_Seq a1_ a2_ w_Client_Out w_Client_Bad w_Client_Hits w_Client_Asks) [])) fun x_ => altT x_ (fun u0_ => .ret (.ret [], [.box false (.agg 8 [.agg 4 [.val (.int .i64) u0_.Client.ID, .val (.int .i64) u0_.Client.Now, .val (.int .i64) u0_.Client.Epoch, .val (.int .i64) u0_.Client.Seq, .own 1, .own 2, .agg 3 [.val .bool u0_.Client.Out.Is, .agg 2 [.val (.int .i64) u0_.Client.Out.Ask.Kind, .val (.int .i64) u0_.Client.Out.Ask.From, .val (.int .i64) u0_.Client.Out.Ask.Epoch, .val (.int .i64) u0_.Client.Out.Ask.Seq, .val .str u0_.Client.Out.Ask.Name, .val (.int .i64) u0_.Client.Out.Ask.File, .val (.int .i64) u0_.Client.Out.Ask.Mode, .nils], .val (.int .i64) u0_.Client.Out.First, .val (.int .i64) u0_.Client.Out.Last], .val (.int .i64) u0_.Client.Bad, .val (.int .i64) u0_.Client.Hits, .val (.int .i64) u0_.Client.Asks], .nils]), .arr .live (.named 1) u0_.Client.Files, .arr .live .str u0_.Client.Names])) (fun w0_ => .ret (.ret [], [.box false (.agg 8 [.agg 4 [.val (.int .i64) w0_.Client.ID, .val (.int .i64) w0_.Client.Now, .val (.int .i64) w0_.Client.Epoch, .val (.int .i64) w0_.Client.Seq, .own 1, .own 2, .val (.named 3) w0_.Client.Out, .val (.int .i64) w0_.Client.Bad, .val (.int .i64) w0_.Client.Hits, .val (.int .i64) w0_.Client.Asks], .nils]), .arr .live (.named 1) w0_.Client.Files, .arr .live .str w0_.Client.Names]))⟩
theorem i29_ok : InsOk Tryz.prog 29 i29 := ⟨B29, B29_ok, by intro t w_Client_ID w_Client_Now w_Client_Epoch w_Client_Seq w_Client_Out w_Client_Bad w_Client_Hits w_Client_Asks a1_ a2_ out_ h_; exact ((F29 t w_Client_ID w_Client_Now w_Client_Epoch w_Client_Seq w_Client_Out w_Client_Bad w_Client_Hits w_Client_Asks a1_ a2_).trans (N.client_work_done_bind N.fuel _ _ t (N.Tclient_work.mk (N.TClient.mk w_Client_ID w_Client_Now w_Client_Epoch w_Client_Seq a1_ a2_ w_Client_Out w_Client_Bad w_Client_Hits w_Client_Asks) []))).trans h_⟩
noncomputable def P29 : Nat × D.Spec E := (29, .full [.ptr, .data (.named 7)] false (fullF [i29]))
theorem p29 : SpecOk Tryz.prog E P29.1 P29.2 := fullI_ok ok Tryz.call29 ⟨i29_ok, trivial⟩

/-! tenancy/client.Comes -/
noncomputable def S11 : List (Nat × D.Spec E) := [P25, P26, P27, P28, P29]
theorem S11_ok : AllS Tryz.prog E S11 := ⟨p25, p26, p27, p28, p29, trivial⟩
noncomputable def L11 : Nat → LoopInfo E := clL E 65 [] []
noncomputable def B11 : List (DVal E.T) → St E.T → Tree (Res E.T × St E.T) := dbody E (lookS S11) (lookD []) L11 0 false Tryz.f11
theorem B11_ok : FnOk Tryz.prog E 11 B11 := bodyC_ok sound mix S11_ok (SD := []) trivial (L := L11) (N := 0) (keep := false) Tryz.func11 rfl (by
  intro k g hg fr st out ho
  match k, hg with
  | _, hg => cases hg)
theorem F11 (c : N.TClient) (b : List UInt8) : (B11 [.val (.named 4) c, .val (.slice (.int .u8)) b] []).get = N.client_Comes_k N.fuel (fun x_ => some (.ret [.val (.named 4) x_.1, .val (.slice (.named 2)) x_.2], [])) c b := by kernel_rfl
noncomputable def i11 : Ins E (Res E.T × St E.T) := ⟨[.v (.named 4), .v (.slice (.int .u8))], [], fun c b => .opt (N.client_Comes N.fuel c b) fun x_ => .ret (.ret [.val (.named 4) x_.1, .val (.slice (.named 2)) x_.2], [])⟩
theorem i11_ok : InsOk Tryz.prog 11 i11 := ⟨B11, B11_ok, by intro c b out_ h_; exact ((F11 c b).trans (N.client_Comes_bind N.fuel _ c b)).trans h_⟩
noncomputable def P11 : Nat × D.Spec E := (11, .pure [(.named 4), (.slice (.int .u8))] (pureF [i11]))
theorem p11 : SpecOk Tryz.prog E P11.1 P11.2 := pureI_ok Tryz.call11 ⟨i11_ok, trivial⟩

/-! tenancy/sess.Due -/
noncomputable def S30 : List (Nat × D.Spec E) := []
theorem S30_ok : AllS Tryz.prog E S30 := trivial
noncomputable def L30 : Nat → LoopInfo E := clL E 14 [] []
noncomputable def B30 : List (DVal E.T) → St E.T → Tree (Res E.T × St E.T) := dbody E (lookS S30) (lookD []) L30 0 false Tryz.f30
theorem B30_ok : FnOk Tryz.prog E 30 B30 := bodyC_ok sound mix S30_ok (SD := []) trivial (L := L30) (N := 0) (keep := false) Tryz.func30 rfl (by
  intro k g hg fr st out ho
  match k, hg with
  | _, hg => cases hg)
theorem F30 (o : N.TOut) (now : Int) : (B30 [.val (.named 3) o, .val (.int .i64) now] []).get = N.sess_Due_k (fun x_ => some (.ret [.val .bool x_], [])) o now := by kernel_rfl
noncomputable def i30 : Ins E (Res E.T × St E.T) := ⟨[.v (.named 3), .v (.int .i64)], [], fun o now => .ret (.ret [.val .bool (N.sess_Due o now)], [])⟩
theorem i30_ok : InsOk Tryz.prog 30 i30 := ⟨B30, B30_ok, by intro o now out_ h_; exact ((F30 o now).trans (N.sess_Due_bind _ o now)).trans h_⟩
noncomputable def P30 : Nat × D.Spec E := (30, .pure [(.named 3), (.int .i64)] (pureF [i30]))
theorem p30 : SpecOk Tryz.prog E P30.1 P30.2 := pureI_ok Tryz.call30 ⟨i30_ok, trivial⟩

/-! tenancy/client.Run$1 -/
noncomputable def S33 : List (Nat × D.Spec E) := []
theorem S33_ok : AllS Tryz.prog E S33 := trivial
noncomputable def L33 : Nat → LoopInfo E := clL E 28 [] []
noncomputable def B33 : List (DVal E.T) → St E.T → Tree (Res E.T × St E.T) := dbody E (lookS S33) (lookD []) L33 0 false Tryz.f33
theorem B33_ok : FnOk Tryz.prog E 33 B33 := bodyC_ok sound mix S33_ok (SD := []) trivial (L := L33) (N := 0) (keep := false) Tryz.func33 rfl (by
  intro k g hg fr st out ho
  match k, hg with
  | _, hg => cases hg)
theorem F33 (f : N.TCache) (o1_Client_ID : Int) (o1_Client_Now : Int) (o1_Client_Epoch : Int) (o1_Client_Seq : Int) (o1_Client_Out : N.TOut) (o1_Client_Bad : Int) (o1_Client_Hits : Int) (o1_Client_Asks : Int) (a2_ : List N.TCache) (a3_ : List (List UInt8)) : (B33 [.val (.named 1) f, .ptr 0 []] [.box true (.ptr 1 []), .box true (.agg 8 [.agg 4 [.val (.int .i64) o1_Client_ID, .val (.int .i64) o1_Client_Now, .val (.int .i64) o1_Client_Epoch, .val (.int .i64) o1_Client_Seq, .own 2, .own 3, .val (.named 3) o1_Client_Out, .val (.int .i64) o1_Client_Bad, .val (.int .i64) o1_Client_Hits, .val (.int .i64) o1_Client_Asks], .nils]), .arr .froz (.named 1) a2_, .arr .froz .str a3_]).get = N.client_Run_c1_k (fun x_ => some (.ret [.val .bool x_], [.box true (.ptr 1 []), .box true (.agg 8 [.agg 4 [.val (.int .i64) o1_Client_ID, .val (.int .i64) o1_Client_Now, .val (.int .i64) o1_Client_Epoch, .val (.int .i64) o1_Client_Seq, .own 2, .own 3, .val (.named 3) o1_Client_Out, .val (.int .i64) o1_Client_Bad, .val (.int .i64) o1_Client_Hits, .val (.int .i64) o1_Client_Asks], .nils]), .arr .froz (.named 1) a2_, .arr .froz .str a3_])) f (N.Tclient_work.mk (N.TClient.mk o1_Client_ID o1_Client_Now o1_Client_Epoch o1_Client_Seq a2_ a3_ o1_Client_Out o1_Client_Bad o1_Client_Hits o1_Client_Asks) []) := by kernel_rfl
noncomputable def i33 : Ins E (Res E.T × St E.T) := ⟨[.v (.named 1), .ptr 0 []], [.box true (.ptr 1 []), .box true (.agg 8 [.agg 4 [.v (.int .i64), .v (.int .i64), .v (.int .i64), .v (.int .i64), .own 2, .own 3, .v (.named 3), .v (.int .i64), .v (.int .i64), .v (.int .i64)], .nils]), .arr .froz (.named 1), .arr .froz .str], fun f o1_Client_ID o1_Client_Now o1_Client_Epoch o1_Client_Seq o1_Client_Out o1_Client_Bad o1_Client_Hits o1_Client_Asks a2_ a3_ => .ret (.ret [.val .bool (N.client_Run_c1 f (N.Tclient_work.mk (N.TClient.mk o1_Client_ID o1_Client_Now o1_Client_Epoch o1_Client_Seq a2_ a3_ o1_Client_Out o1_Client_Bad o1_Client_Hits o1_Client_Asks) []))], [.box true (.ptr 1 []), .box true (.agg 8 [.agg 4 [.val (.int .i64) o1_Client_ID, .val (.int .i64) o1_Client_Now, .val (.int .i64) o1_Client_Epoch, .val (.int .i64) o1_Client_Seq, .own 2, .own 3, .val (.named 3) o1_Client_Out, .val (.int .i64) o1_Client_Bad, .val (.int .i64) o1_Client_Hits, .val (.int .i64) o1_Client_Asks], .nils]), .arr .froz (.named 1) a2_, .arr .froz .str a3_])⟩
theorem i33_ok : InsOk Tryz.prog 33 i33 := ⟨B33, B33_ok, by intro f o1_Client_ID o1_Client_Now o1_Client_Epoch o1_Client_Seq o1_Client_Out o1_Client_Bad o1_Client_Hits o1_Client_Asks a2_ a3_ out_ h_; exact ((F33 f o1_Client_ID o1_Client_Now o1_Client_Epoch o1_Client_Seq o1_Client_Out o1_Client_Bad o1_Client_Hits o1_Client_Asks a2_ a3_).trans (N.client_Run_c1_bind _ f (N.Tclient_work.mk (N.TClient.mk o1_Client_ID o1_Client_Now o1_Client_Epoch o1_Client_Seq a2_ a3_ o1_Client_Out o1_Client_Bad o1_Client_Hits o1_Client_Asks) []))).trans h_⟩
noncomputable def P33 : Nat × D.Spec E := (33, .full [.data (.named 1), .ptr] true (fullF [i33]))
theorem p33 : SpecOk Tryz.prog E P33.1 P33.2 := fullI_ok ok Tryz.call33 ⟨i33_ok, trivial⟩

/-! slices.IndexFunc[[]tenancy/api.Cache,tenancy/api.Cache] -/
noncomputable def S32 : List (Nat × D.Spec E) := [P33]
theorem S32_ok : AllS Tryz.prog E S32 := ⟨p33, trivial⟩
abbrev h32_s0 (s : List N.TCache) (t7 : Int) (t8 : Int) (o1 : N.Tclient_work) : Fr E.T := ofSlots E 19 [] [0, 1, 7, 8] [.val (.slice (.named 1)) s, .fn 33 [.ptr 0 []], .val (.int .i64) t7, .val (.int .i64) t8]
abbrev t32_s0 (s : List N.TCache) (t7 : Int) (t8 : Int) (o1 : N.Tclient_work) : St E.T := [.box true (.ptr 1 []), .box true (.agg 8 [.agg 4 [.val (.int .i64) o1.Client.ID, .val (.int .i64) o1.Client.Now, .val (.int .i64) o1.Client.Epoch, .val (.int .i64) o1.Client.Seq, .own 2, .own 3, .val (.named 3) o1.Client.Out, .val (.int .i64) o1.Client.Bad, .val (.int .i64) o1.Client.Hits, .val (.int .i64) o1.Client.Asks], .nils]), .arr .froz (.named 1) o1.Client.Files, .arr .froz .str o1.Client.Names]
def x32_s0 (s : List N.TCache) (t7 : Int) (x_ : (Int × N.Tclient_work) ⊕ N.Tclient_work) : Tree (CodeOut E) := altT x_ (fun u0_ => .ret (.ret, ofSlots E 19 [] [4] [.val (.int .i64) u0_.1], [.box true (.ptr 1 []), .box true (.agg 8 [.agg 4 [.val (.int .i64) u0_.2.Client.ID, .val (.int .i64) u0_.2.Client.Now, .val (.int .i64) u0_.2.Client.Epoch, .val (.int .i64) u0_.2.Client.Seq, .own 2, .own 3, .val (.named 3) u0_.2.Client.Out, .val (.int .i64) u0_.2.Client.Bad, .val (.int .i64) u0_.2.Client.Hits, .val (.int .i64) u0_.2.Client.Asks], .nils]), .arr .froz (.named 1) u0_.2.Client.Files, .arr .froz .str u0_.2.Client.Names])) (fun w0_ => .ret (.exit 0, ofSlots E 19 [] [4] [.undef], [.box true (.ptr 1 []), .box true (.agg 8 [.agg 4 [.val (.int .i64) w0_.Client.ID, .val (.int .i64) w0_.Client.Now, .val (.int .i64) w0_.Client.Epoch, .val (.int .i64) w0_.Client.Seq, .own 2, .own 3, .val (.named 3) w0_.Client.Out, .val (.int .i64) w0_.Client.Bad, .val (.int .i64) w0_.Client.Hits, .val (.int .i64) w0_.Client.Asks], .nils]), .arr .froz (.named 1) w0_.Client.Files, .arr .froz .str w0_.Client.Names]))
noncomputable def g32_s0 : Ins E (CodeOut E) := ⟨[.v (.slice (.named 1)), .fn 33 [.ptr 0 []], .v (.int .i64), .v (.int .i64)], [.box true (.ptr 1 []), .box true (.agg 8 [.agg 4 [.v (.int .i64), .v (.int .i64), .v (.int .i64), .v (.int .i64), .own 2, .own 3, .v (.named 3), .v (.int .i64), .v (.int .i64), .v (.int .i64)], .nils]), .arr .froz (.named 1), .arr .froz .str], fun s t7 t8 o1_Client_ID o1_Client_Now o1_Client_Epoch o1_Client_Seq o1_Client_Out o1_Client_Bad o1_Client_Hits o1_Client_Asks a2_ a3_ => .opt (N.slices_IndexFunc_Cache_l0 N.fuel s t7 t8 (N.Tclient_work.mk (N.TClient.mk o1_Client_ID o1_Client_Now o1_Client_Epoch o1_Client_Seq a2_ a3_ o1_Client_Out o1_Client_Bad o1_Client_Hits o1_Client_Asks) [])) (x32_s0 s t7)⟩
noncomputable def L32 : Nat → LoopInfo E := clL E 19 [{ ks := [0, 1, 7, 8], mvs := [], pro := [], d := [], g := some (insF [g32_s0]) }] []
theorem f32_s0 (s : List N.TCache) (t7 : Int) (t8 : Int) (o1 : N.Tclient_work) : ((stepOf E S32 L32 0 0 Tryz.f32 (h32_s0 s t7 t8 o1) (t32_s0 s t7 t8 o1)).bind (nx E [0, 1, 7, 8] [] [4] 4)).get = N.slices_IndexFunc_Cache_s0k s t7 (fun v_ => some (.inl (h32_s0 s t7 v_.1 v_.2, t32_s0 s t7 v_.1 v_.2))) (fun x_ => some (.inr (.ret, ofSlots E 19 [] [4] [.val (.int .i64) x_.1], [.box true (.ptr 1 []), .box true (.agg 8 [.agg 4 [.val (.int .i64) x_.2.Client.ID, .val (.int .i64) x_.2.Client.Now, .val (.int .i64) x_.2.Client.Epoch, .val (.int .i64) x_.2.Client.Seq, .own 2, .own 3, .val (.named 3) x_.2.Client.Out, .val (.int .i64) x_.2.Client.Bad, .val (.int .i64) x_.2.Client.Hits, .val (.int .i64) x_.2.Client.Asks], .nils]), .arr .froz (.named 1) x_.2.Client.Files, .arr .froz .str x_.2.Client.Names]))) (fun x_ => some (.inr (.exit 0, ofSlots E 19 [] [4] [.undef], [.box true (.ptr 1 []), .box true (.agg 8 [.agg 4 [.val (.int .i64) x_.Client.ID, .val (.int .i64) x_.Client.Now, .val (.int .i64) x_.Client.Epoch, .val (.int .i64) x_.Client.Seq, .own 2, .own 3, .val (.named 3) x_.Client.Out, .val (.int .i64) x_.Client.Bad, .val (.int .i64) x_.Client.Hits, .val (.int .i64) x_.Client.Asks], .nils]), .arr .froz (.named 1) x_.Client.Files, .arr .froz .str x_.Client.Names]))) t8 o1 := by kernel_rfl
theorem q32_s0 : InsLp 19 [0, 1, 7, 8] [] [] (stepOf E S32 L32 0 0 Tryz.f32) g32_s0 := by
  intro s t7 t8 o1_Client_ID o1_Client_Now o1_Client_Epoch o1_Client_Seq o1_Client_Out o1_Client_Bad o1_Client_Hits o1_Client_Asks a2_ a3_ out_ ho_
  obtain ⟨x_, h1_, h2_⟩ := Option.bind_eq_some_iff.1 ho_
  refine iter_loop (rs := [4]) (step := N.slices_IndexFunc_Cache_s0 s t7) (hd := fun v_ => h32_s0 s t7 v_.1 v_.2) (sv := fun v_ => t32_s0 s t7 v_.1 v_.2) (ex := x32_s0 s t7) (fun v_ => ?_) N.fuel (t8, (N.Tclient_work.mk (N.TClient.mk o1_Client_ID o1_Client_Now o1_Client_Epoch o1_Client_Seq a2_ a3_ o1_Client_Out o1_Client_Bad o1_Client_Hits o1_Client_Asks) [])) h1_ h2_
  refine (f32_s0 s t7 v_.1 v_.2).trans ((N.slices_IndexFunc_Cache_s0_bind s t7 _ _ _ v_.1 v_.2).trans ?_)
  refine congrArg _ (funext fun s_ => ?_)
  rcases s_ with v_ | a | a <;> rfl
noncomputable def B32 : List (DVal E.T) → St E.T → Tree (Res E.T × St E.T) := dbody E (lookS S32) (lookD []) L32 0 false Tryz.f32
theorem B32_ok : FnOk Tryz.prog E 32 B32 := bodyC_ok sound mix S32_ok (SD := []) trivial (L := L32) (N := 0) (keep := false) Tryz.func32 rfl (by
  intro k g hg fr st out ho
  match k, hg with
  | 0, hg => cases hg; exact lp_ok (allLp_cons q32_s0 (allLp_nil)) fr st out ho
  | _ + 1, hg => cases hg)
theorem F32 (s : List N.TCache) (o1_Client_ID : Int) (o1_Client_Now : Int) (o1_Client_Epoch : Int) (o1_Client_Seq : Int) (o1_Client_Out : N.TOut) (o1_Client_Bad : Int) (o1_Client_Hits : Int) (o1_Client_Asks : Int) (a2_ : List N.TCache) (a3_ : List (List UInt8)) : (B32 [.val (.slice (.named 1)) s, .fn 33 [.ptr 0 []]] [.box true (.ptr 1 []), .box true (.agg 8 [.agg 4 [.val (.int .i64) o1_Client_ID, .val (.int .i64) o1_Client_Now, .val (.int .i64) o1_Client_Epoch, .val (.int .i64) o1_Client_Seq, .own 2, .own 3, .val (.named 3) o1_Client_Out, .val (.int .i64) o1_Client_Bad, .val (.int .i64) o1_Client_Hits, .val (.int .i64) o1_Client_Asks], .nils]), .arr .froz (.named 1) a2_, .arr .froz .str a3_]).get = N.slices_IndexFunc_Cache_k N.fuel (fun x_ => some (.ret [.val (.int .i64) x_.1], [.box true (.ptr 1 []), .box true (.agg 8 [.agg 4 [.val (.int .i64) x_.2.Client.ID, .val (.int .i64) x_.2.Client.Now, .val (.int .i64) x_.2.Client.Epoch, .val (.int .i64) x_.2.Client.Seq, .own 2, .own 3, .val (.named 3) x_.2.Client.Out, .val (.int .i64) x_.2.Client.Bad, .val (.int .i64) x_.2.Client.Hits, .val (.int .i64) x_.2.Client.Asks], .nils]), .arr .froz (.named 1) x_.2.Client.Files, .arr .froz .str x_.2.Client.Names])) s (N.Tclient_work.mk (N.TClient.mk o1_Client_ID o1_Client_Now o1_Client_Epoch o1_Client_Seq a2_ a3_ o1_Client_Out o1_Client_Bad o1_Client_Hits o1_Client_Asks) []) := by kernel_rfl
noncomputable def i32 : Ins E (Res E.T × St E.T) := ⟨[.v (.slice (.named 1)), .fn 33 [.ptr 0 []]], [.box true (.ptr 1 []), .box true (.agg 8 [.agg 4 [.v (.int .i64), .v (.int .i64), .v (.int .i64), .v (.int .i64), .own 2, .own 3, .v (.named 3), .v (.int .i64), .v (.int .i64), .v (.int .i64)], .nils]), .arr .froz (.named 1), .arr .froz .str], fun s o1_Client_ID o1_Client_Now o1_Client_Epoch o1_Client_Seq o1_Client_Out o1_Client_Bad o1_Client_Hits o1_Client_Asks a2_ a3_ => .opt (N.slices_IndexFunc_Cache N.fuel s (N.Tclient_work.mk (N.TClient.mk o1_Client_ID o1_Client_Now o1_Client_Epoch o1_Client_Seq a2_ a3_ o1_Client_Out o1_Client_Bad o1_Client_Hits o1_Client_Asks) [])) fun x_ => .ret (.ret [.val (.int .i64) x_.1], [.box true (.ptr 1 []), .box true (.agg 8 [.agg 4 [.val (.int .i64) x_.2.Client.ID, .val (.int .i64) x_.2.Client.Now, .val (.int .i64) x_.2.Client.Epoch, .val (.int .i64) x_.2.Client.Seq, .own 2, .own 3, .val (.named 3) x_.2.Client.Out, .val (.int .i64) x_.2.Client.Bad, .val (.int .i64) x_.2.Client.Hits, .val (.int .i64) x_.2.Client.Asks], .nils]), .arr .froz (.named 1) x_.2.Client.Files, .arr .froz .str x_.2.Client.Names])⟩
theorem i32_ok : InsOk Tryz.prog 32 i32 := ⟨B32, B32_ok, by intro s o1_Client_ID o1_Client_Now o1_Client_Epoch o1_Client_Seq o1_Client_Out o1_Client_Bad o1_Client_Hits o1_Client_Asks a2_ a3_ out_ h_; exact ((F32 s o1_Client_ID o1_Client_Now o1_Client_Epoch o1_Client_Seq o1_Client_Out o1_Client_Bad o1_Client_Hits o1_Client_Asks a2_ a3_).trans (N.slices_IndexFunc_Cache_bind N.fuel _ s (N.Tclient_work.mk (N.TClient.mk o1_Client_ID o1_Client_Now o1_Client_Epoch o1_Client_Seq a2_ a3_ o1_Client_Out o1_Client_Bad o1_Client_Hits o1_Client_Asks) []))).trans h_⟩
noncomputable def P32 : Nat × D.Spec E := (32, .full [.data (.slice (.named 1)), .func] true (fullF [i32]))
theorem p32 : SpecOk Tryz.prog E P32.1 P32.2 := fullI_ok ok Tryz.call32 ⟨i32_ok, trivial⟩

/-! tenancy/client.Run -/
noncomputable def S12 : List (Nat × D.Spec E) := [P25, P30, P31, P32, P34]
theorem S12_ok : AllS Tryz.prog E S12 := ⟨p25, p30, p31, p32, p34, trivial⟩
noncomputable def L12 : Nat → LoopInfo E := clL E 56 [] []
noncomputable def B12 : List (DVal E.T) → St E.T → Tree (Res E.T × St E.T) := dbody E (lookS S12) (lookD []) L12 0 false Tryz.f12
theorem B12_ok : FnOk Tryz.prog E 12 B12 := bodyC_ok sound mix S12_ok (SD := []) trivial (L := L12) (N := 0) (keep := false) Tryz.func12 rfl (by
  intro k g hg fr st out ho
  match k, hg with
  | _, hg => cases hg)
theorem F12 (c : N.TClient) : (B12 [.val (.named 4) c] []).get = N.client_Run_k N.fuel (fun x_ => some (.ret [.val (.named 4) x_.1, .val (.slice (.named 2)) x_.2], [])) c := by kernel_rfl
noncomputable def i12 : Ins E (Res E.T × St E.T) := ⟨[.v (.named 4)], [], fun c => .opt (N.client_Run N.fuel c) fun x_ => .ret (.ret [.val (.named 4) x_.1, .val (.slice (.named 2)) x_.2], [])⟩
theorem i12_ok : InsOk Tryz.prog 12 i12 := ⟨B12, B12_ok, by intro c out_ h_; exact ((F12 c).trans (N.client_Run_bind N.fuel _ c)).trans h_⟩
noncomputable def P12 : Nat × D.Spec E := (12, .pure [(.named 4)] (pureF [i12]))
theorem p12 : SpecOk Tryz.prog E P12.1 P12.2 := pureI_ok Tryz.call12 ⟨i12_ok, trivial⟩

/-! slices.Equal[[]tenancy/api.Write,tenancy/api.Write] -/
noncomputable def S91 : List (Nat × D.Spec E) := []
theorem S91_ok : AllS Tryz.prog E S91 := trivial
abbrev h91_s0 (s1 : List N.TWrite) (s2 : List N.TWrite) (t12 : Int) (t13 : Int) : Fr E.T := ofSlots E 26 [] [0, 1, 12, 13] [.val (.slice (.named 0)) s1, .val (.slice (.named 0)) s2, .val (.int .i64) t12, .val (.int .i64) t13]
abbrev t91_s0 (s1 : List N.TWrite) (s2 : List N.TWrite) (t12 : Int) (t13 : Int) : St E.T := []
def x91_s0 (s1 : List N.TWrite) (s2 : List N.TWrite) (t12 : Int) (x_ : Unit ⊕ Unit) : Tree (CodeOut E) := altT x_ (fun u0_ => .ret (.ret, ofSlots E 26 [] [4] [.val .bool false], [])) (fun w0_ => .ret (.exit 0, ofSlots E 26 [] [4] [.undef], []))
noncomputable def g91_s0 : Ins E (CodeOut E) := ⟨[.v (.slice (.named 0)), .v (.slice (.named 0)), .v (.int .i64), .v (.int .i64)], [], fun s1 s2 t12 t13 => .opt (N.slices_Equal_Write_l0 N.fuel s1 s2 t12 t13) (x91_s0 s1 s2 t12)⟩
noncomputable def L91 : Nat → LoopInfo E := clL E 26 [{ ks := [0, 1, 12, 13], mvs := [], pro := [], d := [], g := some (insF [g91_s0]) }] []
theorem f91_s0 (s1 : List N.TWrite) (s2 : List N.TWrite) (t12 : Int) (t13 : Int) : ((stepOf E S91 L91 0 0 Tryz.f91 (h91_s0 s1 s2 t12 t13) (t91_s0 s1 s2 t12 t13)).bind (nx E [0, 1, 12, 13] [] [4] 0)).get = N.slices_Equal_Write_s0k s1 s2 t12 (fun v_ => some (.inl (h91_s0 s1 s2 t12 v_, t91_s0 s1 s2 t12 v_))) (fun x_ => some (.inr (.ret, ofSlots E 26 [] [4] [.val .bool false], []))) (fun x_ => some (.inr (.exit 0, ofSlots E 26 [] [4] [.undef], []))) t13 := by kernel_rfl
theorem q91_s0 : InsLp 26 [0, 1, 12, 13] [] [] (stepOf E S91 L91 0 0 Tryz.f91) g91_s0 := by
  intro s1 s2 t12 t13 out_ ho_
  obtain ⟨x_, h1_, h2_⟩ := Option.bind_eq_some_iff.1 ho_
  refine iter_loop (rs := [4]) (step := N.slices_Equal_Write_s0 s1 s2 t12) (hd := fun v_ => h91_s0 s1 s2 t12 v_) (sv := fun v_ => t91_s0 s1 s2 t12 v_) (ex := x91_s0 s1 s2 t12) (fun v_ => ?_) N.fuel t13 h1_ h2_
  refine (f91_s0 s1 s2 t12 v_).trans ((N.slices_Equal_Write_s0_bind s1 s2 t12 _ _ _ v_).trans ?_)
  refine congrArg _ (funext fun s_ => ?_)
  rcases s_ with v_ | a | a <;> rfl
noncomputable def B91 : List (DVal E.T) → St E.T → Tree (Res E.T × St E.T) := dbody E (lookS S91) (lookD []) L91 0 false Tryz.f91
theorem B91_ok : FnOk Tryz.prog E 91 B91 := bodyC_ok sound mix S91_ok (SD := []) trivial (L := L91) (N := 0) (keep := false) Tryz.func91 rfl (by
  intro k g hg fr st out ho
  match k, hg with
  | 0, hg => cases hg; exact lp_ok (allLp_cons q91_s0 (allLp_nil)) fr st out ho
  | _ + 1, hg => cases hg)
theorem F91 (s1 : List N.TWrite) (s2 : List N.TWrite) : (B91 [.val (.slice (.named 0)) s1, .val (.slice (.named 0)) s2] []).get = N.slices_Equal_Write_k N.fuel (fun x_ => some (.ret [.val .bool x_], [])) s1 s2 := by kernel_rfl
noncomputable def i91 : Ins E (Res E.T × St E.T) := ⟨[.v (.slice (.named 0)), .v (.slice (.named 0))], [], fun s1 s2 => .opt (N.slices_Equal_Write N.fuel s1 s2) fun x_ => .ret (.ret [.val .bool x_], [])⟩
theorem i91_ok : InsOk Tryz.prog 91 i91 := ⟨B91, B91_ok, by intro s1 s2 out_ h_; exact ((F91 s1 s2).trans (N.slices_Equal_Write_bind N.fuel _ s1 s2)).trans h_⟩
noncomputable def P91 : Nat × D.Spec E := (91, .pure [(.slice (.named 0)), (.slice (.named 0))] (pureF [i91]))
theorem p91 : SpecOk Tryz.prog E P91.1 P91.2 := pureI_ok Tryz.call91 ⟨i91_ok, trivial⟩

/-! tenancy/msg.SameAsk -/
noncomputable def S60 : List (Nat × D.Spec E) := [P91]
theorem S60_ok : AllS Tryz.prog E S60 := ⟨p91, trivial⟩
noncomputable def L60 : Nat → LoopInfo E := clL E 59 [] []
noncomputable def B60 : List (DVal E.T) → St E.T → Tree (Res E.T × St E.T) := dbody E (lookS S60) (lookD []) L60 0 false Tryz.f60
theorem B60_ok : FnOk Tryz.prog E 60 B60 := bodyC_ok sound mix S60_ok (SD := []) trivial (L := L60) (N := 0) (keep := false) Tryz.func60 rfl (by
  intro k g hg fr st out ho
  match k, hg with
  | _, hg => cases hg)
theorem F60 (a : N.TAsk) (b : N.TAsk) : (B60 [.val (.named 2) a, .val (.named 2) b] []).get = N.msg_SameAsk_k N.fuel (fun x_ => some (.ret [.val .bool x_], [])) a b := by kernel_rfl
noncomputable def i60 : Ins E (Res E.T × St E.T) := ⟨[.v (.named 2), .v (.named 2)], [], fun a b => .opt (N.msg_SameAsk N.fuel a b) fun x_ => .ret (.ret [.val .bool x_], [])⟩
theorem i60_ok : InsOk Tryz.prog 60 i60 := ⟨B60, B60_ok, by intro a b out_ h_; exact ((F60 a b).trans (N.msg_SameAsk_bind N.fuel _ a b)).trans h_⟩
noncomputable def P60 : Nat × D.Spec E := (60, .pure [(.named 2), (.named 2)] (pureF [i60]))
theorem p60 : SpecOk Tryz.prog E P60.1 P60.2 := pureI_ok Tryz.call60 ⟨i60_ok, trivial⟩

/-! tenancy/cache.Same -/
noncomputable def S62 : List (Nat × D.Spec E) := [P91]
theorem S62_ok : AllS Tryz.prog E S62 := ⟨p91, trivial⟩
noncomputable def L62 : Nat → LoopInfo E := clL E 59 [] []
noncomputable def B62 : List (DVal E.T) → St E.T → Tree (Res E.T × St E.T) := dbody E (lookS S62) (lookD []) L62 0 false Tryz.f62
theorem B62_ok : FnOk Tryz.prog E 62 B62 := bodyC_ok sound mix S62_ok (SD := []) trivial (L := L62) (N := 0) (keep := false) Tryz.func62 rfl (by
  intro k g hg fr st out ho
  match k, hg with
  | _, hg => cases hg)
theorem F62 (a : N.TCache) (b : N.TCache) : (B62 [.val (.named 1) a, .val (.named 1) b] []).get = N.cache_Same_k N.fuel (fun x_ => some (.ret [.val .bool x_], [])) a b := by kernel_rfl
noncomputable def i62 : Ins E (Res E.T × St E.T) := ⟨[.v (.named 1), .v (.named 1)], [], fun a b => .opt (N.cache_Same N.fuel a b) fun x_ => .ret (.ret [.val .bool x_], [])⟩
theorem i62_ok : InsOk Tryz.prog 62 i62 := ⟨B62, B62_ok, by intro a b out_ h_; exact ((F62 a b).trans (N.cache_Same_bind N.fuel _ a b)).trans h_⟩
noncomputable def P62 : Nat × D.Spec E := (62, .pure [(.named 1), (.named 1)] (pureF [i62]))
theorem p62 : SpecOk Tryz.prog E P62.1 P62.2 := pureI_ok Tryz.call62 ⟨i62_ok, trivial⟩

/-! slices.EqualFunc[[]tenancy/api.Cache,[]tenancy/api.Cache,tenancy/api.Cache,tenancy/api.Cache] -/
noncomputable def S61 : List (Nat × D.Spec E) := [P62]
theorem S61_ok : AllS Tryz.prog E S61 := ⟨p62, trivial⟩
abbrev h61_s0 (s2 : List N.TCache) (t15 : List N.TCache) (t16 : Int) (t17 : Int) : Fr E.T := ofSlots E 32 [] [1, 2, 15, 16, 17] [.val (.slice (.named 1)) s2, .fn 62 [], .val (.slice (.named 1)) t15, .val (.int .i64) t16, .val (.int .i64) t17]
abbrev t61_s0 (s2 : List N.TCache) (t15 : List N.TCache) (t16 : Int) (t17 : Int) : St E.T := []
def x61_s0 (s2 : List N.TCache) (t15 : List N.TCache) (t16 : Int) (x_ : (N.TCache × N.TCache) ⊕ Unit) : Tree (CodeOut E) := altT x_ (fun u0_ => .ret (.ret, ofSlots E 32 [] [6] [.val .bool false], [.box false (.val (.named 1) u0_.1), .box false (.val (.named 1) u0_.2)])) (fun w0_ => .ret (.exit 0, ofSlots E 32 [] [6] [.undef], []))
noncomputable def g61_s0 : Ins E (CodeOut E) := ⟨[.v (.slice (.named 1)), .fn 62 [], .v (.slice (.named 1)), .v (.int .i64), .v (.int .i64)], [], fun s2 t15 t16 t17 => .opt (N.slices_EqualFunc_Cache_l0 N.fuel s2 t15 t16 t17) (x61_s0 s2 t15 t16)⟩
noncomputable def L61 : Nat → LoopInfo E := clL E 32 [{ ks := [1, 2, 15, 16, 17], mvs := [], pro := [], d := [], g := some (insF [g61_s0]) }] []
theorem f61_s0 (s2 : List N.TCache) (t15 : List N.TCache) (t16 : Int) (t17 : Int) : ((stepOf E S61 L61 0 0 Tryz.f61 (h61_s0 s2 t15 t16 t17) (t61_s0 s2 t15 t16 t17)).bind (nx E [1, 2, 15, 16, 17] [] [6] 0)).get = N.slices_EqualFunc_Cache_s0k N.fuel s2 t15 t16 (fun v_ => some (.inl (h61_s0 s2 t15 t16 v_, t61_s0 s2 t15 t16 v_))) (fun x_ => some (.inr (.ret, ofSlots E 32 [] [6] [.val .bool false], [.box false (.val (.named 1) x_.1), .box false (.val (.named 1) x_.2)]))) (fun x_ => some (.inr (.exit 0, ofSlots E 32 [] [6] [.undef], []))) t17 := by kernel_rfl
theorem q61_s0 : InsLp 32 [1, 2, 15, 16, 17] [] [] (stepOf E S61 L61 0 0 Tryz.f61) g61_s0 := by
  intro s2 t15 t16 t17 out_ ho_
  obtain ⟨x_, h1_, h2_⟩ := Option.bind_eq_some_iff.1 ho_
  refine iter_loop (rs := [6]) (step := N.slices_EqualFunc_Cache_s0 N.fuel s2 t15 t16) (hd := fun v_ => h61_s0 s2 t15 t16 v_) (sv := fun v_ => t61_s0 s2 t15 t16 v_) (ex := x61_s0 s2 t15 t16) (fun v_ => ?_) N.fuel t17 h1_ h2_
  refine (f61_s0 s2 t15 t16 v_).trans ((N.slices_EqualFunc_Cache_s0_bind N.fuel s2 t15 t16 _ _ _ v_).trans ?_)
  refine congrArg _ (funext fun s_ => ?_)
  rcases s_ with v_ | a | a <;> rfl
noncomputable def B61 : List (DVal E.T) → St E.T → Tree (Res E.T × St E.T) := dbody E (lookS S61) (lookD []) L61 0 false Tryz.f61
theorem B61_ok : FnOk Tryz.prog E 61 B61 := bodyC_ok sound mix S61_ok (SD := []) trivial (L := L61) (N := 0) (keep := false) Tryz.func61 rfl (by
  intro k g hg fr st out ho
  match k, hg with
  | 0, hg => cases hg; exact lp_ok (allLp_cons q61_s0 (allLp_nil)) fr st out ho
  | _ + 1, hg => cases hg)
theorem F61 (s1 : List N.TCache) (s2 : List N.TCache) : (B61 [.val (.slice (.named 1)) s1, .val (.slice (.named 1)) s2, .fn 62 []] []).get = N.slices_EqualFunc_Cache_k N.fuel (fun x_ => some (.ret [.val .bool x_], [])) s1 s2 := by kernel_rfl
noncomputable def i61 : Ins E (Res E.T × St E.T) := ⟨[.v (.slice (.named 1)), .v (.slice (.named 1)), .fn 62 []], [], fun s1 s2 => .opt (N.slices_EqualFunc_Cache N.fuel s1 s2) fun x_ => .ret (.ret [.val .bool x_], [])⟩
theorem i61_ok : InsOk Tryz.prog 61 i61 := ⟨B61, B61_ok, by intro s1 s2 out_ h_; exact ((F61 s1 s2).trans (N.slices_EqualFunc_Cache_bind N.fuel _ s1 s2)).trans h_⟩
noncomputable def P61 : Nat × D.Spec E := (61, .full [.data (.slice (.named 1)), .data (.slice (.named 1)), .func] true (fullF [i61]))
theorem p61 : SpecOk Tryz.prog E P61.1 P61.2 := fullI_ok ok Tryz.call61 ⟨i61_ok, trivial⟩

/-! slices.Equal[[]string,string] -/
noncomputable def S63 : List (Nat × D.Spec E) := []
theorem S63_ok : AllS Tryz.prog E S63 := trivial
abbrev h63_s0 (s1 : List (List UInt8)) (s2 : List (List UInt8)) (t12 : Int) (t13 : Int) : Fr E.T := ofSlots E 26 [] [0, 1, 12, 13] [.val (.slice .str) s1, .val (.slice .str) s2, .val (.int .i64) t12, .val (.int .i64) t13]
abbrev t63_s0 (s1 : List (List UInt8)) (s2 : List (List UInt8)) (t12 : Int) (t13 : Int) : St E.T := []
def x63_s0 (s1 : List (List UInt8)) (s2 : List (List UInt8)) (t12 : Int) (x_ : Unit ⊕ Unit) : Tree (CodeOut E) := altT x_ (fun u0_ => .ret (.ret, ofSlots E 26 [] [4] [.val .bool false], [])) (fun w0_ => .ret (.exit 0, ofSlots E 26 [] [4] [.undef], []))
noncomputable def g63_s0 : Ins E (CodeOut E) := ⟨[.v (.slice .str), .v (.slice .str), .v (.int .i64), .v (.int .i64)], [], fun s1 s2 t12 t13 => .opt (N.slices_Equal_string_l0 N.fuel s1 s2 t12 t13) (x63_s0 s1 s2 t12)⟩
noncomputable def L63 : Nat → LoopInfo E := clL E 26 [{ ks := [0, 1, 12, 13], mvs := [], pro := [], d := [], g := some (insF [g63_s0]) }] []
theorem f63_s0 (s1 : List (List UInt8)) (s2 : List (List UInt8)) (t12 : Int) (t13 : Int) : ((stepOf E S63 L63 0 0 Tryz.f63 (h63_s0 s1 s2 t12 t13) (t63_s0 s1 s2 t12 t13)).bind (nx E [0, 1, 12, 13] [] [4] 0)).get = N.slices_Equal_string_s0k s1 s2 t12 (fun v_ => some (.inl (h63_s0 s1 s2 t12 v_, t63_s0 s1 s2 t12 v_))) (fun x_ => some (.inr (.ret, ofSlots E 26 [] [4] [.val .bool false], []))) (fun x_ => some (.inr (.exit 0, ofSlots E 26 [] [4] [.undef], []))) t13 := by kernel_rfl
theorem q63_s0 : InsLp 26 [0, 1, 12, 13] [] [] (stepOf E S63 L63 0 0 Tryz.f63) g63_s0 := by
  intro s1 s2 t12 t13 out_ ho_
  obtain ⟨x_, h1_, h2_⟩ := Option.bind_eq_some_iff.1 ho_
  refine iter_loop (rs := [4]) (step := N.slices_Equal_string_s0 s1 s2 t12) (hd := fun v_ => h63_s0 s1 s2 t12 v_) (sv := fun v_ => t63_s0 s1 s2 t12 v_) (ex := x63_s0 s1 s2 t12) (fun v_ => ?_) N.fuel t13 h1_ h2_
  refine (f63_s0 s1 s2 t12 v_).trans ((N.slices_Equal_string_s0_bind s1 s2 t12 _ _ _ v_).trans ?_)
  refine congrArg _ (funext fun s_ => ?_)
  rcases s_ with v_ | a | a <;> rfl
noncomputable def B63 : List (DVal E.T) → St E.T → Tree (Res E.T × St E.T) := dbody E (lookS S63) (lookD []) L63 0 false Tryz.f63
theorem B63_ok : FnOk Tryz.prog E 63 B63 := bodyC_ok sound mix S63_ok (SD := []) trivial (L := L63) (N := 0) (keep := false) Tryz.func63 rfl (by
  intro k g hg fr st out ho
  match k, hg with
  | 0, hg => cases hg; exact lp_ok (allLp_cons q63_s0 (allLp_nil)) fr st out ho
  | _ + 1, hg => cases hg)
theorem F63 (s1 : List (List UInt8)) (s2 : List (List UInt8)) : (B63 [.val (.slice .str) s1, .val (.slice .str) s2] []).get = N.slices_Equal_string_k N.fuel (fun x_ => some (.ret [.val .bool x_], [])) s1 s2 := by kernel_rfl
noncomputable def i63 : Ins E (Res E.T × St E.T) := ⟨[.v (.slice .str), .v (.slice .str)], [], fun s1 s2 => .opt (N.slices_Equal_string N.fuel s1 s2) fun x_ => .ret (.ret [.val .bool x_], [])⟩
theorem i63_ok : InsOk Tryz.prog 63 i63 := ⟨B63, B63_ok, by intro s1 s2 out_ h_; exact ((F63 s1 s2).trans (N.slices_Equal_string_bind N.fuel _ s1 s2)).trans h_⟩
noncomputable def P63 : Nat × D.Spec E := (63, .pure [(.slice .str), (.slice .str)] (pureF [i63]))
theorem p63 : SpecOk Tryz.prog E P63.1 P63.2 := pureI_ok Tryz.call63 ⟨i63_ok, trivial⟩

/-! tenancy/client.Same -/
noncomputable def S23 : List (Nat × D.Spec E) := [P60, P61, P63]
theorem S23_ok : AllS Tryz.prog E S23 := ⟨p60, p61, p63, trivial⟩
noncomputable def L23 : Nat → LoopInfo E := clL E 99 [] []
noncomputable def B23 : List (DVal E.T) → St E.T → Tree (Res E.T × St E.T) := dbody E (lookS S23) (lookD []) L23 0 false Tryz.f23
theorem B23_ok : FnOk Tryz.prog E 23 B23 := bodyC_ok sound mix S23_ok (SD := []) trivial (L := L23) (N := 0) (keep := false) Tryz.func23 rfl (by
  intro k g hg fr st out ho
  match k, hg with
  | _, hg => cases hg)
theorem F23 (a : N.TClient) (b : N.TClient) : (B23 [.val (.named 4) a, .val (.named 4) b] []).get = N.client_Same_k N.fuel (fun x_ => some (.ret [.val .bool x_], [])) a b := by kernel_rfl
noncomputable def i23 : Ins E (Res E.T × St E.T) := ⟨[.v (.named 4), .v (.named 4)], [], fun a b => .opt (N.client_Same N.fuel a b) fun x_ => .ret (.ret [.val .bool x_], [])⟩
theorem i23_ok : InsOk Tryz.prog 23 i23 := ⟨B23, B23_ok, by intro a b out_ h_; exact ((F23 a b).trans (N.client_Same_bind N.fuel _ a b)).trans h_⟩
noncomputable def P23 : Nat × D.Spec E := (23, .pure [(.named 4), (.named 4)] (pureF [i23]))
theorem p23 : SpecOk Tryz.prog E P23.1 P23.2 := pureI_ok Tryz.call23 ⟨i23_ok, trivial⟩

/-! tenancy/client.Crash -/
noncomputable def S24 : List (Nat × D.Spec E) := [P9]
theorem S24_ok : AllS Tryz.prog E S24 := ⟨p9, trivial⟩
noncomputable def L24 : Nat → LoopInfo E := clL E 26 [] []
noncomputable def B24 : List (DVal E.T) → St E.T → Tree (Res E.T × St E.T) := dbody E (lookS S24) (lookD []) L24 0 false Tryz.f24
theorem B24_ok : FnOk Tryz.prog E 24 B24 := bodyC_ok sound mix S24_ok (SD := []) trivial (L := L24) (N := 0) (keep := false) Tryz.func24 rfl (by
  intro k g hg fr st out ho
  match k, hg with
  | _, hg => cases hg)
theorem F24 (c : N.TClient) : (B24 [.val (.named 4) c] []).get = N.client_Crash_k (fun x_ => some (.ret [.val (.named 4) x_], [])) c := by kernel_rfl
noncomputable def i24 : Ins E (Res E.T × St E.T) := ⟨[.v (.named 4)], [], fun c => .ret (.ret [.val (.named 4) (N.client_Crash c)], [])⟩
theorem i24_ok : InsOk Tryz.prog 24 i24 := ⟨B24, B24_ok, by intro c out_ h_; exact ((F24 c).trans (N.client_Crash_bind _ c)).trans h_⟩
noncomputable def P24 : Nat × D.Spec E := (24, .pure [(.named 4)] (pureF [i24]))
theorem p24 : SpecOk Tryz.prog E P24.1 P24.2 := pureI_ok Tryz.call24 ⟨i24_ok, trivial⟩

/-! tenancy/tenancylaw20.begun -/
noncomputable def S8 : List (Nat × D.Spec E) := [P11, P12, P13, P20, P23, P24, P9]
theorem S8_ok : AllS Tryz.prog E S8 := ⟨p11, p12, p13, p20, p23, p24, p9, trivial⟩
noncomputable def L8 : Nat → LoopInfo E := clL E 113 [] []
noncomputable def B8 : List (DVal E.T) → St E.T → Tree (Res E.T × St E.T) := dbody E (lookS S8) (lookD []) L8 0 false Tryz.f8
theorem B8_ok : FnOk Tryz.prog E 8 B8 := bodyC_ok sound mix S8_ok (SD := []) trivial (L := L8) (N := 0) (keep := false) Tryz.func8 rfl (by
  intro k g hg fr st out ho
  match k, hg with
  | _, hg => cases hg)
theorem F8 : (B8 [] []).get = N.law20_begun_k N.fuel (fun x_ => some (.ret [.val .bool x_], [])) := by kernel_rfl
noncomputable def i8 : Ins E (Res E.T × St E.T) := ⟨[], [], .opt (N.law20_begun N.fuel) fun x_ => .ret (.ret [.val .bool x_], [])⟩
theorem i8_ok : InsOk Tryz.prog 8 i8 := ⟨B8, B8_ok, by intro out_ h_; exact ((F8).trans (N.law20_begun_bind N.fuel _)).trans h_⟩
noncomputable def P8 : Nat × D.Spec E := (8, .pure [] (pureF [i8]))
theorem p8 : SpecOk Tryz.prog E P8.1 P8.2 := pureI_ok Tryz.call8 ⟨i8_ok, trivial⟩

/-! tenancy/tenancyref7.SameWrites -/
noncomputable def S39 : List (Nat × D.Spec E) := []
theorem S39_ok : AllS Tryz.prog E S39 := trivial
abbrev h39_s0 (a : List N.TWrite) (b : List N.TWrite) (i : Int) : Fr E.T := ofSlots E 26 [] [0, 1, 5] [.val (.slice (.named 0)) a, .val (.slice (.named 0)) b, .val (.int .i64) i]
abbrev t39_s0 (a : List N.TWrite) (b : List N.TWrite) (i : Int) : St E.T := []
def x39_s0 (a : List N.TWrite) (b : List N.TWrite) (x_ : Unit ⊕ Unit) : Tree (CodeOut E) := altT x_ (fun u0_ => .ret (.ret, ofSlots E 26 [] [4] [.val .bool false], [])) (fun w0_ => .ret (.exit 0, ofSlots E 26 [] [4] [.undef], []))
noncomputable def g39_s0 : Ins E (CodeOut E) := ⟨[.v (.slice (.named 0)), .v (.slice (.named 0)), .v (.int .i64)], [], fun a b i => .opt (N.ref7_SameWrites_l0 N.fuel a b i) (x39_s0 a b)⟩
noncomputable def L39 : Nat → LoopInfo E := clL E 26 [{ ks := [0, 1, 5], mvs := [], pro := [], d := [], g := some (insF [g39_s0]) }] []
theorem f39_s0 (a : List N.TWrite) (b : List N.TWrite) (i : Int) : ((stepOf E S39 L39 0 0 Tryz.f39 (h39_s0 a b i) (t39_s0 a b i)).bind (nx E [0, 1, 5] [] [4] 0)).get = N.ref7_SameWrites_s0k a b (fun v_ => some (.inl (h39_s0 a b v_, t39_s0 a b v_))) (fun x_ => some (.inr (.ret, ofSlots E 26 [] [4] [.val .bool false], []))) (fun x_ => some (.inr (.exit 0, ofSlots E 26 [] [4] [.undef], []))) i := by kernel_rfl
theorem q39_s0 : InsLp 26 [0, 1, 5] [] [] (stepOf E S39 L39 0 0 Tryz.f39) g39_s0 := by
  intro a b i out_ ho_
  obtain ⟨x_, h1_, h2_⟩ := Option.bind_eq_some_iff.1 ho_
  refine iter_loop (rs := [4]) (step := N.ref7_SameWrites_s0 a b) (hd := fun v_ => h39_s0 a b v_) (sv := fun v_ => t39_s0 a b v_) (ex := x39_s0 a b) (fun v_ => ?_) N.fuel i h1_ h2_
  refine (f39_s0 a b v_).trans ((N.ref7_SameWrites_s0_bind a b _ _ _ v_).trans ?_)
  refine congrArg _ (funext fun s_ => ?_)
  rcases s_ with v_ | a | a <;> rfl
noncomputable def B39 : List (DVal E.T) → St E.T → Tree (Res E.T × St E.T) := dbody E (lookS S39) (lookD []) L39 0 false Tryz.f39
theorem B39_ok : FnOk Tryz.prog E 39 B39 := bodyC_ok sound mix S39_ok (SD := []) trivial (L := L39) (N := 0) (keep := false) Tryz.func39 rfl (by
  intro k g hg fr st out ho
  match k, hg with
  | 0, hg => cases hg; exact lp_ok (allLp_cons q39_s0 (allLp_nil)) fr st out ho
  | _ + 1, hg => cases hg)
theorem F39 (a : List N.TWrite) (b : List N.TWrite) : (B39 [.val (.slice (.named 0)) a, .val (.slice (.named 0)) b] []).get = N.ref7_SameWrites_k N.fuel (fun x_ => some (.ret [.val .bool x_], [])) a b := by kernel_rfl
noncomputable def i39 : Ins E (Res E.T × St E.T) := ⟨[.v (.slice (.named 0)), .v (.slice (.named 0))], [], fun a b => .opt (N.ref7_SameWrites N.fuel a b) fun x_ => .ret (.ret [.val .bool x_], [])⟩
theorem i39_ok : InsOk Tryz.prog 39 i39 := ⟨B39, B39_ok, by intro a b out_ h_; exact ((F39 a b).trans (N.ref7_SameWrites_bind N.fuel _ a b)).trans h_⟩
noncomputable def P39 : Nat × D.Spec E := (39, .pure [(.slice (.named 0)), (.slice (.named 0))] (pureF [i39]))
theorem p39 : SpecOk Tryz.prog E P39.1 P39.2 := pureI_ok Tryz.call39 ⟨i39_ok, trivial⟩

/-! tenancy/tenancyref13.SameAsk -/
noncomputable def S15 : List (Nat × D.Spec E) := [P39]
theorem S15_ok : AllS Tryz.prog E S15 := ⟨p39, trivial⟩
noncomputable def L15 : Nat → LoopInfo E := clL E 59 [] []
noncomputable def B15 : List (DVal E.T) → St E.T → Tree (Res E.T × St E.T) := dbody E (lookS S15) (lookD []) L15 0 false Tryz.f15
theorem B15_ok : FnOk Tryz.prog E 15 B15 := bodyC_ok sound mix S15_ok (SD := []) trivial (L := L15) (N := 0) (keep := false) Tryz.func15 rfl (by
  intro k g hg fr st out ho
  match k, hg with
  | _, hg => cases hg)
theorem F15 (a : N.TAsk) (b : N.TAsk) : (B15 [.val (.named 2) a, .val (.named 2) b] []).get = N.ref13_SameAsk_k N.fuel (fun x_ => some (.ret [.val .bool x_], [])) a b := by kernel_rfl
noncomputable def i15 : Ins E (Res E.T × St E.T) := ⟨[.v (.named 2), .v (.named 2)], [], fun a b => .opt (N.ref13_SameAsk N.fuel a b) fun x_ => .ret (.ret [.val .bool x_], [])⟩
theorem i15_ok : InsOk Tryz.prog 15 i15 := ⟨B15, B15_ok, by intro a b out_ h_; exact ((F15 a b).trans (N.ref13_SameAsk_bind N.fuel _ a b)).trans h_⟩
noncomputable def P15 : Nat × D.Spec E := (15, .pure [(.named 2), (.named 2)] (pureF [i15]))
theorem p15 : SpecOk Tryz.prog E P15.1 P15.2 := pureI_ok Tryz.call15 ⟨i15_ok, trivial⟩

/-! tenancy/tenancylaw20.ClientAgain -/
noncomputable def S5 : List (Nat × D.Spec E) := [P11, P12, P13, P15, P20, P8, P9]
theorem S5_ok : AllS Tryz.prog E S5 := ⟨p11, p12, p13, p15, p20, p8, p9, trivial⟩
abbrev h5_s0 (gaps : List UInt8) (l : List N.TAsk) (o1 : N.TAns) (last : Int) (i : Int) (c : N.TClient) : Fr E.T := ofSlots E 141 [] [2, 7, 9, 10, 11] [.val (.slice (.int .u8)) gaps, .ptr 0 [], .val (.slice (.named 2)) l, .val (.int .i64) last, .val (.int .i64) i]
abbrev t5_s0 (gaps : List UInt8) (l : List N.TAsk) (o1 : N.TAns) (last : Int) (i : Int) (c : N.TClient) : St E.T := [.box false (.val (.named 4) c), .box false (.val (.named 6) o1)]
def x5_s0 (gaps : List UInt8) (l : List N.TAsk) (o1 : N.TAns) (x_ : (N.TClient × N.TClient) ⊕ N.TClient) : Tree (CodeOut E) := altT x_ (fun u0_ => .ret (.ret, ofSlots E 141 [] [6, 7, 9] [.val .bool false, .ptr 0 [], .val (.slice (.named 2)) l], [.box false (.agg 4 [.val (.int .i64) u0_.1.ID, .val (.int .i64) u0_.1.Now, .val (.int .i64) u0_.1.Epoch, .val (.int .i64) u0_.1.Seq, .val (.slice (.named 1)) u0_.1.Files, .val (.slice .str) u0_.1.Names, .val (.named 3) u0_.1.Out, .val (.int .i64) u0_.1.Bad, .val (.int .i64) u0_.1.Hits, .val (.int .i64) u0_.1.Asks]), .box false (.val (.named 6) o1), .box false (.val (.named 4) u0_.2)])) (fun w0_ => .ret (.exit 0, ofSlots E 141 [] [6, 7, 9] [.undef, .ptr 0 [], .val (.slice (.named 2)) l], [.box false (.val (.named 4) w0_), .box false (.val (.named 6) o1)]))
noncomputable def g5_s0 : Ins E (CodeOut E) := ⟨[.v (.slice (.int .u8)), .ptr 0 [], .v (.slice (.named 2)), .v (.int .i64), .v (.int .i64)], [.box false (.v (.named 4)), .box false (.v (.named 6))], fun gaps l last i c o1 => .opt (N.law20_ClientAgain_l0 N.fuel gaps l o1 last i c) (x5_s0 gaps l o1)⟩
noncomputable def L5 : Nat → LoopInfo E := clL E 141 [{ ks := [2, 7, 9, 10, 11], mvs := [], pro := [], d := [], g := some (insF [g5_s0]) }] []
theorem f5_s0 (gaps : List UInt8) (l : List N.TAsk) (o1 : N.TAns) (last : Int) (i : Int) (c : N.TClient) : ((stepOf E S5 L5 0 0 Tryz.f5 (h5_s0 gaps l o1 last i c) (t5_s0 gaps l o1 last i c)).bind (nx E [2, 7, 9, 10, 11] [] [6, 7, 9] 2)).get = N.law20_ClientAgain_s0k N.fuel gaps l o1 (fun v_ => some (.inl (h5_s0 gaps l o1 v_.1 v_.2.1 v_.2.2, t5_s0 gaps l o1 v_.1 v_.2.1 v_.2.2))) (fun x_ => some (.inr (.ret, ofSlots E 141 [] [6, 7, 9] [.val .bool false, .ptr 0 [], .val (.slice (.named 2)) l], [.box false (.agg 4 [.val (.int .i64) x_.1.ID, .val (.int .i64) x_.1.Now, .val (.int .i64) x_.1.Epoch, .val (.int .i64) x_.1.Seq, .val (.slice (.named 1)) x_.1.Files, .val (.slice .str) x_.1.Names, .val (.named 3) x_.1.Out, .val (.int .i64) x_.1.Bad, .val (.int .i64) x_.1.Hits, .val (.int .i64) x_.1.Asks]), .box false (.val (.named 6) o1), .box false (.val (.named 4) x_.2)]))) (fun x_ => some (.inr (.exit 0, ofSlots E 141 [] [6, 7, 9] [.undef, .ptr 0 [], .val (.slice (.named 2)) l], [.box false (.val (.named 4) x_), .box false (.val (.named 6) o1)]))) last i c := by kernel_rfl
theorem q5_s0 : InsLp 141 [2, 7, 9, 10, 11] [] [] (stepOf E S5 L5 0 0 Tryz.f5) g5_s0 := by
  intro gaps l last i c o1 out_ ho_
  obtain ⟨x_, h1_, h2_⟩ := Option.bind_eq_some_iff.1 ho_
  refine iter_loop (rs := [6, 7, 9]) (step := N.law20_ClientAgain_s0 N.fuel gaps l o1) (hd := fun v_ => h5_s0 gaps l o1 v_.1 v_.2.1 v_.2.2) (sv := fun v_ => t5_s0 gaps l o1 v_.1 v_.2.1 v_.2.2) (ex := x5_s0 gaps l o1) (fun v_ => ?_) N.fuel (last, i, c) h1_ h2_
  refine (f5_s0 gaps l o1 v_.1 v_.2.1 v_.2.2).trans ((N.law20_ClientAgain_s0_bind N.fuel gaps l o1 _ _ _ v_.1 v_.2.1 v_.2.2).trans ?_)
  refine congrArg _ (funext fun s_ => ?_)
  rcases s_ with v_ | a | a <;> rfl
noncomputable def B5 : List (DVal E.T) → St E.T → Tree (Res E.T × St E.T) := dbody E (lookS S5) (lookD []) L5 0 false Tryz.f5
theorem B5_ok : FnOk Tryz.prog E 5 B5 := bodyC_ok sound mix S5_ok (SD := []) trivial (L := L5) (N := 0) (keep := false) Tryz.func5 rfl (by
  intro k g hg fr st out ho
  match k, hg with
  | 0, hg => cases hg; exact lp_ok (allLp_cons q5_s0 (allLp_nil)) fr st out ho
  | _ + 1, hg => cases hg)
theorem F5 (f : UInt8) (kind : UInt8) (gaps : List UInt8) : (B5 [.val (.int .u8) f, .val (.int .u8) kind, .val (.slice (.int .u8)) gaps] []).get = N.law20_ClientAgain_k N.fuel (fun x_ => some (.ret [.val .bool x_], [])) f kind gaps := by kernel_rfl
noncomputable def i5 : Ins E (Res E.T × St E.T) := ⟨[.v (.int .u8), .v (.int .u8), .v (.slice (.int .u8))], [], fun f kind gaps => .opt (N.law20_ClientAgain N.fuel f kind gaps) fun x_ => .ret (.ret [.val .bool x_], [])⟩
theorem i5_ok : InsOk Tryz.prog 5 i5 := ⟨B5, B5_ok, by intro f kind gaps out_ h_; exact ((F5 f kind gaps).trans (N.law20_ClientAgain_bind N.fuel _ f kind gaps)).trans h_⟩
noncomputable def P5 : Nat × D.Spec E := (5, .pure [(.int .u8), (.int .u8), (.slice (.int .u8))] (pureF [i5]))
theorem p5 : SpecOk Tryz.prog E P5.1 P5.2 := pureI_ok Tryz.call5 ⟨i5_ok, trivial⟩

/-! tenancy/tenancyref19.Valid -/
noncomputable def S22 : List (Nat × D.Spec E) := []
theorem S22_ok : AllS Tryz.prog E S22 := trivial
noncomputable def L22 : Nat → LoopInfo E := clL E 11 [] []
noncomputable def B22 : List (DVal E.T) → St E.T → Tree (Res E.T × St E.T) := dbody E (lookS S22) (lookD []) L22 0 false Tryz.f22
theorem B22_ok : FnOk Tryz.prog E 22 B22 := bodyC_ok sound mix S22_ok (SD := []) trivial (L := L22) (N := 0) (keep := false) Tryz.func22 rfl (by
  intro k g hg fr st out ho
  match k, hg with
  | _, hg => cases hg)
theorem F22 (c : N.TCache) (now : Int) : (B22 [.val (.named 1) c, .val (.int .i64) now] []).get = N.ref19_Valid_k (fun x_ => some (.ret [.val (.int .i64) x_], [])) c now := by kernel_rfl
noncomputable def i22 : Ins E (Res E.T × St E.T) := ⟨[.v (.named 1), .v (.int .i64)], [], fun c now => .ret (.ret [.val (.int .i64) (N.ref19_Valid c now)], [])⟩
theorem i22_ok : InsOk Tryz.prog 22 i22 := ⟨B22, B22_ok, by intro c now out_ h_; exact ((F22 c now).trans (N.ref19_Valid_bind _ c now)).trans h_⟩
noncomputable def P22 : Nat × D.Spec E := (22, .pure [(.named 1), (.int .i64)] (pureF [i22]))
theorem p22 : SpecOk Tryz.prog E P22.1 P22.2 := pureI_ok Tryz.call22 ⟨i22_ok, trivial⟩

/-! tenancy/tenancyref5.SameTexts -/
noncomputable def S58 : List (Nat × D.Spec E) := []
theorem S58_ok : AllS Tryz.prog E S58 := trivial
abbrev h58_s0 (a : List (List UInt8)) (b : List (List UInt8)) (i : Int) : Fr E.T := ofSlots E 26 [] [0, 1, 5] [.val (.slice .str) a, .val (.slice .str) b, .val (.int .i64) i]
abbrev t58_s0 (a : List (List UInt8)) (b : List (List UInt8)) (i : Int) : St E.T := []
def x58_s0 (a : List (List UInt8)) (b : List (List UInt8)) (x_ : Unit ⊕ Unit) : Tree (CodeOut E) := altT x_ (fun u0_ => .ret (.ret, ofSlots E 26 [] [4] [.val .bool false], [])) (fun w0_ => .ret (.exit 0, ofSlots E 26 [] [4] [.undef], []))
noncomputable def g58_s0 : Ins E (CodeOut E) := ⟨[.v (.slice .str), .v (.slice .str), .v (.int .i64)], [], fun a b i => .opt (N.ref5_SameTexts_l0 N.fuel a b i) (x58_s0 a b)⟩
noncomputable def L58 : Nat → LoopInfo E := clL E 26 [{ ks := [0, 1, 5], mvs := [], pro := [], d := [], g := some (insF [g58_s0]) }] []
theorem f58_s0 (a : List (List UInt8)) (b : List (List UInt8)) (i : Int) : ((stepOf E S58 L58 0 0 Tryz.f58 (h58_s0 a b i) (t58_s0 a b i)).bind (nx E [0, 1, 5] [] [4] 0)).get = N.ref5_SameTexts_s0k a b (fun v_ => some (.inl (h58_s0 a b v_, t58_s0 a b v_))) (fun x_ => some (.inr (.ret, ofSlots E 26 [] [4] [.val .bool false], []))) (fun x_ => some (.inr (.exit 0, ofSlots E 26 [] [4] [.undef], []))) i := by kernel_rfl
theorem q58_s0 : InsLp 26 [0, 1, 5] [] [] (stepOf E S58 L58 0 0 Tryz.f58) g58_s0 := by
  intro a b i out_ ho_
  obtain ⟨x_, h1_, h2_⟩ := Option.bind_eq_some_iff.1 ho_
  refine iter_loop (rs := [4]) (step := N.ref5_SameTexts_s0 a b) (hd := fun v_ => h58_s0 a b v_) (sv := fun v_ => t58_s0 a b v_) (ex := x58_s0 a b) (fun v_ => ?_) N.fuel i h1_ h2_
  refine (f58_s0 a b v_).trans ((N.ref5_SameTexts_s0_bind a b _ _ _ v_).trans ?_)
  refine congrArg _ (funext fun s_ => ?_)
  rcases s_ with v_ | a | a <;> rfl
noncomputable def B58 : List (DVal E.T) → St E.T → Tree (Res E.T × St E.T) := dbody E (lookS S58) (lookD []) L58 0 false Tryz.f58
theorem B58_ok : FnOk Tryz.prog E 58 B58 := bodyC_ok sound mix S58_ok (SD := []) trivial (L := L58) (N := 0) (keep := false) Tryz.func58 rfl (by
  intro k g hg fr st out ho
  match k, hg with
  | 0, hg => cases hg; exact lp_ok (allLp_cons q58_s0 (allLp_nil)) fr st out ho
  | _ + 1, hg => cases hg)
theorem F58 (a : List (List UInt8)) (b : List (List UInt8)) : (B58 [.val (.slice .str) a, .val (.slice .str) b] []).get = N.ref5_SameTexts_k N.fuel (fun x_ => some (.ret [.val .bool x_], [])) a b := by kernel_rfl
noncomputable def i58 : Ins E (Res E.T × St E.T) := ⟨[.v (.slice .str), .v (.slice .str)], [], fun a b => .opt (N.ref5_SameTexts N.fuel a b) fun x_ => .ret (.ret [.val .bool x_], [])⟩
theorem i58_ok : InsOk Tryz.prog 58 i58 := ⟨B58, B58_ok, by intro a b out_ h_; exact ((F58 a b).trans (N.ref5_SameTexts_bind N.fuel _ a b)).trans h_⟩
noncomputable def P58 : Nat × D.Spec E := (58, .pure [(.slice .str), (.slice .str)] (pureF [i58]))
theorem p58 : SpecOk Tryz.prog E P58.1 P58.2 := pureI_ok Tryz.call58 ⟨i58_ok, trivial⟩

/-! tenancy/tenancyref19.SameCache -/
noncomputable def S59 : List (Nat × D.Spec E) := [P39]
theorem S59_ok : AllS Tryz.prog E S59 := ⟨p39, trivial⟩
noncomputable def L59 : Nat → LoopInfo E := clL E 59 [] []
noncomputable def B59 : List (DVal E.T) → St E.T → Tree (Res E.T × St E.T) := dbody E (lookS S59) (lookD []) L59 0 false Tryz.f59
theorem B59_ok : FnOk Tryz.prog E 59 B59 := bodyC_ok sound mix S59_ok (SD := []) trivial (L := L59) (N := 0) (keep := false) Tryz.func59 rfl (by
  intro k g hg fr st out ho
  match k, hg with
  | _, hg => cases hg)
theorem F59 (a : N.TCache) (b : N.TCache) : (B59 [.val (.named 1) a, .val (.named 1) b] []).get = N.ref19_SameCache_k N.fuel (fun x_ => some (.ret [.val .bool x_], [])) a b := by kernel_rfl
noncomputable def i59 : Ins E (Res E.T × St E.T) := ⟨[.v (.named 1), .v (.named 1)], [], fun a b => .opt (N.ref19_SameCache N.fuel a b) fun x_ => .ret (.ret [.val .bool x_], [])⟩
theorem i59_ok : InsOk Tryz.prog 59 i59 := ⟨B59, B59_ok, by intro a b out_ h_; exact ((F59 a b).trans (N.ref19_SameCache_bind N.fuel _ a b)).trans h_⟩
noncomputable def P59 : Nat × D.Spec E := (59, .pure [(.named 1), (.named 1)] (pureF [i59]))
theorem p59 : SpecOk Tryz.prog E P59.1 P59.2 := pureI_ok Tryz.call59 ⟨i59_ok, trivial⟩

end Go.Proofs.YthabbcjjecpbmaaGreat.Z
