/- Proved: ClientFull answers true at all arguments of bounded bulk. No condition beyond the statement's. (This text joins: The seat's functions, and the nice ones (4). The plain law of ClientFull: six files, four more tries: evaluated at each.) -/
import Derived.Test.YthabbcjjecpbmaaSeat5
import Derived.Test.YthabbcjjecpbmaaSeat2
import Derived.KernelRfl
import Derived.Test.YthabbcjjecpbmaaSeat1
set_option linter.unusedVariables false
set_option maxRecDepth 100000
namespace Go.Proofs.Ythabbcjjecpbmaa.C
open Go Go.Proofs.Ythabbcjjecpbmaa.D

/-! (*tenancy/client.work).called -/
noncomputable def S17 : List (Nat × D.Spec E) := [P27, P42]
theorem S17_ok : AllS Try.prog E S17 := ⟨p27, p42, trivial⟩
noncomputable def L17 : Nat → LoopInfo E := clL E 38 [] []
noncomputable def B17 : List (DVal E.T) → St E.T → Tree (Res E.T × St E.T) := tidyF (dbody E (lookS S17) (lookD []) L17 0 true Try.f17)
theorem B17_ok : FnOk Try.prog E 17 B17 := tidy_fn ok (bodyC_ok sound mix S17_ok (SD := []) trivial (L := L17) (N := 0) (keep := true) Try.func17 rfl (by
  intro k g hg fr st out ho
  match k, hg with
  | _, hg => cases hg))
theorem F17 (t : N.TTell) (w_Client_ID : Int) (w_Client_Now : Int) (w_Client_Epoch : Int) (w_Client_Seq : Int) (w_Client_Out : N.TOut) (w_Client_Bad : Int) (w_Client_Hits : Int) (w_Client_Asks : Int) (a1_ : List N.TCache) (a2_ : List (List UInt8)) : (B17 [.ptr 0 [], .val (.named 7) t] [.box false (.agg 8 [.agg 4 [.val (.int .i64) w_Client_ID, .val (.int .i64) w_Client_Now, .val (.int .i64) w_Client_Epoch, .val (.int .i64) w_Client_Seq, .own 1, .own 2, .val (.named 3) w_Client_Out, .val (.int .i64) w_Client_Bad, .val (.int .i64) w_Client_Hits, .val (.int .i64) w_Client_Asks], .nils]), .arr .live (.named 1) a1_, .arr .live .str a2_]).get = N.client_work_called_k (fun x_ => some (.ret [], [.box false (.agg 8 [.agg 4 [.val (.int .i64) x_.Client.ID, .val (.int .i64) x_.Client.Now, .val (.int .i64) x_.Client.Epoch, .val (.int .i64) x_.Client.Seq, .own 1, .own 2, .val (.named 3) x_.Client.Out, .val (.int .i64) x_.Client.Bad, .val (.int .i64) x_.Client.Hits, .val (.int .i64) x_.Client.Asks], .nils]), .arr .live (.named 1) x_.Client.Files, .arr .live .str x_.Client.Names, .dead])) (fun x_ => some (.ret [], [.box false (.agg 8 [.agg 4 [.val (.int .i64) x_.Client.ID, .val (.int .i64) x_.Client.Now, .val (.int .i64) x_.Client.Epoch, .val (.int .i64) x_.Client.Seq, .own 1, .own 2, .val (.named 3) x_.Client.Out, .val (.int .i64) x_.Client.Bad, .val (.int .i64) x_.Client.Hits, .val (.int .i64) x_.Client.Asks], .nils]), .arr .live (.named 1) x_.Client.Files, .arr .live .str x_.Client.Names, .dead, .dead])) (fun x_ => some (.ret [], [.box false (.agg 8 [.agg 4 [.val (.int .i64) x_.Client.ID, .val (.int .i64) x_.Client.Now, .val (.int .i64) x_.Client.Epoch, .val (.int .i64) x_.Client.Seq, .own 1, .own 2, .val (.named 3) x_.Client.Out, .val (.int .i64) x_.Client.Bad, .val (.int .i64) x_.Client.Hits, .val (.int .i64) x_.Client.Asks], .own 5]), .arr .live (.named 1) x_.Client.Files, .arr .live .str x_.Client.Names, .dead, .dead, .arr .live (.named 2) x_.asked])) (fun x_ => some (.ret [], [.box false (.agg 8 [.agg 4 [.val (.int .i64) x_.Client.ID, .val (.int .i64) x_.Client.Now, .val (.int .i64) x_.Client.Epoch, .val (.int .i64) x_.Client.Seq, .own 1, .own 2, .val (.named 3) x_.Client.Out, .val (.int .i64) x_.Client.Bad, .val (.int .i64) x_.Client.Hits, .val (.int .i64) x_.Client.Asks], .own 6]), .arr .live (.named 1) x_.Client.Files, .arr .live .str x_.Client.Names, .dead, .dead, .dead, .arr .live (.named 2) x_.asked])) t (N.Tclient_work.mk (N.TClient.mk w_Client_ID w_Client_Now w_Client_Epoch w_Client_Seq a1_ a2_ w_Client_Out w_Client_Bad w_Client_Hits w_Client_Asks) []) := by kernel_rfl
noncomputable def i17 : Ins E (Res E.T × St E.T) := ⟨[.ptr 0 [], .v (.named 7)], [.box false (.agg 8 [.agg 4 [.v (.int .i64), .v (.int .i64), .v (.int .i64), .v (.int .i64), .own 1, .own 2, .v (.named 3), .v (.int .i64), .v (.int .i64), .v (.int .i64)], .nils]), .arr .live (.named 1), .arr .live .str], fun t w_Client_ID w_Client_Now w_Client_Epoch w_Client_Seq w_Client_Out w_Client_Bad w_Client_Hits w_Client_Asks a1_ a2_ => .opt (N.client_work_called t (N.Tclient_work.mk (N.TClient.mk w_Client_ID w_Client_Now w_Client_Epoch w_Client_Seq a1_ a2_ w_Client_Out w_Client_Bad w_Client_Hits w_Client_Asks) [])) fun x_ => altT x_ (fun u0_ => .ret (.ret [], [.box false (.agg 8 [.agg 4 [.val (.int .i64) u0_.Client.ID, .val (.int .i64) u0_.Client.Now, .val (.int .i64) u0_.Client.Epoch, .val (.int .i64) u0_.Client.Seq, .own 1, .own 2, .val (.named 3) u0_.Client.Out, .val (.int .i64) u0_.Client.Bad, .val (.int .i64) u0_.Client.Hits, .val (.int .i64) u0_.Client.Asks], .nils]), .arr .live (.named 1) u0_.Client.Files, .arr .live .str u0_.Client.Names, .dead])) (fun w0_ => altT w0_ (fun u1_ => .ret (.ret [], [.box false (.agg 8 [.agg 4 [.val (.int .i64) u1_.Client.ID, .val (.int .i64) u1_.Client.Now, .val (.int .i64) u1_.Client.Epoch, .val (.int .i64) u1_.Client.Seq, .own 1, .own 2, .val (.named 3) u1_.Client.Out, .val (.int .i64) u1_.Client.Bad, .val (.int .i64) u1_.Client.Hits, .val (.int .i64) u1_.Client.Asks], .nils]), .arr .live (.named 1) u1_.Client.Files, .arr .live .str u1_.Client.Names, .dead, .dead])) (fun w1_ => altT w1_ (fun u2_ => .ret (.ret [], [.box false (.agg 8 [.agg 4 [.val (.int .i64) u2_.Client.ID, .val (.int .i64) u2_.Client.Now, .val (.int .i64) u2_.Client.Epoch, .val (.int .i64) u2_.Client.Seq, .own 1, .own 2, .val (.named 3) u2_.Client.Out, .val (.int .i64) u2_.Client.Bad, .val (.int .i64) u2_.Client.Hits, .val (.int .i64) u2_.Client.Asks], .own 5]), .arr .live (.named 1) u2_.Client.Files, .arr .live .str u2_.Client.Names, .dead, .dead, .arr .live (.named 2) u2_.asked])) (fun w2_ => .ret (.ret [], [.box false (.agg 8 [.agg 4 [.val (.int .i64) w2_.Client.ID, .val (.int .i64) w2_.Client.Now, .val (.int .i64) w2_.Client.Epoch, .val (.int .i64) w2_.Client.Seq, .own 1, .own 2, .val (.named 3) w2_.Client.Out, .val (.int .i64) w2_.Client.Bad, .val (.int .i64) w2_.Client.Hits, .val (.int .i64) w2_.Client.Asks], .own 6]), .arr .live (.named 1) w2_.Client.Files, .arr .live .str w2_.Client.Names, .dead, .dead, .dead, .arr .live (.named 2) w2_.asked]))))⟩
theorem i17_ok : InsOk Try.prog 17 i17 := ⟨B17, B17_ok, by intro t w_Client_ID w_Client_Now w_Client_Epoch w_Client_Seq w_Client_Out w_Client_Bad w_Client_Hits w_Client_Asks a1_ a2_ out_ h_; exact ((F17 t w_Client_ID w_Client_Now w_Client_Epoch w_Client_Seq w_Client_Out w_Client_Bad w_Client_Hits w_Client_Asks a1_ a2_).trans (N.client_work_called_bind _ _ _ _ t (N.Tclient_work.mk (N.TClient.mk w_Client_ID w_Client_Now w_Client_Epoch w_Client_Seq a1_ a2_ w_Client_Out w_Client_Bad w_Client_Hits w_Client_Asks) []))).trans h_⟩
noncomputable def P17 : Nat × D.Spec E := (17, .full [.ptr, .data (.named 7)] false (fullF [i17]))
theorem p17 : SpecOk Try.prog E P17.1 P17.2 := fullI_ok ok Try.call17 ⟨i17_ok, trivial⟩

/-! (*tenancy/client.work).named -/
noncomputable def S43 : List (Nat × D.Spec E) := []
theorem S43_ok : AllS Try.prog E S43 := trivial
abbrev h43_s0 (name : List UInt8) (n : Int) (t25 : Int) (t26 : Int) (w : N.Tclient_work) : Fr E.T := ofSlots E 51 [] [0, 1, 2, 24, 25, 26] [.ptr 0 [], .val .str name, .val (.int .i64) n, .own 2, .val (.int .i64) t25, .val (.int .i64) t26]
abbrev t43_s0 (name : List UInt8) (n : Int) (t25 : Int) (t26 : Int) (w : N.Tclient_work) : St E.T := [.box false (.agg 8 [.agg 4 [.val (.int .i64) w.Client.ID, .val (.int .i64) w.Client.Now, .val (.int .i64) w.Client.Epoch, .val (.int .i64) w.Client.Seq, .own 1, .own 2, .agg 3 [.val .bool w.Client.Out.Is, .agg 2 [.val (.int .i64) w.Client.Out.Ask.Kind, .val (.int .i64) w.Client.Out.Ask.From, .val (.int .i64) w.Client.Out.Ask.Epoch, .val (.int .i64) w.Client.Out.Ask.Seq, .val .str w.Client.Out.Ask.Name, .val (.int .i64) w.Client.Out.Ask.File, .val (.int .i64) w.Client.Out.Ask.Mode, .nils], .val (.int .i64) w.Client.Out.First, .val (.int .i64) w.Client.Out.Last], .val (.int .i64) w.Client.Bad, .val (.int .i64) w.Client.Hits, .val (.int .i64) w.Client.Asks], .nils]), .arr .fix (.named 1) w.Client.Files, .arr .live .str w.Client.Names]
def x43_s0 (name : List UInt8) (n : Int) (t25 : Int) (x_ : N.Tclient_work) : Tree (CodeOut E) := .ret (.exit 0, ofSlots E 51 [] [0, 1, 2] [.ptr 0 [], .val .str name, .val (.int .i64) n], [.box false (.agg 8 [.agg 4 [.val (.int .i64) x_.Client.ID, .val (.int .i64) x_.Client.Now, .val (.int .i64) x_.Client.Epoch, .val (.int .i64) x_.Client.Seq, .own 1, .own 2, .agg 3 [.val .bool x_.Client.Out.Is, .agg 2 [.val (.int .i64) x_.Client.Out.Ask.Kind, .val (.int .i64) x_.Client.Out.Ask.From, .val (.int .i64) x_.Client.Out.Ask.Epoch, .val (.int .i64) x_.Client.Out.Ask.Seq, .val .str x_.Client.Out.Ask.Name, .val (.int .i64) x_.Client.Out.Ask.File, .val (.int .i64) x_.Client.Out.Ask.Mode, .nils], .val (.int .i64) x_.Client.Out.First, .val (.int .i64) x_.Client.Out.Last], .val (.int .i64) x_.Client.Bad, .val (.int .i64) x_.Client.Hits, .val (.int .i64) x_.Client.Asks], .nils]), .arr .fix (.named 1) x_.Client.Files, .arr .live .str x_.Client.Names])
noncomputable def g43_s0 : Ins E (CodeOut E) := ⟨[.ptr 0 [], .v .str, .v (.int .i64), .own 2, .v (.int .i64), .v (.int .i64)], [.box false (.agg 8 [.agg 4 [.v (.int .i64), .v (.int .i64), .v (.int .i64), .v (.int .i64), .own 1, .own 2, .agg 3 [.v .bool, .agg 2 [.v (.int .i64), .v (.int .i64), .v (.int .i64), .v (.int .i64), .v .str, .v (.int .i64), .v (.int .i64), .nils], .v (.int .i64), .v (.int .i64)], .v (.int .i64), .v (.int .i64), .v (.int .i64)], .nils]), .arr .fix (.named 1), .arr .live .str], fun name n t25 t26 w_Client_ID w_Client_Now w_Client_Epoch w_Client_Seq w_Client_Out_Is w_Client_Out_Ask_Kind w_Client_Out_Ask_From w_Client_Out_Ask_Epoch w_Client_Out_Ask_Seq w_Client_Out_Ask_Name w_Client_Out_Ask_File w_Client_Out_Ask_Mode w_Client_Out_First w_Client_Out_Last w_Client_Bad w_Client_Hits w_Client_Asks a1_ a2_ => .opt (N.client_work_named_l0 N.fuel name n t25 t26 (N.Tclient_work.mk (N.TClient.mk w_Client_ID w_Client_Now w_Client_Epoch w_Client_Seq a1_ a2_ (N.TOut.mk w_Client_Out_Is (N.TAsk.mk w_Client_Out_Ask_Kind w_Client_Out_Ask_From w_Client_Out_Ask_Epoch w_Client_Out_Ask_Seq w_Client_Out_Ask_Name w_Client_Out_Ask_File w_Client_Out_Ask_Mode []) w_Client_Out_First w_Client_Out_Last) w_Client_Bad w_Client_Hits w_Client_Asks) [])) (x43_s0 name n t25)⟩
noncomputable def L43 : Nat → LoopInfo E := clL E 51 [{ ks := [0, 1, 2, 24, 25, 26], mvs := [], pro := [], d := [], g := some (insF [g43_s0]) }] []
theorem f43_s0 (name : List UInt8) (n : Int) (t25 : Int) (t26 : Int) (w : N.Tclient_work) : ((stepOf E S43 L43 0 0 Try.f43 (h43_s0 name n t25 t26 w) (t43_s0 name n t25 t26 w)).bind (nx E [0, 1, 2, 24, 25, 26] [] [0, 1, 2] 3)).get = N.client_work_named_s0k name n t25 (fun v_ => some (.inl (h43_s0 name n t25 v_.1 v_.2, t43_s0 name n t25 v_.1 v_.2))) (fun x_ => some (.inr (.exit 0, ofSlots E 51 [] [0, 1, 2] [.ptr 0 [], .val .str name, .val (.int .i64) n], [.box false (.agg 8 [.agg 4 [.val (.int .i64) x_.Client.ID, .val (.int .i64) x_.Client.Now, .val (.int .i64) x_.Client.Epoch, .val (.int .i64) x_.Client.Seq, .own 1, .own 2, .agg 3 [.val .bool x_.Client.Out.Is, .agg 2 [.val (.int .i64) x_.Client.Out.Ask.Kind, .val (.int .i64) x_.Client.Out.Ask.From, .val (.int .i64) x_.Client.Out.Ask.Epoch, .val (.int .i64) x_.Client.Out.Ask.Seq, .val .str x_.Client.Out.Ask.Name, .val (.int .i64) x_.Client.Out.Ask.File, .val (.int .i64) x_.Client.Out.Ask.Mode, .nils], .val (.int .i64) x_.Client.Out.First, .val (.int .i64) x_.Client.Out.Last], .val (.int .i64) x_.Client.Bad, .val (.int .i64) x_.Client.Hits, .val (.int .i64) x_.Client.Asks], .nils]), .arr .fix (.named 1) x_.Client.Files, .arr .live .str x_.Client.Names]))) t26 w := by kernel_rfl
theorem q43_s0 : InsLp 51 [0, 1, 2, 24, 25, 26] [] [] (stepOf E S43 L43 0 0 Try.f43) g43_s0 := by
  intro name n t25 t26 w_Client_ID w_Client_Now w_Client_Epoch w_Client_Seq w_Client_Out_Is w_Client_Out_Ask_Kind w_Client_Out_Ask_From w_Client_Out_Ask_Epoch w_Client_Out_Ask_Seq w_Client_Out_Ask_Name w_Client_Out_Ask_File w_Client_Out_Ask_Mode w_Client_Out_First w_Client_Out_Last w_Client_Bad w_Client_Hits w_Client_Asks a1_ a2_ out_ ho_
  obtain ⟨x_, h1_, h2_⟩ := Option.bind_eq_some_iff.1 ho_
  refine iter_loop (rs := [0, 1, 2]) (step := N.client_work_named_s0 name n t25) (hd := fun v_ => h43_s0 name n t25 v_.1 v_.2) (sv := fun v_ => t43_s0 name n t25 v_.1 v_.2) (ex := x43_s0 name n t25) (fun v_ => ?_) N.fuel (t26, (N.Tclient_work.mk (N.TClient.mk w_Client_ID w_Client_Now w_Client_Epoch w_Client_Seq a1_ a2_ (N.TOut.mk w_Client_Out_Is (N.TAsk.mk w_Client_Out_Ask_Kind w_Client_Out_Ask_From w_Client_Out_Ask_Epoch w_Client_Out_Ask_Seq w_Client_Out_Ask_Name w_Client_Out_Ask_File w_Client_Out_Ask_Mode []) w_Client_Out_First w_Client_Out_Last) w_Client_Bad w_Client_Hits w_Client_Asks) [])) h1_ h2_
  refine (f43_s0 name n t25 v_.1 v_.2).trans ((N.client_work_named_s0_bind name n t25 _ _ v_.1 v_.2).trans ?_)
  refine congrArg _ (funext fun s_ => ?_)
  rcases s_ with v_ | a <;> rfl
noncomputable def B43 : List (DVal E.T) → St E.T → Tree (Res E.T × St E.T) := tidyF (dbody E (lookS S43) (lookD []) L43 0 false Try.f43)
theorem B43_ok : FnOk Try.prog E 43 B43 := tidy_fn ok (bodyC_ok sound mix S43_ok (SD := []) trivial (L := L43) (N := 0) (keep := false) Try.func43 rfl (by
  intro k g hg fr st out ho
  match k, hg with
  | 0, hg => cases hg; exact lp_ok (allLp_cons q43_s0 (allLp_nil)) fr st out ho
  | _ + 1, hg => cases hg))
theorem F43 (name : List UInt8) (n : Int) (w_Client_ID : Int) (w_Client_Now : Int) (w_Client_Epoch : Int) (w_Client_Seq : Int) (w_Client_Out_Is : Bool) (w_Client_Out_Ask_Kind : Int) (w_Client_Out_Ask_From : Int) (w_Client_Out_Ask_Epoch : Int) (w_Client_Out_Ask_Seq : Int) (w_Client_Out_Ask_Name : List UInt8) (w_Client_Out_Ask_File : Int) (w_Client_Out_Ask_Mode : Int) (w_Client_Out_First : Int) (w_Client_Out_Last : Int) (w_Client_Bad : Int) (w_Client_Hits : Int) (w_Client_Asks : Int) (a1_ : List N.TCache) (a2_ : List (List UInt8)) : (B43 [.ptr 0 [], .val .str name, .val (.int .i64) n] [.box false (.agg 8 [.agg 4 [.val (.int .i64) w_Client_ID, .val (.int .i64) w_Client_Now, .val (.int .i64) w_Client_Epoch, .val (.int .i64) w_Client_Seq, .own 1, .own 2, .agg 3 [.val .bool w_Client_Out_Is, .agg 2 [.val (.int .i64) w_Client_Out_Ask_Kind, .val (.int .i64) w_Client_Out_Ask_From, .val (.int .i64) w_Client_Out_Ask_Epoch, .val (.int .i64) w_Client_Out_Ask_Seq, .val .str w_Client_Out_Ask_Name, .val (.int .i64) w_Client_Out_Ask_File, .val (.int .i64) w_Client_Out_Ask_Mode, .nils], .val (.int .i64) w_Client_Out_First, .val (.int .i64) w_Client_Out_Last], .val (.int .i64) w_Client_Bad, .val (.int .i64) w_Client_Hits, .val (.int .i64) w_Client_Asks], .nils]), .arr .fix (.named 1) a1_, .arr .live .str a2_]).get = N.client_work_named_k N.fuel (fun x_ => some (.ret [], [.box false (.agg 8 [.agg 4 [.val (.int .i64) x_.Client.ID, .val (.int .i64) x_.Client.Now, .val (.int .i64) x_.Client.Epoch, .val (.int .i64) x_.Client.Seq, .own 1, .own 2, .agg 3 [.val .bool x_.Client.Out.Is, .agg 2 [.val (.int .i64) x_.Client.Out.Ask.Kind, .val (.int .i64) x_.Client.Out.Ask.From, .val (.int .i64) x_.Client.Out.Ask.Epoch, .val (.int .i64) x_.Client.Out.Ask.Seq, .val .str x_.Client.Out.Ask.Name, .val (.int .i64) x_.Client.Out.Ask.File, .val (.int .i64) x_.Client.Out.Ask.Mode, .nils], .val (.int .i64) x_.Client.Out.First, .val (.int .i64) x_.Client.Out.Last], .val (.int .i64) x_.Client.Bad, .val (.int .i64) x_.Client.Hits, .val (.int .i64) x_.Client.Asks], .nils]), .arr .fix (.named 1) x_.Client.Files, .arr .live .str x_.Client.Names])) name n (N.Tclient_work.mk (N.TClient.mk w_Client_ID w_Client_Now w_Client_Epoch w_Client_Seq a1_ a2_ (N.TOut.mk w_Client_Out_Is (N.TAsk.mk w_Client_Out_Ask_Kind w_Client_Out_Ask_From w_Client_Out_Ask_Epoch w_Client_Out_Ask_Seq w_Client_Out_Ask_Name w_Client_Out_Ask_File w_Client_Out_Ask_Mode []) w_Client_Out_First w_Client_Out_Last) w_Client_Bad w_Client_Hits w_Client_Asks) []) := by kernel_rfl
noncomputable def i43 : Ins E (Res E.T × St E.T) := ⟨[.ptr 0 [], .v .str, .v (.int .i64)], [.box false (.agg 8 [.agg 4 [.v (.int .i64), .v (.int .i64), .v (.int .i64), .v (.int .i64), .own 1, .own 2, .agg 3 [.v .bool, .agg 2 [.v (.int .i64), .v (.int .i64), .v (.int .i64), .v (.int .i64), .v .str, .v (.int .i64), .v (.int .i64), .nils], .v (.int .i64), .v (.int .i64)], .v (.int .i64), .v (.int .i64), .v (.int .i64)], .nils]), .arr .fix (.named 1), .arr .live .str], fun name n w_Client_ID w_Client_Now w_Client_Epoch w_Client_Seq w_Client_Out_Is w_Client_Out_Ask_Kind w_Client_Out_Ask_From w_Client_Out_Ask_Epoch w_Client_Out_Ask_Seq w_Client_Out_Ask_Name w_Client_Out_Ask_File w_Client_Out_Ask_Mode w_Client_Out_First w_Client_Out_Last w_Client_Bad w_Client_Hits w_Client_Asks a1_ a2_ => .opt (N.client_work_named N.fuel name n (N.Tclient_work.mk (N.TClient.mk w_Client_ID w_Client_Now w_Client_Epoch w_Client_Seq a1_ a2_ (N.TOut.mk w_Client_Out_Is (N.TAsk.mk w_Client_Out_Ask_Kind w_Client_Out_Ask_From w_Client_Out_Ask_Epoch w_Client_Out_Ask_Seq w_Client_Out_Ask_Name w_Client_Out_Ask_File w_Client_Out_Ask_Mode []) w_Client_Out_First w_Client_Out_Last) w_Client_Bad w_Client_Hits w_Client_Asks) [])) fun x_ => .ret (.ret [], [.box false (.agg 8 [.agg 4 [.val (.int .i64) x_.Client.ID, .val (.int .i64) x_.Client.Now, .val (.int .i64) x_.Client.Epoch, .val (.int .i64) x_.Client.Seq, .own 1, .own 2, .agg 3 [.val .bool x_.Client.Out.Is, .agg 2 [.val (.int .i64) x_.Client.Out.Ask.Kind, .val (.int .i64) x_.Client.Out.Ask.From, .val (.int .i64) x_.Client.Out.Ask.Epoch, .val (.int .i64) x_.Client.Out.Ask.Seq, .val .str x_.Client.Out.Ask.Name, .val (.int .i64) x_.Client.Out.Ask.File, .val (.int .i64) x_.Client.Out.Ask.Mode, .nils], .val (.int .i64) x_.Client.Out.First, .val (.int .i64) x_.Client.Out.Last], .val (.int .i64) x_.Client.Bad, .val (.int .i64) x_.Client.Hits, .val (.int .i64) x_.Client.Asks], .nils]), .arr .fix (.named 1) x_.Client.Files, .arr .live .str x_.Client.Names])⟩
theorem i43_ok : InsOk Try.prog 43 i43 := ⟨B43, B43_ok, by intro name n w_Client_ID w_Client_Now w_Client_Epoch w_Client_Seq w_Client_Out_Is w_Client_Out_Ask_Kind w_Client_Out_Ask_From w_Client_Out_Ask_Epoch w_Client_Out_Ask_Seq w_Client_Out_Ask_Name w_Client_Out_Ask_File w_Client_Out_Ask_Mode w_Client_Out_First w_Client_Out_Last w_Client_Bad w_Client_Hits w_Client_Asks a1_ a2_ out_ h_; exact ((F43 name n w_Client_ID w_Client_Now w_Client_Epoch w_Client_Seq w_Client_Out_Is w_Client_Out_Ask_Kind w_Client_Out_Ask_From w_Client_Out_Ask_Epoch w_Client_Out_Ask_Seq w_Client_Out_Ask_Name w_Client_Out_Ask_File w_Client_Out_Ask_Mode w_Client_Out_First w_Client_Out_Last w_Client_Bad w_Client_Hits w_Client_Asks a1_ a2_).trans (N.client_work_named_bind N.fuel _ name n (N.Tclient_work.mk (N.TClient.mk w_Client_ID w_Client_Now w_Client_Epoch w_Client_Seq a1_ a2_ (N.TOut.mk w_Client_Out_Is (N.TAsk.mk w_Client_Out_Ask_Kind w_Client_Out_Ask_From w_Client_Out_Ask_Epoch w_Client_Out_Ask_Seq w_Client_Out_Ask_Name w_Client_Out_Ask_File w_Client_Out_Ask_Mode []) w_Client_Out_First w_Client_Out_Last) w_Client_Bad w_Client_Hits w_Client_Asks) []))).trans h_⟩
noncomputable def S43a : List (Nat × D.Spec E) := []
theorem S43a_ok : AllS Try.prog E S43a := trivial
abbrev h43a_s0 (name : List UInt8) (n : Int) (t25 : Int) (t26 : Int) (w : N.Tclient_work) : Fr E.T := ofSlots E 51 [] [0, 1, 2, 24, 25, 26] [.ptr 0 [], .val .str name, .val (.int .i64) n, .own 2, .val (.int .i64) t25, .val (.int .i64) t26]
abbrev t43a_s0 (name : List UInt8) (n : Int) (t25 : Int) (t26 : Int) (w : N.Tclient_work) : St E.T := [.box false (.agg 8 [.agg 4 [.val (.int .i64) w.Client.ID, .val (.int .i64) w.Client.Now, .val (.int .i64) w.Client.Epoch, .val (.int .i64) w.Client.Seq, .own 1, .own 2, .agg 3 [.val .bool w.Client.Out.Is, .agg 2 [.val (.int .i64) w.Client.Out.Ask.Kind, .val (.int .i64) w.Client.Out.Ask.From, .val (.int .i64) w.Client.Out.Ask.Epoch, .val (.int .i64) w.Client.Out.Ask.Seq, .val .str w.Client.Out.Ask.Name, .val (.int .i64) w.Client.Out.Ask.File, .val (.int .i64) w.Client.Out.Ask.Mode, .nils], .val (.int .i64) w.Client.Out.First, .val (.int .i64) w.Client.Out.Last], .val (.int .i64) w.Client.Bad, .val (.int .i64) w.Client.Hits, .val (.int .i64) w.Client.Asks], .nils]), .arr .live (.named 1) w.Client.Files, .arr .live .str w.Client.Names]
def x43a_s0 (name : List UInt8) (n : Int) (t25 : Int) (x_ : N.Tclient_work) : Tree (CodeOut E) := .ret (.exit 0, ofSlots E 51 [] [0, 1, 2] [.ptr 0 [], .val .str name, .val (.int .i64) n], [.box false (.agg 8 [.agg 4 [.val (.int .i64) x_.Client.ID, .val (.int .i64) x_.Client.Now, .val (.int .i64) x_.Client.Epoch, .val (.int .i64) x_.Client.Seq, .own 1, .own 2, .agg 3 [.val .bool x_.Client.Out.Is, .agg 2 [.val (.int .i64) x_.Client.Out.Ask.Kind, .val (.int .i64) x_.Client.Out.Ask.From, .val (.int .i64) x_.Client.Out.Ask.Epoch, .val (.int .i64) x_.Client.Out.Ask.Seq, .val .str x_.Client.Out.Ask.Name, .val (.int .i64) x_.Client.Out.Ask.File, .val (.int .i64) x_.Client.Out.Ask.Mode, .nils], .val (.int .i64) x_.Client.Out.First, .val (.int .i64) x_.Client.Out.Last], .val (.int .i64) x_.Client.Bad, .val (.int .i64) x_.Client.Hits, .val (.int .i64) x_.Client.Asks], .nils]), .arr .live (.named 1) x_.Client.Files, .arr .live .str x_.Client.Names])
noncomputable def g43a_s0 : Ins E (CodeOut E) := ⟨[.ptr 0 [], .v .str, .v (.int .i64), .own 2, .v (.int .i64), .v (.int .i64)], [.box false (.agg 8 [.agg 4 [.v (.int .i64), .v (.int .i64), .v (.int .i64), .v (.int .i64), .own 1, .own 2, .agg 3 [.v .bool, .agg 2 [.v (.int .i64), .v (.int .i64), .v (.int .i64), .v (.int .i64), .v .str, .v (.int .i64), .v (.int .i64), .nils], .v (.int .i64), .v (.int .i64)], .v (.int .i64), .v (.int .i64), .v (.int .i64)], .nils]), .arr .live (.named 1), .arr .live .str], fun name n t25 t26 w_Client_ID w_Client_Now w_Client_Epoch w_Client_Seq w_Client_Out_Is w_Client_Out_Ask_Kind w_Client_Out_Ask_From w_Client_Out_Ask_Epoch w_Client_Out_Ask_Seq w_Client_Out_Ask_Name w_Client_Out_Ask_File w_Client_Out_Ask_Mode w_Client_Out_First w_Client_Out_Last w_Client_Bad w_Client_Hits w_Client_Asks a1_ a2_ => .opt (N.client_work_named_2_l0 N.fuel name n t25 t26 (N.Tclient_work.mk (N.TClient.mk w_Client_ID w_Client_Now w_Client_Epoch w_Client_Seq a1_ a2_ (N.TOut.mk w_Client_Out_Is (N.TAsk.mk w_Client_Out_Ask_Kind w_Client_Out_Ask_From w_Client_Out_Ask_Epoch w_Client_Out_Ask_Seq w_Client_Out_Ask_Name w_Client_Out_Ask_File w_Client_Out_Ask_Mode []) w_Client_Out_First w_Client_Out_Last) w_Client_Bad w_Client_Hits w_Client_Asks) [])) (x43a_s0 name n t25)⟩
noncomputable def L43a : Nat → LoopInfo E := clL E 51 [{ ks := [0, 1, 2, 24, 25, 26], mvs := [], pro := [], d := [], g := some (insF [g43a_s0]) }] []
theorem f43a_s0 (name : List UInt8) (n : Int) (t25 : Int) (t26 : Int) (w : N.Tclient_work) : ((stepOf E S43a L43a 0 0 Try.f43 (h43a_s0 name n t25 t26 w) (t43a_s0 name n t25 t26 w)).bind (nx E [0, 1, 2, 24, 25, 26] [] [0, 1, 2] 3)).get = N.client_work_named_2_s0k name n t25 (fun v_ => some (.inl (h43a_s0 name n t25 v_.1 v_.2, t43a_s0 name n t25 v_.1 v_.2))) (fun x_ => some (.inr (.exit 0, ofSlots E 51 [] [0, 1, 2] [.ptr 0 [], .val .str name, .val (.int .i64) n], [.box false (.agg 8 [.agg 4 [.val (.int .i64) x_.Client.ID, .val (.int .i64) x_.Client.Now, .val (.int .i64) x_.Client.Epoch, .val (.int .i64) x_.Client.Seq, .own 1, .own 2, .agg 3 [.val .bool x_.Client.Out.Is, .agg 2 [.val (.int .i64) x_.Client.Out.Ask.Kind, .val (.int .i64) x_.Client.Out.Ask.From, .val (.int .i64) x_.Client.Out.Ask.Epoch, .val (.int .i64) x_.Client.Out.Ask.Seq, .val .str x_.Client.Out.Ask.Name, .val (.int .i64) x_.Client.Out.Ask.File, .val (.int .i64) x_.Client.Out.Ask.Mode, .nils], .val (.int .i64) x_.Client.Out.First, .val (.int .i64) x_.Client.Out.Last], .val (.int .i64) x_.Client.Bad, .val (.int .i64) x_.Client.Hits, .val (.int .i64) x_.Client.Asks], .nils]), .arr .live (.named 1) x_.Client.Files, .arr .live .str x_.Client.Names]))) t26 w := by kernel_rfl
theorem q43a_s0 : InsLp 51 [0, 1, 2, 24, 25, 26] [] [] (stepOf E S43a L43a 0 0 Try.f43) g43a_s0 := by
  intro name n t25 t26 w_Client_ID w_Client_Now w_Client_Epoch w_Client_Seq w_Client_Out_Is w_Client_Out_Ask_Kind w_Client_Out_Ask_From w_Client_Out_Ask_Epoch w_Client_Out_Ask_Seq w_Client_Out_Ask_Name w_Client_Out_Ask_File w_Client_Out_Ask_Mode w_Client_Out_First w_Client_Out_Last w_Client_Bad w_Client_Hits w_Client_Asks a1_ a2_ out_ ho_
  obtain ⟨x_, h1_, h2_⟩ := Option.bind_eq_some_iff.1 ho_
  refine iter_loop (rs := [0, 1, 2]) (step := N.client_work_named_2_s0 name n t25) (hd := fun v_ => h43a_s0 name n t25 v_.1 v_.2) (sv := fun v_ => t43a_s0 name n t25 v_.1 v_.2) (ex := x43a_s0 name n t25) (fun v_ => ?_) N.fuel (t26, (N.Tclient_work.mk (N.TClient.mk w_Client_ID w_Client_Now w_Client_Epoch w_Client_Seq a1_ a2_ (N.TOut.mk w_Client_Out_Is (N.TAsk.mk w_Client_Out_Ask_Kind w_Client_Out_Ask_From w_Client_Out_Ask_Epoch w_Client_Out_Ask_Seq w_Client_Out_Ask_Name w_Client_Out_Ask_File w_Client_Out_Ask_Mode []) w_Client_Out_First w_Client_Out_Last) w_Client_Bad w_Client_Hits w_Client_Asks) [])) h1_ h2_
  refine (f43a_s0 name n t25 v_.1 v_.2).trans ((N.client_work_named_2_s0_bind name n t25 _ _ v_.1 v_.2).trans ?_)
  refine congrArg _ (funext fun s_ => ?_)
  rcases s_ with v_ | a <;> rfl
noncomputable def B43a : List (DVal E.T) → St E.T → Tree (Res E.T × St E.T) := tidyF (dbody E (lookS S43a) (lookD []) L43a 0 false Try.f43)
theorem B43a_ok : FnOk Try.prog E 43 B43a := tidy_fn ok (bodyC_ok sound mix S43a_ok (SD := []) trivial (L := L43a) (N := 0) (keep := false) Try.func43 rfl (by
  intro k g hg fr st out ho
  match k, hg with
  | 0, hg => cases hg; exact lp_ok (allLp_cons q43a_s0 (allLp_nil)) fr st out ho
  | _ + 1, hg => cases hg))
theorem F43a (name : List UInt8) (n : Int) (w_Client_ID : Int) (w_Client_Now : Int) (w_Client_Epoch : Int) (w_Client_Seq : Int) (w_Client_Out_Is : Bool) (w_Client_Out_Ask_Kind : Int) (w_Client_Out_Ask_From : Int) (w_Client_Out_Ask_Epoch : Int) (w_Client_Out_Ask_Seq : Int) (w_Client_Out_Ask_Name : List UInt8) (w_Client_Out_Ask_File : Int) (w_Client_Out_Ask_Mode : Int) (w_Client_Out_First : Int) (w_Client_Out_Last : Int) (w_Client_Bad : Int) (w_Client_Hits : Int) (w_Client_Asks : Int) (a1_ : List N.TCache) (a2_ : List (List UInt8)) : (B43a [.ptr 0 [], .val .str name, .val (.int .i64) n] [.box false (.agg 8 [.agg 4 [.val (.int .i64) w_Client_ID, .val (.int .i64) w_Client_Now, .val (.int .i64) w_Client_Epoch, .val (.int .i64) w_Client_Seq, .own 1, .own 2, .agg 3 [.val .bool w_Client_Out_Is, .agg 2 [.val (.int .i64) w_Client_Out_Ask_Kind, .val (.int .i64) w_Client_Out_Ask_From, .val (.int .i64) w_Client_Out_Ask_Epoch, .val (.int .i64) w_Client_Out_Ask_Seq, .val .str w_Client_Out_Ask_Name, .val (.int .i64) w_Client_Out_Ask_File, .val (.int .i64) w_Client_Out_Ask_Mode, .nils], .val (.int .i64) w_Client_Out_First, .val (.int .i64) w_Client_Out_Last], .val (.int .i64) w_Client_Bad, .val (.int .i64) w_Client_Hits, .val (.int .i64) w_Client_Asks], .nils]), .arr .live (.named 1) a1_, .arr .live .str a2_]).get = N.client_work_named_2_k N.fuel (fun x_ => some (.ret [], [.box false (.agg 8 [.agg 4 [.val (.int .i64) x_.Client.ID, .val (.int .i64) x_.Client.Now, .val (.int .i64) x_.Client.Epoch, .val (.int .i64) x_.Client.Seq, .own 1, .own 2, .agg 3 [.val .bool x_.Client.Out.Is, .agg 2 [.val (.int .i64) x_.Client.Out.Ask.Kind, .val (.int .i64) x_.Client.Out.Ask.From, .val (.int .i64) x_.Client.Out.Ask.Epoch, .val (.int .i64) x_.Client.Out.Ask.Seq, .val .str x_.Client.Out.Ask.Name, .val (.int .i64) x_.Client.Out.Ask.File, .val (.int .i64) x_.Client.Out.Ask.Mode, .nils], .val (.int .i64) x_.Client.Out.First, .val (.int .i64) x_.Client.Out.Last], .val (.int .i64) x_.Client.Bad, .val (.int .i64) x_.Client.Hits, .val (.int .i64) x_.Client.Asks], .nils]), .arr .live (.named 1) x_.Client.Files, .arr .live .str x_.Client.Names])) name n (N.Tclient_work.mk (N.TClient.mk w_Client_ID w_Client_Now w_Client_Epoch w_Client_Seq a1_ a2_ (N.TOut.mk w_Client_Out_Is (N.TAsk.mk w_Client_Out_Ask_Kind w_Client_Out_Ask_From w_Client_Out_Ask_Epoch w_Client_Out_Ask_Seq w_Client_Out_Ask_Name w_Client_Out_Ask_File w_Client_Out_Ask_Mode []) w_Client_Out_First w_Client_Out_Last) w_Client_Bad w_Client_Hits w_Client_Asks) []) := by kernel_rfl
noncomputable def i43a : Ins E (Res E.T × St E.T) := ⟨[.ptr 0 [], .v .str, .v (.int .i64)], [.box false (.agg 8 [.agg 4 [.v (.int .i64), .v (.int .i64), .v (.int .i64), .v (.int .i64), .own 1, .own 2, .agg 3 [.v .bool, .agg 2 [.v (.int .i64), .v (.int .i64), .v (.int .i64), .v (.int .i64), .v .str, .v (.int .i64), .v (.int .i64), .nils], .v (.int .i64), .v (.int .i64)], .v (.int .i64), .v (.int .i64), .v (.int .i64)], .nils]), .arr .live (.named 1), .arr .live .str], fun name n w_Client_ID w_Client_Now w_Client_Epoch w_Client_Seq w_Client_Out_Is w_Client_Out_Ask_Kind w_Client_Out_Ask_From w_Client_Out_Ask_Epoch w_Client_Out_Ask_Seq w_Client_Out_Ask_Name w_Client_Out_Ask_File w_Client_Out_Ask_Mode w_Client_Out_First w_Client_Out_Last w_Client_Bad w_Client_Hits w_Client_Asks a1_ a2_ => .opt (N.client_work_named_2 N.fuel name n (N.Tclient_work.mk (N.TClient.mk w_Client_ID w_Client_Now w_Client_Epoch w_Client_Seq a1_ a2_ (N.TOut.mk w_Client_Out_Is (N.TAsk.mk w_Client_Out_Ask_Kind w_Client_Out_Ask_From w_Client_Out_Ask_Epoch w_Client_Out_Ask_Seq w_Client_Out_Ask_Name w_Client_Out_Ask_File w_Client_Out_Ask_Mode []) w_Client_Out_First w_Client_Out_Last) w_Client_Bad w_Client_Hits w_Client_Asks) [])) fun x_ => .ret (.ret [], [.box false (.agg 8 [.agg 4 [.val (.int .i64) x_.Client.ID, .val (.int .i64) x_.Client.Now, .val (.int .i64) x_.Client.Epoch, .val (.int .i64) x_.Client.Seq, .own 1, .own 2, .agg 3 [.val .bool x_.Client.Out.Is, .agg 2 [.val (.int .i64) x_.Client.Out.Ask.Kind, .val (.int .i64) x_.Client.Out.Ask.From, .val (.int .i64) x_.Client.Out.Ask.Epoch, .val (.int .i64) x_.Client.Out.Ask.Seq, .val .str x_.Client.Out.Ask.Name, .val (.int .i64) x_.Client.Out.Ask.File, .val (.int .i64) x_.Client.Out.Ask.Mode, .nils], .val (.int .i64) x_.Client.Out.First, .val (.int .i64) x_.Client.Out.Last], .val (.int .i64) x_.Client.Bad, .val (.int .i64) x_.Client.Hits, .val (.int .i64) x_.Client.Asks], .nils]), .arr .live (.named 1) x_.Client.Files, .arr .live .str x_.Client.Names])⟩
theorem i43a_ok : InsOk Try.prog 43 i43a := ⟨B43a, B43a_ok, by intro name n w_Client_ID w_Client_Now w_Client_Epoch w_Client_Seq w_Client_Out_Is w_Client_Out_Ask_Kind w_Client_Out_Ask_From w_Client_Out_Ask_Epoch w_Client_Out_Ask_Seq w_Client_Out_Ask_Name w_Client_Out_Ask_File w_Client_Out_Ask_Mode w_Client_Out_First w_Client_Out_Last w_Client_Bad w_Client_Hits w_Client_Asks a1_ a2_ out_ h_; exact ((F43a name n w_Client_ID w_Client_Now w_Client_Epoch w_Client_Seq w_Client_Out_Is w_Client_Out_Ask_Kind w_Client_Out_Ask_From w_Client_Out_Ask_Epoch w_Client_Out_Ask_Seq w_Client_Out_Ask_Name w_Client_Out_Ask_File w_Client_Out_Ask_Mode w_Client_Out_First w_Client_Out_Last w_Client_Bad w_Client_Hits w_Client_Asks a1_ a2_).trans (N.client_work_named_2_bind N.fuel _ name n (N.Tclient_work.mk (N.TClient.mk w_Client_ID w_Client_Now w_Client_Epoch w_Client_Seq a1_ a2_ (N.TOut.mk w_Client_Out_Is (N.TAsk.mk w_Client_Out_Ask_Kind w_Client_Out_Ask_From w_Client_Out_Ask_Epoch w_Client_Out_Ask_Seq w_Client_Out_Ask_Name w_Client_Out_Ask_File w_Client_Out_Ask_Mode []) w_Client_Out_First w_Client_Out_Last) w_Client_Bad w_Client_Hits w_Client_Asks) []))).trans h_⟩
noncomputable def P43 : Nat × D.Spec E := (43, .full [.ptr, .data .str, .data (.int .i64)] false (fullF [i43, i43a]))
theorem p43 : SpecOk Try.prog E P43.1 P43.2 := fullI_ok ok Try.call43 ⟨i43_ok, i43a_ok, trivial⟩

/-! tenancy/clock.within -/
noncomputable def S72 : List (Nat × D.Spec E) := []
theorem S72_ok : AllS Try.prog E S72 := trivial
noncomputable def L72 : Nat → LoopInfo E := clL E 13 [] []
noncomputable def B72 : List (DVal E.T) → St E.T → Tree (Res E.T × St E.T) := dbody E (lookS S72) (lookD []) L72 0 false Try.f72
theorem B72_ok : FnOk Try.prog E 72 B72 := bodyC_ok sound mix S72_ok (SD := []) trivial (L := L72) (N := 0) (keep := false) Try.func72 rfl (by
  intro k g hg fr st out ho
  match k, hg with
  | _, hg => cases hg)
theorem F72 (v : Int) (most : Int) : (B72 [.val (.int .i64) v, .val (.int .i64) most] []).get = N.clock_within_k (fun x_ => some (.ret [], [])) (fun x_ => some (.panic (.ifc 130 (.val (.named 10) N.TNil0.mk)), [])) v most := by kernel_rfl
noncomputable def i72 : Ins E (Res E.T × St E.T) := ⟨[.v (.int .i64), .v (.int .i64)], [], fun v most => .opt (N.clock_within v most) fun x_ => altT x_ (fun u0_ => .ret (.ret [], [])) (fun w0_ => .ret (.panic (.ifc 130 (.val (.named 10) N.TNil0.mk)), []))⟩
theorem i72_ok : InsOk Try.prog 72 i72 := ⟨B72, B72_ok, by intro v most out_ h_; exact ((F72 v most).trans (N.clock_within_bind _ _ v most)).trans h_⟩
noncomputable def P72 : Nat × D.Spec E := (72, .pure [(.int .i64), (.int .i64)] (pureF [i72]))
theorem p72 : SpecOk Try.prog E P72.1 P72.2 := pureI_ok Try.call72 ⟨i72_ok, trivial⟩

/-! tenancy/clock.told -/
noncomputable def S71 : List (Nat × D.Spec E) := []
theorem S71_ok : AllS Try.prog E S71 := trivial
noncomputable def L71 : Nat → LoopInfo E := clL E 18 [] []
noncomputable def B71 : DSpec E := dbodyD E (lookS S71) L71 0 Try.f71
theorem p71 : DSpecOk Try.prog E 71 B71 := dfullD_ok sound mix S71_ok (L := L71) (fun _ => rfl) Try.call71 Try.func71 rfl

/-! tenancy/clock.Short -/
noncomputable def S45 : List (Nat × D.Spec E) := [P72]
theorem S45_ok : AllS Try.prog E S45 := ⟨p72, trivial⟩
noncomputable def D45 : List (Nat × DSpec E) := [(71, B71)]
theorem D45_ok : AllD Try.prog E D45 := ⟨p71, trivial⟩
noncomputable def L45 : Nat → LoopInfo E := clL E 16 [] []
noncomputable def B45 : List (DVal E.T) → St E.T → Tree (Res E.T × St E.T) := dbody E (lookS S45) (lookD D45) L45 0 false Try.f45
theorem B45_ok : FnOk Try.prog E 45 B45 := bodyC_ok sound mix S45_ok (SD := D45) D45_ok (L := L45) (N := 0) (keep := false) Try.func45 rfl (by
  intro k g hg fr st out ho
  match k, hg with
  | _, hg => cases hg)
theorem F45 (term : Int) (eps : Int) : (B45 [.val (.int .i64) term, .val (.int .i64) eps] []).get = N.clock_Short_k (fun x_ => some (.ret [.val (.int .i64) x_], [])) term eps := by kernel_rfl
noncomputable def i45 : Ins E (Res E.T × St E.T) := ⟨[.v (.int .i64), .v (.int .i64)], [], fun term eps => .opt (N.clock_Short term eps) fun x_ => .ret (.ret [.val (.int .i64) x_], [])⟩
theorem i45_ok : InsOk Try.prog 45 i45 := ⟨B45, B45_ok, by intro term eps out_ h_; exact ((F45 term eps).trans (N.clock_Short_bind _ term eps)).trans h_⟩
noncomputable def P45 : Nat × D.Spec E := (45, .pure [(.int .i64), (.int .i64)] (pureF [i45]))
theorem p45 : SpecOk Try.prog E P45.1 P45.2 := pureI_ok Try.call45 ⟨i45_ok, trivial⟩

/-! tenancy/clock.Add -/
noncomputable def S44 : List (Nat × D.Spec E) := []
theorem S44_ok : AllS Try.prog E S44 := trivial
noncomputable def L44 : Nat → LoopInfo E := clL E 16 [] []
noncomputable def B44 : List (DVal E.T) → St E.T → Tree (Res E.T × St E.T) := dbody E (lookS S44) (lookD []) L44 0 false Try.f44
theorem B44_ok : FnOk Try.prog E 44 B44 := bodyC_ok sound mix S44_ok (SD := []) trivial (L := L44) (N := 0) (keep := false) Try.func44 rfl (by
  intro k g hg fr st out ho
  match k, hg with
  | _, hg => cases hg)
theorem F44 (a : Int) (b : Int) : (B44 [.val (.int .i64) a, .val (.int .i64) b] []).get = N.clock_Add_k (fun x_ => some (.ret [.val (.int .i64) x_], [])) a b := by kernel_rfl
noncomputable def i44 : Ins E (Res E.T × St E.T) := ⟨[.v (.int .i64), .v (.int .i64)], [], fun a b => .ret (.ret [.val (.int .i64) (N.clock_Add a b)], [])⟩
theorem i44_ok : InsOk Try.prog 44 i44 := ⟨B44, B44_ok, by intro a b out_ h_; exact ((F44 a b).trans (N.clock_Add_bind _ a b)).trans h_⟩
noncomputable def P44 : Nat × D.Spec E := (44, .pure [(.int .i64), (.int .i64)] (pureF [i44]))
theorem p44 : SpecOk Try.prog E P44.1 P44.2 := pureI_ok Try.call44 ⟨i44_ok, trivial⟩

/-! tenancy/cache.Let -/
noncomputable def S46 : List (Nat × D.Spec E) := [P54]
theorem S46_ok : AllS Try.prog E S46 := ⟨p54, trivial⟩
noncomputable def L46 : Nat → LoopInfo E := clL E 23 [] []
noncomputable def B46 : List (DVal E.T) → St E.T → Tree (Res E.T × St E.T) := dbody E (lookS S46) (lookD []) L46 0 false Try.f46
theorem B46_ok : FnOk Try.prog E 46 B46 := bodyC_ok sound mix S46_ok (SD := []) trivial (L := L46) (N := 0) (keep := false) Try.func46 rfl (by
  intro k g hg fr st out ho
  match k, hg with
  | _, hg => cases hg)
theorem F46 (c : N.TCache) (mode : Int) (until_ : Int) (ver : Int) (body : List UInt8) : (B46 [.val (.named 1) c, .val (.int .i64) mode, .val (.int .i64) until_, .val (.int .i64) ver, .val .str body] []).get = N.cache_Let_k (fun x_ => some (.ret [.val (.named 1) x_], [])) c mode until_ ver body := by kernel_rfl
noncomputable def i46 : Ins E (Res E.T × St E.T) := ⟨[.v (.named 1), .v (.int .i64), .v (.int .i64), .v (.int .i64), .v .str], [], fun c mode until_ ver body => .ret (.ret [.val (.named 1) (N.cache_Let c mode until_ ver body)], [])⟩
theorem i46_ok : InsOk Try.prog 46 i46 := ⟨B46, B46_ok, by intro c mode until_ ver body out_ h_; exact ((F46 c mode until_ ver body).trans (N.cache_Let_bind _ c mode until_ ver body)).trans h_⟩
noncomputable def P46 : Nat × D.Spec E := (46, .pure [(.named 1), (.int .i64), (.int .i64), (.int .i64), .str] (pureF [i46]))
theorem p46 : SpecOk Try.prog E P46.1 P46.2 := pureI_ok Try.call46 ⟨i46_ok, trivial⟩

/-! tenancy/cache.Done -/
noncomputable def S47 : List (Nat × D.Spec E) := [P52, P54, P73]
theorem S47_ok : AllS Try.prog E S47 := ⟨p52, p54, p73, trivial⟩
noncomputable def L47 : Nat → LoopInfo E := clL E 37 [] []
noncomputable def B47 : List (DVal E.T) → St E.T → Tree (Res E.T × St E.T) := dbody E (lookS S47) (lookD []) L47 0 false Try.f47
theorem B47_ok : FnOk Try.prog E 47 B47 := bodyC_ok sound mix S47_ok (SD := []) trivial (L := L47) (N := 0) (keep := false) Try.func47 rfl (by
  intro k g hg fr st out ho
  match k, hg with
  | _, hg => cases hg)
theorem F47 (c : N.TCache) (ver : Int) : (B47 [.val (.named 1) c, .val (.int .i64) ver] []).get = N.cache_Done_k N.fuel (fun x_ => some (.ret [.val (.named 1) x_], [])) c ver := by kernel_rfl
noncomputable def i47 : Ins E (Res E.T × St E.T) := ⟨[.v (.named 1), .v (.int .i64)], [], fun c ver => .opt (N.cache_Done N.fuel c ver) fun x_ => .ret (.ret [.val (.named 1) x_], [])⟩
theorem i47_ok : InsOk Try.prog 47 i47 := ⟨B47, B47_ok, by intro c ver out_ h_; exact ((F47 c ver).trans (N.cache_Done_bind N.fuel _ c ver)).trans h_⟩
noncomputable def P47 : Nat × D.Spec E := (47, .pure [(.named 1), (.int .i64)] (pureF [i47]))
theorem p47 : SpecOk Try.prog E P47.1 P47.2 := pureI_ok Try.call47 ⟨i47_ok, trivial⟩

/-! (*tenancy/client.work).done -/
noncomputable def S18 : List (Nat × D.Spec E) := [P41, P42, P43, P44, P45, P46, P47]
theorem S18_ok : AllS Try.prog E S18 := ⟨p41, p42, p43, p44, p45, p46, p47, trivial⟩
noncomputable def L18 : Nat → LoopInfo E := clL E 144 [] []
noncomputable def B18 : List (DVal E.T) → St E.T → Tree (Res E.T × St E.T) := tidyF (dbody E (lookS S18) (lookD []) L18 0 false Try.f18)
theorem B18_ok : FnOk Try.prog E 18 B18 := tidy_fn ok (bodyC_ok sound mix S18_ok (SD := []) trivial (L := L18) (N := 0) (keep := false) Try.func18 rfl (by
  intro k g hg fr st out ho
  match k, hg with
  | _, hg => cases hg))
theorem F18 (t : N.TTell) (w_Client_ID : Int) (w_Client_Now : Int) (w_Client_Epoch : Int) (w_Client_Seq : Int) (w_Client_Out : N.TOut) (w_Client_Bad : Int) (w_Client_Hits : Int) (w_Client_Asks : Int) (a1_ : List N.TCache) (a2_ : List (List UInt8)) : (B18 [.ptr 0 [], .val (.named 7) t] [.box false (.agg 8 [.agg 4 [.val (.int .i64) w_Client_ID, .val (.int .i64) w_Client_Now, .val (.int .i64) w_Client_Epoch, .val (.int .i64) w_Client_Seq, .own 1, .own 2, .val (.named 3) w_Client_Out, .val (.int .i64) w_Client_Bad, .val (.int .i64) w_Client_Hits, .val (.int .i64) w_Client_Asks], .nils]), .arr .live (.named 1) a1_, .arr .live .str a2_]).get = N.client_work_done_k N.fuel (fun x_ => some (.ret [], [.box false (.agg 8 [.agg 4 [.val (.int .i64) x_.Client.ID, .val (.int .i64) x_.Client.Now, .val (.int .i64) x_.Client.Epoch, .val (.int .i64) x_.Client.Seq, .own 1, .own 2, .agg 3 [.val .bool x_.Client.Out.Is, .agg 2 [.val (.int .i64) x_.Client.Out.Ask.Kind, .val (.int .i64) x_.Client.Out.Ask.From, .val (.int .i64) x_.Client.Out.Ask.Epoch, .val (.int .i64) x_.Client.Out.Ask.Seq, .val .str x_.Client.Out.Ask.Name, .val (.int .i64) x_.Client.Out.Ask.File, .val (.int .i64) x_.Client.Out.Ask.Mode, .nils], .val (.int .i64) x_.Client.Out.First, .val (.int .i64) x_.Client.Out.Last], .val (.int .i64) x_.Client.Bad, .val (.int .i64) x_.Client.Hits, .val (.int .i64) x_.Client.Asks], .nils]), .arr .live (.named 1) x_.Client.Files, .arr .live .str x_.Client.Names])) (fun x_ => some (.ret [], [.box false (.agg 8 [.agg 4 [.val (.int .i64) x_.Client.ID, .val (.int .i64) x_.Client.Now, .val (.int .i64) x_.Client.Epoch, .val (.int .i64) x_.Client.Seq, .own 1, .own 2, .val (.named 3) x_.Client.Out, .val (.int .i64) x_.Client.Bad, .val (.int .i64) x_.Client.Hits, .val (.int .i64) x_.Client.Asks], .nils]), .arr .live (.named 1) x_.Client.Files, .arr .live .str x_.Client.Names])) t (N.Tclient_work.mk (N.TClient.mk w_Client_ID w_Client_Now w_Client_Epoch w_Client_Seq a1_ a2_ w_Client_Out w_Client_Bad w_Client_Hits w_Client_Asks) []) := by kernel_rfl
noncomputable def i18 : Ins E (Res E.T × St E.T) := ⟨[.ptr 0 [], .v (.named 7)], [.box false (.agg 8 [.agg 4 [.v (.int .i64), .v (.int .i64), .v (.int .i64), .v (.int .i64), .own 1, .own 2, .v (.named 3), .v (.int .i64), .v (.int .i64), .v (.int .i64)], .nils]), .arr .live (.named 1), .arr .live .str], fun t w_Client_ID w_Client_Now w_Client_Epoch w_Client_Seq w_Client_Out w_Client_Bad w_Client_Hits w_Client_Asks a1_ a2_ => .opt (N.client_work_done N.fuel t (N.Tclient_work.mk (N.TClient.mk w_Client_ID w_Client_Now w_Client_Epoch w_Client_Seq a1_ a2_ w_Client_Out w_Client_Bad w_Client_Hits w_Client_Asks) [])) fun x_ => altT x_ (fun u0_ => .ret (.ret [], [.box false (.agg 8 [.agg 4 [.val (.int .i64) u0_.Client.ID, .val (.int .i64) u0_.Client.Now, .val (.int .i64) u0_.Client.Epoch, .val (.int .i64) u0_.Client.Seq, .own 1, .own 2, .agg 3 [.val .bool u0_.Client.Out.Is, .agg 2 [.val (.int .i64) u0_.Client.Out.Ask.Kind, .val (.int .i64) u0_.Client.Out.Ask.From, .val (.int .i64) u0_.Client.Out.Ask.Epoch, .val (.int .i64) u0_.Client.Out.Ask.Seq, .val .str u0_.Client.Out.Ask.Name, .val (.int .i64) u0_.Client.Out.Ask.File, .val (.int .i64) u0_.Client.Out.Ask.Mode, .nils], .val (.int .i64) u0_.Client.Out.First, .val (.int .i64) u0_.Client.Out.Last], .val (.int .i64) u0_.Client.Bad, .val (.int .i64) u0_.Client.Hits, .val (.int .i64) u0_.Client.Asks], .nils]), .arr .live (.named 1) u0_.Client.Files, .arr .live .str u0_.Client.Names])) (fun w0_ => .ret (.ret [], [.box false (.agg 8 [.agg 4 [.val (.int .i64) w0_.Client.ID, .val (.int .i64) w0_.Client.Now, .val (.int .i64) w0_.Client.Epoch, .val (.int .i64) w0_.Client.Seq, .own 1, .own 2, .val (.named 3) w0_.Client.Out, .val (.int .i64) w0_.Client.Bad, .val (.int .i64) w0_.Client.Hits, .val (.int .i64) w0_.Client.Asks], .nils]), .arr .live (.named 1) w0_.Client.Files, .arr .live .str w0_.Client.Names]))⟩
theorem i18_ok : InsOk Try.prog 18 i18 := ⟨B18, B18_ok, by intro t w_Client_ID w_Client_Now w_Client_Epoch w_Client_Seq w_Client_Out w_Client_Bad w_Client_Hits w_Client_Asks a1_ a2_ out_ h_; exact ((F18 t w_Client_ID w_Client_Now w_Client_Epoch w_Client_Seq w_Client_Out w_Client_Bad w_Client_Hits w_Client_Asks a1_ a2_).trans (N.client_work_done_bind N.fuel _ _ t (N.Tclient_work.mk (N.TClient.mk w_Client_ID w_Client_Now w_Client_Epoch w_Client_Seq a1_ a2_ w_Client_Out w_Client_Bad w_Client_Hits w_Client_Asks) []))).trans h_⟩
noncomputable def P18 : Nat × D.Spec E := (18, .full [.ptr, .data (.named 7)] false (fullF [i18]))
theorem p18 : SpecOk Try.prog E P18.1 P18.2 := fullI_ok ok Try.call18 ⟨i18_ok, trivial⟩

/-! tenancy/client.Comes -/
noncomputable def S8 : List (Nat × D.Spec E) := [P13, P15, P16, P17, P18]
theorem S8_ok : AllS Try.prog E S8 := ⟨p13, p15, p16, p17, p18, trivial⟩
noncomputable def L8 : Nat → LoopInfo E := clL E 65 [] []
noncomputable def B8 : List (DVal E.T) → St E.T → Tree (Res E.T × St E.T) := dbody E (lookS S8) (lookD []) L8 0 false Try.f8
theorem B8_ok : FnOk Try.prog E 8 B8 := bodyC_ok sound mix S8_ok (SD := []) trivial (L := L8) (N := 0) (keep := false) Try.func8 rfl (by
  intro k g hg fr st out ho
  match k, hg with
  | _, hg => cases hg)
theorem F8 (c : N.TClient) (b : List UInt8) : (B8 [.val (.named 4) c, .val (.slice (.int .u8)) b] []).get = N.client_Comes_k N.fuel (fun x_ => some (.ret [.val (.named 4) x_.1, .val (.slice (.named 2)) x_.2], [])) c b := by kernel_rfl
noncomputable def i8 : Ins E (Res E.T × St E.T) := ⟨[.v (.named 4), .v (.slice (.int .u8))], [], fun c b => .opt (N.client_Comes N.fuel c b) fun x_ => .ret (.ret [.val (.named 4) x_.1, .val (.slice (.named 2)) x_.2], [])⟩
theorem i8_ok : InsOk Try.prog 8 i8 := ⟨B8, B8_ok, by intro c b out_ h_; exact ((F8 c b).trans (N.client_Comes_bind N.fuel _ c b)).trans h_⟩
noncomputable def P8 : Nat × D.Spec E := (8, .pure [(.named 4), (.slice (.int .u8))] (pureF [i8]))
theorem p8 : SpecOk Try.prog E P8.1 P8.2 := pureI_ok Try.call8 ⟨i8_ok, trivial⟩

/-! tenancy/sess.Due -/
noncomputable def S23 : List (Nat × D.Spec E) := []
theorem S23_ok : AllS Try.prog E S23 := trivial
noncomputable def L23 : Nat → LoopInfo E := clL E 14 [] []
noncomputable def B23 : List (DVal E.T) → St E.T → Tree (Res E.T × St E.T) := dbody E (lookS S23) (lookD []) L23 0 false Try.f23
theorem B23_ok : FnOk Try.prog E 23 B23 := bodyC_ok sound mix S23_ok (SD := []) trivial (L := L23) (N := 0) (keep := false) Try.func23 rfl (by
  intro k g hg fr st out ho
  match k, hg with
  | _, hg => cases hg)
theorem F23 (o : N.TOut) (now : Int) : (B23 [.val (.named 3) o, .val (.int .i64) now] []).get = N.sess_Due_k (fun x_ => some (.ret [.val .bool x_], [])) o now := by kernel_rfl
noncomputable def i23 : Ins E (Res E.T × St E.T) := ⟨[.v (.named 3), .v (.int .i64)], [], fun o now => .ret (.ret [.val .bool (N.sess_Due o now)], [])⟩
theorem i23_ok : InsOk Try.prog 23 i23 := ⟨B23, B23_ok, by intro o now out_ h_; exact ((F23 o now).trans (N.sess_Due_bind _ o now)).trans h_⟩
noncomputable def P23 : Nat × D.Spec E := (23, .pure [(.named 3), (.int .i64)] (pureF [i23]))
theorem p23 : SpecOk Try.prog E P23.1 P23.2 := pureI_ok Try.call23 ⟨i23_ok, trivial⟩

/-! tenancy/client.Run$1 -/
noncomputable def S26 : List (Nat × D.Spec E) := []
theorem S26_ok : AllS Try.prog E S26 := trivial
noncomputable def L26 : Nat → LoopInfo E := clL E 28 [] []
noncomputable def B26 : List (DVal E.T) → St E.T → Tree (Res E.T × St E.T) := dbody E (lookS S26) (lookD []) L26 0 false Try.f26
theorem B26_ok : FnOk Try.prog E 26 B26 := bodyC_ok sound mix S26_ok (SD := []) trivial (L := L26) (N := 0) (keep := false) Try.func26 rfl (by
  intro k g hg fr st out ho
  match k, hg with
  | _, hg => cases hg)
theorem F26 (f : N.TCache) (o1_Client_ID : Int) (o1_Client_Now : Int) (o1_Client_Epoch : Int) (o1_Client_Seq : Int) (o1_Client_Out : N.TOut) (o1_Client_Bad : Int) (o1_Client_Hits : Int) (o1_Client_Asks : Int) (a2_ : List N.TCache) (a3_ : List (List UInt8)) : (B26 [.val (.named 1) f, .ptr 0 []] [.box true (.ptr 1 []), .box true (.agg 8 [.agg 4 [.val (.int .i64) o1_Client_ID, .val (.int .i64) o1_Client_Now, .val (.int .i64) o1_Client_Epoch, .val (.int .i64) o1_Client_Seq, .own 2, .own 3, .val (.named 3) o1_Client_Out, .val (.int .i64) o1_Client_Bad, .val (.int .i64) o1_Client_Hits, .val (.int .i64) o1_Client_Asks], .nils]), .arr .froz (.named 1) a2_, .arr .froz .str a3_]).get = N.client_Run_c1_k (fun x_ => some (.ret [.val .bool x_], [.box true (.ptr 1 []), .box true (.agg 8 [.agg 4 [.val (.int .i64) o1_Client_ID, .val (.int .i64) o1_Client_Now, .val (.int .i64) o1_Client_Epoch, .val (.int .i64) o1_Client_Seq, .own 2, .own 3, .val (.named 3) o1_Client_Out, .val (.int .i64) o1_Client_Bad, .val (.int .i64) o1_Client_Hits, .val (.int .i64) o1_Client_Asks], .nils]), .arr .froz (.named 1) a2_, .arr .froz .str a3_])) f (N.Tclient_work.mk (N.TClient.mk o1_Client_ID o1_Client_Now o1_Client_Epoch o1_Client_Seq a2_ a3_ o1_Client_Out o1_Client_Bad o1_Client_Hits o1_Client_Asks) []) := by kernel_rfl
noncomputable def i26 : Ins E (Res E.T × St E.T) := ⟨[.v (.named 1), .ptr 0 []], [.box true (.ptr 1 []), .box true (.agg 8 [.agg 4 [.v (.int .i64), .v (.int .i64), .v (.int .i64), .v (.int .i64), .own 2, .own 3, .v (.named 3), .v (.int .i64), .v (.int .i64), .v (.int .i64)], .nils]), .arr .froz (.named 1), .arr .froz .str], fun f o1_Client_ID o1_Client_Now o1_Client_Epoch o1_Client_Seq o1_Client_Out o1_Client_Bad o1_Client_Hits o1_Client_Asks a2_ a3_ => .ret (.ret [.val .bool (N.client_Run_c1 f (N.Tclient_work.mk (N.TClient.mk o1_Client_ID o1_Client_Now o1_Client_Epoch o1_Client_Seq a2_ a3_ o1_Client_Out o1_Client_Bad o1_Client_Hits o1_Client_Asks) []))], [.box true (.ptr 1 []), .box true (.agg 8 [.agg 4 [.val (.int .i64) o1_Client_ID, .val (.int .i64) o1_Client_Now, .val (.int .i64) o1_Client_Epoch, .val (.int .i64) o1_Client_Seq, .own 2, .own 3, .val (.named 3) o1_Client_Out, .val (.int .i64) o1_Client_Bad, .val (.int .i64) o1_Client_Hits, .val (.int .i64) o1_Client_Asks], .nils]), .arr .froz (.named 1) a2_, .arr .froz .str a3_])⟩
theorem i26_ok : InsOk Try.prog 26 i26 := ⟨B26, B26_ok, by intro f o1_Client_ID o1_Client_Now o1_Client_Epoch o1_Client_Seq o1_Client_Out o1_Client_Bad o1_Client_Hits o1_Client_Asks a2_ a3_ out_ h_; exact ((F26 f o1_Client_ID o1_Client_Now o1_Client_Epoch o1_Client_Seq o1_Client_Out o1_Client_Bad o1_Client_Hits o1_Client_Asks a2_ a3_).trans (N.client_Run_c1_bind _ f (N.Tclient_work.mk (N.TClient.mk o1_Client_ID o1_Client_Now o1_Client_Epoch o1_Client_Seq a2_ a3_ o1_Client_Out o1_Client_Bad o1_Client_Hits o1_Client_Asks) []))).trans h_⟩
noncomputable def P26 : Nat × D.Spec E := (26, .full [.data (.named 1), .ptr] true (fullF [i26]))
theorem p26 : SpecOk Try.prog E P26.1 P26.2 := fullI_ok ok Try.call26 ⟨i26_ok, trivial⟩

/-! slices.IndexFunc[[]tenancy/api.Cache,tenancy/api.Cache] -/
noncomputable def S25 : List (Nat × D.Spec E) := [P26]
theorem S25_ok : AllS Try.prog E S25 := ⟨p26, trivial⟩
abbrev h25_s0 (s : List N.TCache) (t7 : Int) (t8 : Int) (o1 : N.Tclient_work) : Fr E.T := ofSlots E 19 [] [0, 1, 7, 8] [.val (.slice (.named 1)) s, .fn 26 [.ptr 0 []], .val (.int .i64) t7, .val (.int .i64) t8]
abbrev t25_s0 (s : List N.TCache) (t7 : Int) (t8 : Int) (o1 : N.Tclient_work) : St E.T := [.box true (.ptr 1 []), .box true (.agg 8 [.agg 4 [.val (.int .i64) o1.Client.ID, .val (.int .i64) o1.Client.Now, .val (.int .i64) o1.Client.Epoch, .val (.int .i64) o1.Client.Seq, .own 2, .own 3, .val (.named 3) o1.Client.Out, .val (.int .i64) o1.Client.Bad, .val (.int .i64) o1.Client.Hits, .val (.int .i64) o1.Client.Asks], .nils]), .arr .froz (.named 1) o1.Client.Files, .arr .froz .str o1.Client.Names]
def x25_s0 (s : List N.TCache) (t7 : Int) (x_ : (Int × N.Tclient_work) ⊕ N.Tclient_work) : Tree (CodeOut E) := altT x_ (fun u0_ => .ret (.ret, ofSlots E 19 [] [4] [.val (.int .i64) u0_.1], [.box true (.ptr 1 []), .box true (.agg 8 [.agg 4 [.val (.int .i64) u0_.2.Client.ID, .val (.int .i64) u0_.2.Client.Now, .val (.int .i64) u0_.2.Client.Epoch, .val (.int .i64) u0_.2.Client.Seq, .own 2, .own 3, .val (.named 3) u0_.2.Client.Out, .val (.int .i64) u0_.2.Client.Bad, .val (.int .i64) u0_.2.Client.Hits, .val (.int .i64) u0_.2.Client.Asks], .nils]), .arr .froz (.named 1) u0_.2.Client.Files, .arr .froz .str u0_.2.Client.Names])) (fun w0_ => .ret (.exit 0, ofSlots E 19 [] [4] [.undef], [.box true (.ptr 1 []), .box true (.agg 8 [.agg 4 [.val (.int .i64) w0_.Client.ID, .val (.int .i64) w0_.Client.Now, .val (.int .i64) w0_.Client.Epoch, .val (.int .i64) w0_.Client.Seq, .own 2, .own 3, .val (.named 3) w0_.Client.Out, .val (.int .i64) w0_.Client.Bad, .val (.int .i64) w0_.Client.Hits, .val (.int .i64) w0_.Client.Asks], .nils]), .arr .froz (.named 1) w0_.Client.Files, .arr .froz .str w0_.Client.Names]))
noncomputable def g25_s0 : Ins E (CodeOut E) := ⟨[.v (.slice (.named 1)), .fn 26 [.ptr 0 []], .v (.int .i64), .v (.int .i64)], [.box true (.ptr 1 []), .box true (.agg 8 [.agg 4 [.v (.int .i64), .v (.int .i64), .v (.int .i64), .v (.int .i64), .own 2, .own 3, .v (.named 3), .v (.int .i64), .v (.int .i64), .v (.int .i64)], .nils]), .arr .froz (.named 1), .arr .froz .str], fun s t7 t8 o1_Client_ID o1_Client_Now o1_Client_Epoch o1_Client_Seq o1_Client_Out o1_Client_Bad o1_Client_Hits o1_Client_Asks a2_ a3_ => .opt (N.slices_IndexFunc_Cache_l0 N.fuel s t7 t8 (N.Tclient_work.mk (N.TClient.mk o1_Client_ID o1_Client_Now o1_Client_Epoch o1_Client_Seq a2_ a3_ o1_Client_Out o1_Client_Bad o1_Client_Hits o1_Client_Asks) [])) (x25_s0 s t7)⟩
noncomputable def L25 : Nat → LoopInfo E := clL E 19 [{ ks := [0, 1, 7, 8], mvs := [], pro := [], d := [], g := some (insF [g25_s0]) }] []
theorem f25_s0 (s : List N.TCache) (t7 : Int) (t8 : Int) (o1 : N.Tclient_work) : ((stepOf E S25 L25 0 0 Try.f25 (h25_s0 s t7 t8 o1) (t25_s0 s t7 t8 o1)).bind (nx E [0, 1, 7, 8] [] [4] 4)).get = N.slices_IndexFunc_Cache_s0k s t7 (fun v_ => some (.inl (h25_s0 s t7 v_.1 v_.2, t25_s0 s t7 v_.1 v_.2))) (fun x_ => some (.inr (.ret, ofSlots E 19 [] [4] [.val (.int .i64) x_.1], [.box true (.ptr 1 []), .box true (.agg 8 [.agg 4 [.val (.int .i64) x_.2.Client.ID, .val (.int .i64) x_.2.Client.Now, .val (.int .i64) x_.2.Client.Epoch, .val (.int .i64) x_.2.Client.Seq, .own 2, .own 3, .val (.named 3) x_.2.Client.Out, .val (.int .i64) x_.2.Client.Bad, .val (.int .i64) x_.2.Client.Hits, .val (.int .i64) x_.2.Client.Asks], .nils]), .arr .froz (.named 1) x_.2.Client.Files, .arr .froz .str x_.2.Client.Names]))) (fun x_ => some (.inr (.exit 0, ofSlots E 19 [] [4] [.undef], [.box true (.ptr 1 []), .box true (.agg 8 [.agg 4 [.val (.int .i64) x_.Client.ID, .val (.int .i64) x_.Client.Now, .val (.int .i64) x_.Client.Epoch, .val (.int .i64) x_.Client.Seq, .own 2, .own 3, .val (.named 3) x_.Client.Out, .val (.int .i64) x_.Client.Bad, .val (.int .i64) x_.Client.Hits, .val (.int .i64) x_.Client.Asks], .nils]), .arr .froz (.named 1) x_.Client.Files, .arr .froz .str x_.Client.Names]))) t8 o1 := by kernel_rfl
theorem q25_s0 : InsLp 19 [0, 1, 7, 8] [] [] (stepOf E S25 L25 0 0 Try.f25) g25_s0 := by
  intro s t7 t8 o1_Client_ID o1_Client_Now o1_Client_Epoch o1_Client_Seq o1_Client_Out o1_Client_Bad o1_Client_Hits o1_Client_Asks a2_ a3_ out_ ho_
  obtain ⟨x_, h1_, h2_⟩ := Option.bind_eq_some_iff.1 ho_
  refine iter_loop (rs := [4]) (step := N.slices_IndexFunc_Cache_s0 s t7) (hd := fun v_ => h25_s0 s t7 v_.1 v_.2) (sv := fun v_ => t25_s0 s t7 v_.1 v_.2) (ex := x25_s0 s t7) (fun v_ => ?_) N.fuel (t8, (N.Tclient_work.mk (N.TClient.mk o1_Client_ID o1_Client_Now o1_Client_Epoch o1_Client_Seq a2_ a3_ o1_Client_Out o1_Client_Bad o1_Client_Hits o1_Client_Asks) [])) h1_ h2_
  refine (f25_s0 s t7 v_.1 v_.2).trans ((N.slices_IndexFunc_Cache_s0_bind s t7 _ _ _ v_.1 v_.2).trans ?_)
  refine congrArg _ (funext fun s_ => ?_)
  rcases s_ with v_ | a | a <;> rfl
noncomputable def B25 : List (DVal E.T) → St E.T → Tree (Res E.T × St E.T) := dbody E (lookS S25) (lookD []) L25 0 false Try.f25
theorem B25_ok : FnOk Try.prog E 25 B25 := bodyC_ok sound mix S25_ok (SD := []) trivial (L := L25) (N := 0) (keep := false) Try.func25 rfl (by
  intro k g hg fr st out ho
  match k, hg with
  | 0, hg => cases hg; exact lp_ok (allLp_cons q25_s0 (allLp_nil)) fr st out ho
  | _ + 1, hg => cases hg)
theorem F25 (s : List N.TCache) (o1_Client_ID : Int) (o1_Client_Now : Int) (o1_Client_Epoch : Int) (o1_Client_Seq : Int) (o1_Client_Out : N.TOut) (o1_Client_Bad : Int) (o1_Client_Hits : Int) (o1_Client_Asks : Int) (a2_ : List N.TCache) (a3_ : List (List UInt8)) : (B25 [.val (.slice (.named 1)) s, .fn 26 [.ptr 0 []]] [.box true (.ptr 1 []), .box true (.agg 8 [.agg 4 [.val (.int .i64) o1_Client_ID, .val (.int .i64) o1_Client_Now, .val (.int .i64) o1_Client_Epoch, .val (.int .i64) o1_Client_Seq, .own 2, .own 3, .val (.named 3) o1_Client_Out, .val (.int .i64) o1_Client_Bad, .val (.int .i64) o1_Client_Hits, .val (.int .i64) o1_Client_Asks], .nils]), .arr .froz (.named 1) a2_, .arr .froz .str a3_]).get = N.slices_IndexFunc_Cache_k N.fuel (fun x_ => some (.ret [.val (.int .i64) x_.1], [.box true (.ptr 1 []), .box true (.agg 8 [.agg 4 [.val (.int .i64) x_.2.Client.ID, .val (.int .i64) x_.2.Client.Now, .val (.int .i64) x_.2.Client.Epoch, .val (.int .i64) x_.2.Client.Seq, .own 2, .own 3, .val (.named 3) x_.2.Client.Out, .val (.int .i64) x_.2.Client.Bad, .val (.int .i64) x_.2.Client.Hits, .val (.int .i64) x_.2.Client.Asks], .nils]), .arr .froz (.named 1) x_.2.Client.Files, .arr .froz .str x_.2.Client.Names])) s (N.Tclient_work.mk (N.TClient.mk o1_Client_ID o1_Client_Now o1_Client_Epoch o1_Client_Seq a2_ a3_ o1_Client_Out o1_Client_Bad o1_Client_Hits o1_Client_Asks) []) := by kernel_rfl
noncomputable def i25 : Ins E (Res E.T × St E.T) := ⟨[.v (.slice (.named 1)), .fn 26 [.ptr 0 []]], [.box true (.ptr 1 []), .box true (.agg 8 [.agg 4 [.v (.int .i64), .v (.int .i64), .v (.int .i64), .v (.int .i64), .own 2, .own 3, .v (.named 3), .v (.int .i64), .v (.int .i64), .v (.int .i64)], .nils]), .arr .froz (.named 1), .arr .froz .str], fun s o1_Client_ID o1_Client_Now o1_Client_Epoch o1_Client_Seq o1_Client_Out o1_Client_Bad o1_Client_Hits o1_Client_Asks a2_ a3_ => .opt (N.slices_IndexFunc_Cache N.fuel s (N.Tclient_work.mk (N.TClient.mk o1_Client_ID o1_Client_Now o1_Client_Epoch o1_Client_Seq a2_ a3_ o1_Client_Out o1_Client_Bad o1_Client_Hits o1_Client_Asks) [])) fun x_ => .ret (.ret [.val (.int .i64) x_.1], [.box true (.ptr 1 []), .box true (.agg 8 [.agg 4 [.val (.int .i64) x_.2.Client.ID, .val (.int .i64) x_.2.Client.Now, .val (.int .i64) x_.2.Client.Epoch, .val (.int .i64) x_.2.Client.Seq, .own 2, .own 3, .val (.named 3) x_.2.Client.Out, .val (.int .i64) x_.2.Client.Bad, .val (.int .i64) x_.2.Client.Hits, .val (.int .i64) x_.2.Client.Asks], .nils]), .arr .froz (.named 1) x_.2.Client.Files, .arr .froz .str x_.2.Client.Names])⟩
theorem i25_ok : InsOk Try.prog 25 i25 := ⟨B25, B25_ok, by intro s o1_Client_ID o1_Client_Now o1_Client_Epoch o1_Client_Seq o1_Client_Out o1_Client_Bad o1_Client_Hits o1_Client_Asks a2_ a3_ out_ h_; exact ((F25 s o1_Client_ID o1_Client_Now o1_Client_Epoch o1_Client_Seq o1_Client_Out o1_Client_Bad o1_Client_Hits o1_Client_Asks a2_ a3_).trans (N.slices_IndexFunc_Cache_bind N.fuel _ s (N.Tclient_work.mk (N.TClient.mk o1_Client_ID o1_Client_Now o1_Client_Epoch o1_Client_Seq a2_ a3_ o1_Client_Out o1_Client_Bad o1_Client_Hits o1_Client_Asks) []))).trans h_⟩
noncomputable def P25 : Nat × D.Spec E := (25, .full [.data (.slice (.named 1)), .func] true (fullF [i25]))
theorem p25 : SpecOk Try.prog E P25.1 P25.2 := fullI_ok ok Try.call25 ⟨i25_ok, trivial⟩

/-! tenancy/client.Run -/
noncomputable def S10 : List (Nat × D.Spec E) := [P13, P23, P24, P25, P27]
theorem S10_ok : AllS Try.prog E S10 := ⟨p13, p23, p24, p25, p27, trivial⟩
noncomputable def L10 : Nat → LoopInfo E := clL E 56 [] []
noncomputable def B10 : List (DVal E.T) → St E.T → Tree (Res E.T × St E.T) := dbody E (lookS S10) (lookD []) L10 0 false Try.f10
theorem B10_ok : FnOk Try.prog E 10 B10 := bodyC_ok sound mix S10_ok (SD := []) trivial (L := L10) (N := 0) (keep := false) Try.func10 rfl (by
  intro k g hg fr st out ho
  match k, hg with
  | _, hg => cases hg)
theorem F10 (c : N.TClient) : (B10 [.val (.named 4) c] []).get = N.client_Run_k N.fuel (fun x_ => some (.ret [.val (.named 4) x_.1, .val (.slice (.named 2)) x_.2], [])) c := by kernel_rfl
noncomputable def i10 : Ins E (Res E.T × St E.T) := ⟨[.v (.named 4)], [], fun c => .opt (N.client_Run N.fuel c) fun x_ => .ret (.ret [.val (.named 4) x_.1, .val (.slice (.named 2)) x_.2], [])⟩
theorem i10_ok : InsOk Try.prog 10 i10 := ⟨B10, B10_ok, by intro c out_ h_; exact ((F10 c).trans (N.client_Run_bind N.fuel _ c)).trans h_⟩
noncomputable def P10 : Nat × D.Spec E := (10, .pure [(.named 4)] (pureF [i10]))
theorem p10 : SpecOk Try.prog E P10.1 P10.2 := pureI_ok Try.call10 ⟨i10_ok, trivial⟩

/-! slices.Equal[[]tenancy/api.Write,tenancy/api.Write] -/
noncomputable def S51 : List (Nat × D.Spec E) := []
theorem S51_ok : AllS Try.prog E S51 := trivial
abbrev h51_s0 (s1 : List N.TWrite) (s2 : List N.TWrite) (t12 : Int) (t13 : Int) : Fr E.T := ofSlots E 26 [] [0, 1, 12, 13] [.val (.slice (.named 0)) s1, .val (.slice (.named 0)) s2, .val (.int .i64) t12, .val (.int .i64) t13]
abbrev t51_s0 (s1 : List N.TWrite) (s2 : List N.TWrite) (t12 : Int) (t13 : Int) : St E.T := []
def x51_s0 (s1 : List N.TWrite) (s2 : List N.TWrite) (t12 : Int) (x_ : Unit ⊕ Unit) : Tree (CodeOut E) := altT x_ (fun u0_ => .ret (.ret, ofSlots E 26 [] [4] [.val .bool false], [])) (fun w0_ => .ret (.exit 0, ofSlots E 26 [] [4] [.undef], []))
noncomputable def g51_s0 : Ins E (CodeOut E) := ⟨[.v (.slice (.named 0)), .v (.slice (.named 0)), .v (.int .i64), .v (.int .i64)], [], fun s1 s2 t12 t13 => .opt (N.slices_Equal_Write_l0 N.fuel s1 s2 t12 t13) (x51_s0 s1 s2 t12)⟩
noncomputable def L51 : Nat → LoopInfo E := clL E 26 [{ ks := [0, 1, 12, 13], mvs := [], pro := [], d := [], g := some (insF [g51_s0]) }] []
theorem f51_s0 (s1 : List N.TWrite) (s2 : List N.TWrite) (t12 : Int) (t13 : Int) : ((stepOf E S51 L51 0 0 Try.f51 (h51_s0 s1 s2 t12 t13) (t51_s0 s1 s2 t12 t13)).bind (nx E [0, 1, 12, 13] [] [4] 0)).get = N.slices_Equal_Write_s0k s1 s2 t12 (fun v_ => some (.inl (h51_s0 s1 s2 t12 v_, t51_s0 s1 s2 t12 v_))) (fun x_ => some (.inr (.ret, ofSlots E 26 [] [4] [.val .bool false], []))) (fun x_ => some (.inr (.exit 0, ofSlots E 26 [] [4] [.undef], []))) t13 := by kernel_rfl
theorem q51_s0 : InsLp 26 [0, 1, 12, 13] [] [] (stepOf E S51 L51 0 0 Try.f51) g51_s0 := by
  intro s1 s2 t12 t13 out_ ho_
  obtain ⟨x_, h1_, h2_⟩ := Option.bind_eq_some_iff.1 ho_
  refine iter_loop (rs := [4]) (step := N.slices_Equal_Write_s0 s1 s2 t12) (hd := fun v_ => h51_s0 s1 s2 t12 v_) (sv := fun v_ => t51_s0 s1 s2 t12 v_) (ex := x51_s0 s1 s2 t12) (fun v_ => ?_) N.fuel t13 h1_ h2_
  refine (f51_s0 s1 s2 t12 v_).trans ((N.slices_Equal_Write_s0_bind s1 s2 t12 _ _ _ v_).trans ?_)
  refine congrArg _ (funext fun s_ => ?_)
  rcases s_ with v_ | a | a <;> rfl
noncomputable def B51 : List (DVal E.T) → St E.T → Tree (Res E.T × St E.T) := dbody E (lookS S51) (lookD []) L51 0 false Try.f51
theorem B51_ok : FnOk Try.prog E 51 B51 := bodyC_ok sound mix S51_ok (SD := []) trivial (L := L51) (N := 0) (keep := false) Try.func51 rfl (by
  intro k g hg fr st out ho
  match k, hg with
  | 0, hg => cases hg; exact lp_ok (allLp_cons q51_s0 (allLp_nil)) fr st out ho
  | _ + 1, hg => cases hg)
theorem F51 (s1 : List N.TWrite) (s2 : List N.TWrite) : (B51 [.val (.slice (.named 0)) s1, .val (.slice (.named 0)) s2] []).get = N.slices_Equal_Write_k N.fuel (fun x_ => some (.ret [.val .bool x_], [])) s1 s2 := by kernel_rfl
noncomputable def i51 : Ins E (Res E.T × St E.T) := ⟨[.v (.slice (.named 0)), .v (.slice (.named 0))], [], fun s1 s2 => .opt (N.slices_Equal_Write N.fuel s1 s2) fun x_ => .ret (.ret [.val .bool x_], [])⟩
theorem i51_ok : InsOk Try.prog 51 i51 := ⟨B51, B51_ok, by intro s1 s2 out_ h_; exact ((F51 s1 s2).trans (N.slices_Equal_Write_bind N.fuel _ s1 s2)).trans h_⟩
noncomputable def P51 : Nat × D.Spec E := (51, .pure [(.slice (.named 0)), (.slice (.named 0))] (pureF [i51]))
theorem p51 : SpecOk Try.prog E P51.1 P51.2 := pureI_ok Try.call51 ⟨i51_ok, trivial⟩

/-! tenancy/msg.SameAsk -/
noncomputable def S28 : List (Nat × D.Spec E) := [P51]
theorem S28_ok : AllS Try.prog E S28 := ⟨p51, trivial⟩
noncomputable def L28 : Nat → LoopInfo E := clL E 59 [] []
noncomputable def B28 : List (DVal E.T) → St E.T → Tree (Res E.T × St E.T) := dbody E (lookS S28) (lookD []) L28 0 false Try.f28
theorem B28_ok : FnOk Try.prog E 28 B28 := bodyC_ok sound mix S28_ok (SD := []) trivial (L := L28) (N := 0) (keep := false) Try.func28 rfl (by
  intro k g hg fr st out ho
  match k, hg with
  | _, hg => cases hg)
theorem F28 (a : N.TAsk) (b : N.TAsk) : (B28 [.val (.named 2) a, .val (.named 2) b] []).get = N.msg_SameAsk_k N.fuel (fun x_ => some (.ret [.val .bool x_], [])) a b := by kernel_rfl
noncomputable def i28 : Ins E (Res E.T × St E.T) := ⟨[.v (.named 2), .v (.named 2)], [], fun a b => .opt (N.msg_SameAsk N.fuel a b) fun x_ => .ret (.ret [.val .bool x_], [])⟩
theorem i28_ok : InsOk Try.prog 28 i28 := ⟨B28, B28_ok, by intro a b out_ h_; exact ((F28 a b).trans (N.msg_SameAsk_bind N.fuel _ a b)).trans h_⟩
noncomputable def P28 : Nat × D.Spec E := (28, .pure [(.named 2), (.named 2)] (pureF [i28]))
theorem p28 : SpecOk Try.prog E P28.1 P28.2 := pureI_ok Try.call28 ⟨i28_ok, trivial⟩

/-! tenancy/cache.Same -/
noncomputable def S30 : List (Nat × D.Spec E) := [P51]
theorem S30_ok : AllS Try.prog E S30 := ⟨p51, trivial⟩
noncomputable def L30 : Nat → LoopInfo E := clL E 59 [] []
noncomputable def B30 : List (DVal E.T) → St E.T → Tree (Res E.T × St E.T) := dbody E (lookS S30) (lookD []) L30 0 false Try.f30
theorem B30_ok : FnOk Try.prog E 30 B30 := bodyC_ok sound mix S30_ok (SD := []) trivial (L := L30) (N := 0) (keep := false) Try.func30 rfl (by
  intro k g hg fr st out ho
  match k, hg with
  | _, hg => cases hg)
theorem F30 (a : N.TCache) (b : N.TCache) : (B30 [.val (.named 1) a, .val (.named 1) b] []).get = N.cache_Same_k N.fuel (fun x_ => some (.ret [.val .bool x_], [])) a b := by kernel_rfl
noncomputable def i30 : Ins E (Res E.T × St E.T) := ⟨[.v (.named 1), .v (.named 1)], [], fun a b => .opt (N.cache_Same N.fuel a b) fun x_ => .ret (.ret [.val .bool x_], [])⟩
theorem i30_ok : InsOk Try.prog 30 i30 := ⟨B30, B30_ok, by intro a b out_ h_; exact ((F30 a b).trans (N.cache_Same_bind N.fuel _ a b)).trans h_⟩
noncomputable def P30 : Nat × D.Spec E := (30, .pure [(.named 1), (.named 1)] (pureF [i30]))
theorem p30 : SpecOk Try.prog E P30.1 P30.2 := pureI_ok Try.call30 ⟨i30_ok, trivial⟩

/-! slices.EqualFunc[[]tenancy/api.Cache,[]tenancy/api.Cache,tenancy/api.Cache,tenancy/api.Cache] -/
noncomputable def S29 : List (Nat × D.Spec E) := [P30]
theorem S29_ok : AllS Try.prog E S29 := ⟨p30, trivial⟩
abbrev h29_s0 (s2 : List N.TCache) (t15 : List N.TCache) (t16 : Int) (t17 : Int) : Fr E.T := ofSlots E 32 [] [1, 2, 15, 16, 17] [.val (.slice (.named 1)) s2, .fn 30 [], .val (.slice (.named 1)) t15, .val (.int .i64) t16, .val (.int .i64) t17]
abbrev t29_s0 (s2 : List N.TCache) (t15 : List N.TCache) (t16 : Int) (t17 : Int) : St E.T := []
def x29_s0 (s2 : List N.TCache) (t15 : List N.TCache) (t16 : Int) (x_ : (N.TCache × N.TCache) ⊕ Unit) : Tree (CodeOut E) := altT x_ (fun u0_ => .ret (.ret, ofSlots E 32 [] [6] [.val .bool false], [.box false (.val (.named 1) u0_.1), .box false (.val (.named 1) u0_.2)])) (fun w0_ => .ret (.exit 0, ofSlots E 32 [] [6] [.undef], []))
noncomputable def g29_s0 : Ins E (CodeOut E) := ⟨[.v (.slice (.named 1)), .fn 30 [], .v (.slice (.named 1)), .v (.int .i64), .v (.int .i64)], [], fun s2 t15 t16 t17 => .opt (N.slices_EqualFunc_Cache_l0 N.fuel s2 t15 t16 t17) (x29_s0 s2 t15 t16)⟩
noncomputable def L29 : Nat → LoopInfo E := clL E 32 [{ ks := [1, 2, 15, 16, 17], mvs := [], pro := [], d := [], g := some (insF [g29_s0]) }] []
theorem f29_s0 (s2 : List N.TCache) (t15 : List N.TCache) (t16 : Int) (t17 : Int) : ((stepOf E S29 L29 0 0 Try.f29 (h29_s0 s2 t15 t16 t17) (t29_s0 s2 t15 t16 t17)).bind (nx E [1, 2, 15, 16, 17] [] [6] 0)).get = N.slices_EqualFunc_Cache_s0k N.fuel s2 t15 t16 (fun v_ => some (.inl (h29_s0 s2 t15 t16 v_, t29_s0 s2 t15 t16 v_))) (fun x_ => some (.inr (.ret, ofSlots E 32 [] [6] [.val .bool false], [.box false (.val (.named 1) x_.1), .box false (.val (.named 1) x_.2)]))) (fun x_ => some (.inr (.exit 0, ofSlots E 32 [] [6] [.undef], []))) t17 := by kernel_rfl
theorem q29_s0 : InsLp 32 [1, 2, 15, 16, 17] [] [] (stepOf E S29 L29 0 0 Try.f29) g29_s0 := by
  intro s2 t15 t16 t17 out_ ho_
  obtain ⟨x_, h1_, h2_⟩ := Option.bind_eq_some_iff.1 ho_
  refine iter_loop (rs := [6]) (step := N.slices_EqualFunc_Cache_s0 N.fuel s2 t15 t16) (hd := fun v_ => h29_s0 s2 t15 t16 v_) (sv := fun v_ => t29_s0 s2 t15 t16 v_) (ex := x29_s0 s2 t15 t16) (fun v_ => ?_) N.fuel t17 h1_ h2_
  refine (f29_s0 s2 t15 t16 v_).trans ((N.slices_EqualFunc_Cache_s0_bind N.fuel s2 t15 t16 _ _ _ v_).trans ?_)
  refine congrArg _ (funext fun s_ => ?_)
  rcases s_ with v_ | a | a <;> rfl
noncomputable def B29 : List (DVal E.T) → St E.T → Tree (Res E.T × St E.T) := dbody E (lookS S29) (lookD []) L29 0 false Try.f29
theorem B29_ok : FnOk Try.prog E 29 B29 := bodyC_ok sound mix S29_ok (SD := []) trivial (L := L29) (N := 0) (keep := false) Try.func29 rfl (by
  intro k g hg fr st out ho
  match k, hg with
  | 0, hg => cases hg; exact lp_ok (allLp_cons q29_s0 (allLp_nil)) fr st out ho
  | _ + 1, hg => cases hg)
theorem F29 (s1 : List N.TCache) (s2 : List N.TCache) : (B29 [.val (.slice (.named 1)) s1, .val (.slice (.named 1)) s2, .fn 30 []] []).get = N.slices_EqualFunc_Cache_k N.fuel (fun x_ => some (.ret [.val .bool x_], [])) s1 s2 := by kernel_rfl
noncomputable def i29 : Ins E (Res E.T × St E.T) := ⟨[.v (.slice (.named 1)), .v (.slice (.named 1)), .fn 30 []], [], fun s1 s2 => .opt (N.slices_EqualFunc_Cache N.fuel s1 s2) fun x_ => .ret (.ret [.val .bool x_], [])⟩
theorem i29_ok : InsOk Try.prog 29 i29 := ⟨B29, B29_ok, by intro s1 s2 out_ h_; exact ((F29 s1 s2).trans (N.slices_EqualFunc_Cache_bind N.fuel _ s1 s2)).trans h_⟩
noncomputable def P29 : Nat × D.Spec E := (29, .full [.data (.slice (.named 1)), .data (.slice (.named 1)), .func] true (fullF [i29]))
theorem p29 : SpecOk Try.prog E P29.1 P29.2 := fullI_ok ok Try.call29 ⟨i29_ok, trivial⟩

/-! slices.Equal[[]string,string] -/
noncomputable def S31 : List (Nat × D.Spec E) := []
theorem S31_ok : AllS Try.prog E S31 := trivial
abbrev h31_s0 (s1 : List (List UInt8)) (s2 : List (List UInt8)) (t12 : Int) (t13 : Int) : Fr E.T := ofSlots E 26 [] [0, 1, 12, 13] [.val (.slice .str) s1, .val (.slice .str) s2, .val (.int .i64) t12, .val (.int .i64) t13]
abbrev t31_s0 (s1 : List (List UInt8)) (s2 : List (List UInt8)) (t12 : Int) (t13 : Int) : St E.T := []
def x31_s0 (s1 : List (List UInt8)) (s2 : List (List UInt8)) (t12 : Int) (x_ : Unit ⊕ Unit) : Tree (CodeOut E) := altT x_ (fun u0_ => .ret (.ret, ofSlots E 26 [] [4] [.val .bool false], [])) (fun w0_ => .ret (.exit 0, ofSlots E 26 [] [4] [.undef], []))
noncomputable def g31_s0 : Ins E (CodeOut E) := ⟨[.v (.slice .str), .v (.slice .str), .v (.int .i64), .v (.int .i64)], [], fun s1 s2 t12 t13 => .opt (N.slices_Equal_string_l0 N.fuel s1 s2 t12 t13) (x31_s0 s1 s2 t12)⟩
noncomputable def L31 : Nat → LoopInfo E := clL E 26 [{ ks := [0, 1, 12, 13], mvs := [], pro := [], d := [], g := some (insF [g31_s0]) }] []
theorem f31_s0 (s1 : List (List UInt8)) (s2 : List (List UInt8)) (t12 : Int) (t13 : Int) : ((stepOf E S31 L31 0 0 Try.f31 (h31_s0 s1 s2 t12 t13) (t31_s0 s1 s2 t12 t13)).bind (nx E [0, 1, 12, 13] [] [4] 0)).get = N.slices_Equal_string_s0k s1 s2 t12 (fun v_ => some (.inl (h31_s0 s1 s2 t12 v_, t31_s0 s1 s2 t12 v_))) (fun x_ => some (.inr (.ret, ofSlots E 26 [] [4] [.val .bool false], []))) (fun x_ => some (.inr (.exit 0, ofSlots E 26 [] [4] [.undef], []))) t13 := by kernel_rfl
theorem q31_s0 : InsLp 26 [0, 1, 12, 13] [] [] (stepOf E S31 L31 0 0 Try.f31) g31_s0 := by
  intro s1 s2 t12 t13 out_ ho_
  obtain ⟨x_, h1_, h2_⟩ := Option.bind_eq_some_iff.1 ho_
  refine iter_loop (rs := [4]) (step := N.slices_Equal_string_s0 s1 s2 t12) (hd := fun v_ => h31_s0 s1 s2 t12 v_) (sv := fun v_ => t31_s0 s1 s2 t12 v_) (ex := x31_s0 s1 s2 t12) (fun v_ => ?_) N.fuel t13 h1_ h2_
  refine (f31_s0 s1 s2 t12 v_).trans ((N.slices_Equal_string_s0_bind s1 s2 t12 _ _ _ v_).trans ?_)
  refine congrArg _ (funext fun s_ => ?_)
  rcases s_ with v_ | a | a <;> rfl
noncomputable def B31 : List (DVal E.T) → St E.T → Tree (Res E.T × St E.T) := dbody E (lookS S31) (lookD []) L31 0 false Try.f31
theorem B31_ok : FnOk Try.prog E 31 B31 := bodyC_ok sound mix S31_ok (SD := []) trivial (L := L31) (N := 0) (keep := false) Try.func31 rfl (by
  intro k g hg fr st out ho
  match k, hg with
  | 0, hg => cases hg; exact lp_ok (allLp_cons q31_s0 (allLp_nil)) fr st out ho
  | _ + 1, hg => cases hg)
theorem F31 (s1 : List (List UInt8)) (s2 : List (List UInt8)) : (B31 [.val (.slice .str) s1, .val (.slice .str) s2] []).get = N.slices_Equal_string_k N.fuel (fun x_ => some (.ret [.val .bool x_], [])) s1 s2 := by kernel_rfl
noncomputable def i31 : Ins E (Res E.T × St E.T) := ⟨[.v (.slice .str), .v (.slice .str)], [], fun s1 s2 => .opt (N.slices_Equal_string N.fuel s1 s2) fun x_ => .ret (.ret [.val .bool x_], [])⟩
theorem i31_ok : InsOk Try.prog 31 i31 := ⟨B31, B31_ok, by intro s1 s2 out_ h_; exact ((F31 s1 s2).trans (N.slices_Equal_string_bind N.fuel _ s1 s2)).trans h_⟩
noncomputable def P31 : Nat × D.Spec E := (31, .pure [(.slice .str), (.slice .str)] (pureF [i31]))
theorem p31 : SpecOk Try.prog E P31.1 P31.2 := pureI_ok Try.call31 ⟨i31_ok, trivial⟩

/-! tenancy/client.Same -/
noncomputable def S11 : List (Nat × D.Spec E) := [P28, P29, P31]
theorem S11_ok : AllS Try.prog E S11 := ⟨p28, p29, p31, trivial⟩
noncomputable def L11 : Nat → LoopInfo E := clL E 99 [] []
noncomputable def B11 : List (DVal E.T) → St E.T → Tree (Res E.T × St E.T) := dbody E (lookS S11) (lookD []) L11 0 false Try.f11
theorem B11_ok : FnOk Try.prog E 11 B11 := bodyC_ok sound mix S11_ok (SD := []) trivial (L := L11) (N := 0) (keep := false) Try.func11 rfl (by
  intro k g hg fr st out ho
  match k, hg with
  | _, hg => cases hg)
theorem F11 (a : N.TClient) (b : N.TClient) : (B11 [.val (.named 4) a, .val (.named 4) b] []).get = N.client_Same_k N.fuel (fun x_ => some (.ret [.val .bool x_], [])) a b := by kernel_rfl
noncomputable def i11 : Ins E (Res E.T × St E.T) := ⟨[.v (.named 4), .v (.named 4)], [], fun a b => .opt (N.client_Same N.fuel a b) fun x_ => .ret (.ret [.val .bool x_], [])⟩
theorem i11_ok : InsOk Try.prog 11 i11 := ⟨B11, B11_ok, by intro a b out_ h_; exact ((F11 a b).trans (N.client_Same_bind N.fuel _ a b)).trans h_⟩
noncomputable def P11 : Nat × D.Spec E := (11, .pure [(.named 4), (.named 4)] (pureF [i11]))
theorem p11 : SpecOk Try.prog E P11.1 P11.2 := pureI_ok Try.call11 ⟨i11_ok, trivial⟩

/-! tenancy/client.Crash -/
noncomputable def S12 : List (Nat × D.Spec E) := [P6]
theorem S12_ok : AllS Try.prog E S12 := ⟨p6, trivial⟩
noncomputable def L12 : Nat → LoopInfo E := clL E 26 [] []
noncomputable def B12 : List (DVal E.T) → St E.T → Tree (Res E.T × St E.T) := dbody E (lookS S12) (lookD []) L12 0 false Try.f12
theorem B12_ok : FnOk Try.prog E 12 B12 := bodyC_ok sound mix S12_ok (SD := []) trivial (L := L12) (N := 0) (keep := false) Try.func12 rfl (by
  intro k g hg fr st out ho
  match k, hg with
  | _, hg => cases hg)
theorem F12 (c : N.TClient) : (B12 [.val (.named 4) c] []).get = N.client_Crash_k (fun x_ => some (.ret [.val (.named 4) x_], [])) c := by kernel_rfl
noncomputable def i12 : Ins E (Res E.T × St E.T) := ⟨[.v (.named 4)], [], fun c => .ret (.ret [.val (.named 4) (N.client_Crash c)], [])⟩
theorem i12_ok : InsOk Try.prog 12 i12 := ⟨B12, B12_ok, by intro c out_ h_; exact ((F12 c).trans (N.client_Crash_bind _ c)).trans h_⟩
noncomputable def P12 : Nat × D.Spec E := (12, .pure [(.named 4)] (pureF [i12]))
theorem p12 : SpecOk Try.prog E P12.1 P12.2 := pureI_ok Try.call12 ⟨i12_ok, trivial⟩

/-! tenancy/tenancylaw20.begun -/
noncomputable def S5 : List (Nat × D.Spec E) := [P10, P11, P12, P6, P7, P8, P9]
theorem S5_ok : AllS Try.prog E S5 := ⟨p10, p11, p12, p6, p7, p8, p9, trivial⟩
noncomputable def L5 : Nat → LoopInfo E := clL E 113 [] []
noncomputable def B5 : List (DVal E.T) → St E.T → Tree (Res E.T × St E.T) := dbody E (lookS S5) (lookD []) L5 0 false Try.f5
theorem B5_ok : FnOk Try.prog E 5 B5 := bodyC_ok sound mix S5_ok (SD := []) trivial (L := L5) (N := 0) (keep := false) Try.func5 rfl (by
  intro k g hg fr st out ho
  match k, hg with
  | _, hg => cases hg)
theorem F5 : (B5 [] []).get = N.law20_begun_k N.fuel (fun x_ => some (.ret [.val .bool x_], [])) := by kernel_rfl
noncomputable def i5 : Ins E (Res E.T × St E.T) := ⟨[], [], .opt (N.law20_begun N.fuel) fun x_ => .ret (.ret [.val .bool x_], [])⟩
theorem i5_ok : InsOk Try.prog 5 i5 := ⟨B5, B5_ok, by intro out_ h_; exact ((F5).trans (N.law20_begun_bind N.fuel _)).trans h_⟩
noncomputable def P5 : Nat × D.Spec E := (5, .pure [] (pureF [i5]))
theorem p5 : SpecOk Try.prog E P5.1 P5.2 := pureI_ok Try.call5 ⟨i5_ok, trivial⟩

/-! tenancy/tenancylaw20.ClientForms -/
noncomputable def S3 : List (Nat × D.Spec E) := [P10, P5, P6, P7, P8, P9]
theorem S3_ok : AllS Try.prog E S3 := ⟨p10, p5, p6, p7, p8, p9, trivial⟩
abbrev h3_s0 (kinds : List Int) (texts : List (List UInt8)) (errs : List Int) (i : Int) (c : N.TClient) : Fr E.T := ofSlots E 280 [] [1, 2, 3, 4, 5] [.ptr 0 [], .val (.slice (.int .i64)) kinds, .val (.slice .str) texts, .val (.slice (.int .i64)) errs, .val (.int .i64) i]
abbrev t3_s0 (kinds : List Int) (texts : List (List UInt8)) (errs : List Int) (i : Int) (c : N.TClient) : St E.T := [.box false (.val (.named 4) c)]
def x3_s0 (kinds : List Int) (texts : List (List UInt8)) (errs : List Int) (x_ : (N.TClient × N.TClient × N.TAns) ⊕ N.TClient) : Tree (CodeOut E) := altT x_ (fun u0_ => .ret (.ret, ofSlots E 280 [] [0, 1] [.val .bool false, .ptr 0 []], [.box false (.val (.named 4) u0_.1), .box false (.val (.named 4) u0_.2.1), .box false (.val (.named 5) u0_.2.2)])) (fun w0_ => .ret (.exit 0, ofSlots E 280 [] [0, 1] [.undef, .ptr 0 []], [.box false (.val (.named 4) w0_)]))
noncomputable def g3_s0 : Ins E (CodeOut E) := ⟨[.ptr 0 [], .v (.slice (.int .i64)), .v (.slice .str), .v (.slice (.int .i64)), .v (.int .i64)], [.box false (.v (.named 4))], fun kinds texts errs i c => .opt (N.law20_ClientForms_l0 N.fuel kinds texts errs i c) (x3_s0 kinds texts errs)⟩
noncomputable def L3 : Nat → LoopInfo E := clL E 280 [{ ks := [1, 2, 3, 4, 5], mvs := [], pro := [], d := [], g := some (insF [g3_s0]) }] []
theorem f3_s0 (kinds : List Int) (texts : List (List UInt8)) (errs : List Int) (i : Int) (c : N.TClient) : ((stepOf E S3 L3 0 0 Try.f3 (h3_s0 kinds texts errs i c) (t3_s0 kinds texts errs i c)).bind (nx E [1, 2, 3, 4, 5] [] [0, 1] 1)).get = N.law20_ClientForms_s0k N.fuel kinds texts errs (fun v_ => some (.inl (h3_s0 kinds texts errs v_.1 v_.2, t3_s0 kinds texts errs v_.1 v_.2))) (fun x_ => some (.inr (.ret, ofSlots E 280 [] [0, 1] [.val .bool false, .ptr 0 []], [.box false (.val (.named 4) x_.1), .box false (.val (.named 4) x_.2.1), .box false (.val (.named 5) x_.2.2)]))) (fun x_ => some (.inr (.exit 0, ofSlots E 280 [] [0, 1] [.undef, .ptr 0 []], [.box false (.val (.named 4) x_)]))) i c := by kernel_rfl
theorem q3_s0 : InsLp 280 [1, 2, 3, 4, 5] [] [] (stepOf E S3 L3 0 0 Try.f3) g3_s0 := by
  intro kinds texts errs i c out_ ho_
  obtain ⟨x_, h1_, h2_⟩ := Option.bind_eq_some_iff.1 ho_
  refine iter_loop (rs := [0, 1]) (step := N.law20_ClientForms_s0 N.fuel kinds texts errs) (hd := fun v_ => h3_s0 kinds texts errs v_.1 v_.2) (sv := fun v_ => t3_s0 kinds texts errs v_.1 v_.2) (ex := x3_s0 kinds texts errs) (fun v_ => ?_) N.fuel (i, c) h1_ h2_
  refine (f3_s0 kinds texts errs v_.1 v_.2).trans ((N.law20_ClientForms_s0_bind N.fuel kinds texts errs _ _ _ v_.1 v_.2).trans ?_)
  refine congrArg _ (funext fun s_ => ?_)
  rcases s_ with v_ | a | a <;> rfl
noncomputable def B3 : List (DVal E.T) → St E.T → Tree (Res E.T × St E.T) := dbody E (lookS S3) (lookD []) L3 0 false Try.f3
theorem B3_ok : FnOk Try.prog E 3 B3 := bodyC_ok sound mix S3_ok (SD := []) trivial (L := L3) (N := 0) (keep := false) Try.func3 rfl (by
  intro k g hg fr st out ho
  match k, hg with
  | 0, hg => cases hg; exact lp_ok (allLp_cons q3_s0 (allLp_nil)) fr st out ho
  | _ + 1, hg => cases hg)
theorem F3 : (B3 [] []).get = N.law20_ClientForms_k N.fuel (fun x_ => some (.ret [.val .bool x_], [])) := by kernel_rfl
noncomputable def i3 : Ins E (Res E.T × St E.T) := ⟨[], [], .opt (N.law20_ClientForms N.fuel) fun x_ => .ret (.ret [.val .bool x_], [])⟩
theorem i3_ok : InsOk Try.prog 3 i3 := ⟨B3, B3_ok, by intro out_ h_; exact ((F3).trans (N.law20_ClientForms_bind N.fuel _)).trans h_⟩
noncomputable def P3 : Nat × D.Spec E := (3, .pure [] (pureF [i3]))
theorem p3 : SpecOk Try.prog E P3.1 P3.2 := pureI_ok Try.call3 ⟨i3_ok, trivial⟩

/-! tenancy/tenancylaw20.ClientFull -/
noncomputable def S4 : List (Nat × D.Spec E) := [P5, P6, P7, P8, P9]
theorem S4_ok : AllS Try.prog E S4 := ⟨p5, p6, p7, p8, p9, trivial⟩
abbrev h4_s0 (more : UInt8) (n : Int) (o2 : N.TAns) (i : Int) (w : N.TStep) (c : N.TClient) : Fr E.T := ofSlots E 169 [] [1, 5, 6, 7, 10] [.val (.int .u8) more, .val (.int .i64) n, .ptr 0 [], .ptr 1 [], .val (.int .i64) i]
abbrev t4_s0 (more : UInt8) (n : Int) (o2 : N.TAns) (i : Int) (w : N.TStep) (c : N.TClient) : St E.T := [.box false (.agg 6 [.val (.int .i64) w.Kind, .val (.int .i64) w.R, .val (.int .i64) w.By, .val (.int .i64) w.File, .val (.int .i64) w.Off, .val (.int .i64) w.I, .val (.int .i64) w.To, .val .str w.Text, .nils]), .box false (.val (.named 4) c), .box false (.val (.named 5) o2)]
def x4_s0 (more : UInt8) (n : Int) (o2 : N.TAns) (x_ : (N.TStep × N.TClient × N.TClient × N.TAns) ⊕ (N.TStep × N.TClient)) : Tree (CodeOut E) := altT x_ (fun u0_ => .ret (.ret, ofSlots E 169 [] [1, 4, 5, 6, 7] [.val (.int .u8) more, .val .bool false, .val (.int .i64) n, .ptr 0 [], .ptr 1 []], [.box false (.agg 6 [.val (.int .i64) u0_.1.Kind, .val (.int .i64) u0_.1.R, .val (.int .i64) u0_.1.By, .val (.int .i64) u0_.1.File, .val (.int .i64) u0_.1.Off, .val (.int .i64) u0_.1.I, .val (.int .i64) u0_.1.To, .val .str u0_.1.Text, .nils]), .box false (.val (.named 4) u0_.2.1), .box false (.val (.named 5) o2), .box false (.val (.named 4) u0_.2.2.1), .box false (.val (.named 5) u0_.2.2.2)])) (fun w0_ => .ret (.exit 0, ofSlots E 169 [] [1, 4, 5, 6, 7] [.val (.int .u8) more, .undef, .val (.int .i64) n, .ptr 0 [], .ptr 1 []], [.box false (.agg 6 [.val (.int .i64) w0_.1.Kind, .val (.int .i64) w0_.1.R, .val (.int .i64) w0_.1.By, .val (.int .i64) w0_.1.File, .val (.int .i64) w0_.1.Off, .val (.int .i64) w0_.1.I, .val (.int .i64) w0_.1.To, .val .str w0_.1.Text, .nils]), .box false (.val (.named 4) w0_.2), .box false (.val (.named 5) o2)]))
noncomputable def g4_s0 : Ins E (CodeOut E) := ⟨[.v (.int .u8), .v (.int .i64), .ptr 0 [], .ptr 1 [], .v (.int .i64)], [.box false (.agg 6 [.v (.int .i64), .v (.int .i64), .v (.int .i64), .v (.int .i64), .v (.int .i64), .v (.int .i64), .v (.int .i64), .v .str, .nils]), .box false (.v (.named 4)), .box false (.v (.named 5))], fun more n i w_Kind w_R w_By w_File w_Off w_I w_To w_Text c o2 => .opt (N.law20_ClientFull_l0 N.fuel more n o2 i (N.TStep.mk w_Kind w_R w_By w_File w_Off w_I w_To w_Text []) c) (x4_s0 more n o2)⟩
abbrev h4_s1 (more : UInt8) (n : Int) (o2 : N.TAns) (o3 : N.TAns) (i : Int) (w : N.TStep) (c : N.TClient) : Fr E.T := ofSlots E 169 [] [1, 5, 6, 7, 16] [.val (.int .u8) more, .val (.int .i64) n, .ptr 0 [], .ptr 1 [], .val (.int .i64) i]
abbrev t4_s1 (more : UInt8) (n : Int) (o2 : N.TAns) (o3 : N.TAns) (i : Int) (w : N.TStep) (c : N.TClient) : St E.T := [.box false (.agg 6 [.val (.int .i64) w.Kind, .val (.int .i64) w.R, .val (.int .i64) w.By, .val (.int .i64) w.File, .val (.int .i64) w.Off, .val (.int .i64) w.I, .val (.int .i64) w.To, .val .str w.Text, .nils]), .box false (.val (.named 4) c), .box false (.val (.named 5) o2), .box false (.val (.named 5) o3)]
def x4_s1 (more : UInt8) (n : Int) (o2 : N.TAns) (o3 : N.TAns) (x_ : (N.TStep × N.TClient × N.TClient × N.TAns) ⊕ (N.TStep × N.TClient)) : Tree (CodeOut E) := altT x_ (fun u0_ => .ret (.ret, ofSlots E 169 [] [4, 5, 6, 7] [.val .bool false, .val (.int .i64) n, .ptr 0 [], .ptr 1 []], [.box false (.agg 6 [.val (.int .i64) u0_.1.Kind, .val (.int .i64) u0_.1.R, .val (.int .i64) u0_.1.By, .val (.int .i64) u0_.1.File, .val (.int .i64) u0_.1.Off, .val (.int .i64) u0_.1.I, .val (.int .i64) u0_.1.To, .val .str u0_.1.Text, .nils]), .box false (.val (.named 4) u0_.2.1), .box false (.val (.named 5) o2), .box false (.val (.named 5) o3), .box false (.val (.named 4) u0_.2.2.1), .box false (.val (.named 5) u0_.2.2.2)])) (fun w0_ => .ret (.exit 2, ofSlots E 169 [] [4, 5, 6, 7] [.undef, .val (.int .i64) n, .ptr 0 [], .ptr 1 []], [.box false (.agg 6 [.val (.int .i64) w0_.1.Kind, .val (.int .i64) w0_.1.R, .val (.int .i64) w0_.1.By, .val (.int .i64) w0_.1.File, .val (.int .i64) w0_.1.Off, .val (.int .i64) w0_.1.I, .val (.int .i64) w0_.1.To, .val .str w0_.1.Text, .nils]), .box false (.val (.named 4) w0_.2), .box false (.val (.named 5) o2), .box false (.val (.named 5) o3)]))
noncomputable def g4_s1 : Ins E (CodeOut E) := ⟨[.v (.int .u8), .v (.int .i64), .ptr 0 [], .ptr 1 [], .v (.int .i64)], [.box false (.agg 6 [.v (.int .i64), .v (.int .i64), .v (.int .i64), .v (.int .i64), .v (.int .i64), .v (.int .i64), .v (.int .i64), .v .str, .nils]), .box false (.v (.named 4)), .box false (.v (.named 5)), .box false (.v (.named 5))], fun more n i w_Kind w_R w_By w_File w_Off w_I w_To w_Text c o2 o3 => .opt (N.law20_ClientFull_l1 N.fuel more n o2 o3 i (N.TStep.mk w_Kind w_R w_By w_File w_Off w_I w_To w_Text []) c) (x4_s1 more n o2 o3)⟩
noncomputable def L4 : Nat → LoopInfo E := clL E 169 [{ ks := [1, 5, 6, 7, 10], mvs := [], pro := [], d := [], g := some (insF [g4_s0]) }, { ks := [1, 5, 6, 7, 16], mvs := [], pro := [], d := [], g := some (insF [g4_s1]) }] []
theorem f4_s0 (more : UInt8) (n : Int) (o2 : N.TAns) (i : Int) (w : N.TStep) (c : N.TClient) : ((stepOf E S4 L4 0 0 Try.f4 (h4_s0 more n o2 i w c) (t4_s0 more n o2 i w c)).bind (nx E [1, 5, 6, 7, 10] [] [1, 4, 5, 6, 7] 3)).get = N.law20_ClientFull_s0k N.fuel more n o2 (fun v_ => some (.inl (h4_s0 more n o2 v_.1 v_.2.1 v_.2.2, t4_s0 more n o2 v_.1 v_.2.1 v_.2.2))) (fun x_ => some (.inr (.ret, ofSlots E 169 [] [1, 4, 5, 6, 7] [.val (.int .u8) more, .val .bool false, .val (.int .i64) n, .ptr 0 [], .ptr 1 []], [.box false (.agg 6 [.val (.int .i64) x_.1.Kind, .val (.int .i64) x_.1.R, .val (.int .i64) x_.1.By, .val (.int .i64) x_.1.File, .val (.int .i64) x_.1.Off, .val (.int .i64) x_.1.I, .val (.int .i64) x_.1.To, .val .str x_.1.Text, .nils]), .box false (.val (.named 4) x_.2.1), .box false (.val (.named 5) o2), .box false (.val (.named 4) x_.2.2.1), .box false (.val (.named 5) x_.2.2.2)]))) (fun x_ => some (.inr (.exit 0, ofSlots E 169 [] [1, 4, 5, 6, 7] [.val (.int .u8) more, .undef, .val (.int .i64) n, .ptr 0 [], .ptr 1 []], [.box false (.agg 6 [.val (.int .i64) x_.1.Kind, .val (.int .i64) x_.1.R, .val (.int .i64) x_.1.By, .val (.int .i64) x_.1.File, .val (.int .i64) x_.1.Off, .val (.int .i64) x_.1.I, .val (.int .i64) x_.1.To, .val .str x_.1.Text, .nils]), .box false (.val (.named 4) x_.2), .box false (.val (.named 5) o2)]))) i w c := by kernel_rfl
theorem q4_s0 : InsLp 169 [1, 5, 6, 7, 10] [] [] (stepOf E S4 L4 0 0 Try.f4) g4_s0 := by
  intro more n i w_Kind w_R w_By w_File w_Off w_I w_To w_Text c o2 out_ ho_
  obtain ⟨x_, h1_, h2_⟩ := Option.bind_eq_some_iff.1 ho_
  refine iter_loop (rs := [1, 4, 5, 6, 7]) (step := N.law20_ClientFull_s0 N.fuel more n o2) (hd := fun v_ => h4_s0 more n o2 v_.1 v_.2.1 v_.2.2) (sv := fun v_ => t4_s0 more n o2 v_.1 v_.2.1 v_.2.2) (ex := x4_s0 more n o2) (fun v_ => ?_) N.fuel (i, (N.TStep.mk w_Kind w_R w_By w_File w_Off w_I w_To w_Text []), c) h1_ h2_
  refine (f4_s0 more n o2 v_.1 v_.2.1 v_.2.2).trans ((N.law20_ClientFull_s0_bind N.fuel more n o2 _ _ _ v_.1 v_.2.1 v_.2.2).trans ?_)
  refine congrArg _ (funext fun s_ => ?_)
  rcases s_ with v_ | a | a <;> rfl
theorem f4_s1 (more : UInt8) (n : Int) (o2 : N.TAns) (o3 : N.TAns) (i : Int) (w : N.TStep) (c : N.TClient) : ((stepOf E S4 L4 0 1 Try.f4 (h4_s1 more n o2 o3 i w c) (t4_s1 more n o2 o3 i w c)).bind (nx E [1, 5, 6, 7, 16] [] [4, 5, 6, 7] 4)).get = N.law20_ClientFull_s1k N.fuel more n o2 o3 (fun v_ => some (.inl (h4_s1 more n o2 o3 v_.1 v_.2.1 v_.2.2, t4_s1 more n o2 o3 v_.1 v_.2.1 v_.2.2))) (fun x_ => some (.inr (.ret, ofSlots E 169 [] [4, 5, 6, 7] [.val .bool false, .val (.int .i64) n, .ptr 0 [], .ptr 1 []], [.box false (.agg 6 [.val (.int .i64) x_.1.Kind, .val (.int .i64) x_.1.R, .val (.int .i64) x_.1.By, .val (.int .i64) x_.1.File, .val (.int .i64) x_.1.Off, .val (.int .i64) x_.1.I, .val (.int .i64) x_.1.To, .val .str x_.1.Text, .nils]), .box false (.val (.named 4) x_.2.1), .box false (.val (.named 5) o2), .box false (.val (.named 5) o3), .box false (.val (.named 4) x_.2.2.1), .box false (.val (.named 5) x_.2.2.2)]))) (fun x_ => some (.inr (.exit 2, ofSlots E 169 [] [4, 5, 6, 7] [.undef, .val (.int .i64) n, .ptr 0 [], .ptr 1 []], [.box false (.agg 6 [.val (.int .i64) x_.1.Kind, .val (.int .i64) x_.1.R, .val (.int .i64) x_.1.By, .val (.int .i64) x_.1.File, .val (.int .i64) x_.1.Off, .val (.int .i64) x_.1.I, .val (.int .i64) x_.1.To, .val .str x_.1.Text, .nils]), .box false (.val (.named 4) x_.2), .box false (.val (.named 5) o2), .box false (.val (.named 5) o3)]))) i w c := by kernel_rfl
theorem q4_s1 : InsLp 169 [1, 5, 6, 7, 16] [] [] (stepOf E S4 L4 0 1 Try.f4) g4_s1 := by
  intro more n i w_Kind w_R w_By w_File w_Off w_I w_To w_Text c o2 o3 out_ ho_
  obtain ⟨x_, h1_, h2_⟩ := Option.bind_eq_some_iff.1 ho_
  refine iter_loop (rs := [4, 5, 6, 7]) (step := N.law20_ClientFull_s1 N.fuel more n o2 o3) (hd := fun v_ => h4_s1 more n o2 o3 v_.1 v_.2.1 v_.2.2) (sv := fun v_ => t4_s1 more n o2 o3 v_.1 v_.2.1 v_.2.2) (ex := x4_s1 more n o2 o3) (fun v_ => ?_) N.fuel (i, (N.TStep.mk w_Kind w_R w_By w_File w_Off w_I w_To w_Text []), c) h1_ h2_
  refine (f4_s1 more n o2 o3 v_.1 v_.2.1 v_.2.2).trans ((N.law20_ClientFull_s1_bind N.fuel more n o2 o3 _ _ _ v_.1 v_.2.1 v_.2.2).trans ?_)
  refine congrArg _ (funext fun s_ => ?_)
  rcases s_ with v_ | a | a <;> rfl
noncomputable def B4 : List (DVal E.T) → St E.T → Tree (Res E.T × St E.T) := dbody E (lookS S4) (lookD []) L4 0 false Try.f4
theorem B4_ok : FnOk Try.prog E 4 B4 := bodyC_ok sound mix S4_ok (SD := []) trivial (L := L4) (N := 0) (keep := false) Try.func4 rfl (by
  intro k g hg fr st out ho
  match k, hg with
  | 0, hg => cases hg; exact lp_ok (allLp_cons q4_s0 (allLp_nil)) fr st out ho
  | 1, hg => cases hg; exact lp_ok (allLp_cons q4_s1 (allLp_nil)) fr st out ho
  | _ + 2, hg => cases hg)
theorem F4 (f : UInt8) (more : UInt8) : (B4 [.val (.int .u8) f, .val (.int .u8) more] []).get = N.law20_ClientFull_k N.fuel (fun x_ => some (.ret [.val .bool x_], [])) f more := by kernel_rfl
noncomputable def i4 : Ins E (Res E.T × St E.T) := ⟨[.v (.int .u8), .v (.int .u8)], [], fun f more => .opt (N.law20_ClientFull N.fuel f more) fun x_ => .ret (.ret [.val .bool x_], [])⟩
theorem i4_ok : InsOk Try.prog 4 i4 := ⟨B4, B4_ok, by intro f more out_ h_; exact ((F4 f more).trans (N.law20_ClientFull_bind N.fuel _ f more)).trans h_⟩
noncomputable def P4 : Nat × D.Spec E := (4, .pure [(.int .u8), (.int .u8)] (pureF [i4]))
theorem p4 : SpecOk Try.prog E P4.1 P4.2 := pureI_ok Try.call4 ⟨i4_ok, trivial⟩

end Go.Proofs.Ythabbcjjecpbmaa.C

set_option maxRecDepth 100000
set_option linter.unusedVariables false
namespace Go.Proofs.Ythabbcjjecpbmaa.N
open Go

theorem tmod_cases (x : UInt8) (m : Int) (hm : 0 < m) : 0 ≤ (i8 x).tmod m ∧ (i8 x).tmod m < m := by
  have h : 0 ≤ i8 x := Int.natCast_nonneg _
  rw [Int.tmod_eq_emod_of_nonneg h]
  exact ⟨Int.emod_nonneg _ (by omega), Int.emod_lt_of_pos _ hm⟩

theorem full_at (f more : UInt8) (j k : Int) (hj : (i8 f).tmod 6 = j) (hk : (i8 more).tmod 4 = k) (h : law20_ClientFull fuel (b8 j) (b8 k) = some true) (e1 : (i8 (b8 j)).tmod 6 = j) (e2 : (i8 (b8 k)).tmod 4 = k) : law20_ClientFull fuel f more = some true := by
  rw [← h]
  have s0 : ∀ (m m' : UInt8) (n : Int) (o2 : TAns), law20_ClientFull_s0 fuel m n o2 = law20_ClientFull_s0 fuel m' n o2 := fun _ _ _ _ => rfl
  have l0 : ∀ (m m' : UInt8) (n : Int) (o2 : TAns) (i : Int) (w : TStep) (c : TClient), law20_ClientFull_l0 fuel m n o2 i w c = law20_ClientFull_l0 fuel m' n o2 i w c := fun m m' n o2 i w c => by unfold law20_ClientFull_l0; rw [s0 m m']
  have s1 : ∀ (n : Int) (o2 o3 : TAns), law20_ClientFull_s1 fuel more n o2 o3 = law20_ClientFull_s1 fuel (b8 k) n o2 o3 := fun n o2 o3 => by
    funext v
    unfold law20_ClientFull_s1 law20_ClientFull_s1k
    rw [hk, e2]
  have l1 : ∀ (n : Int) (o2 o3 : TAns) (i : Int) (w : TStep) (c : TClient), law20_ClientFull_l1 fuel more n o2 o3 i w c = law20_ClientFull_l1 fuel (b8 k) n o2 o3 i w c := fun n o2 o3 i w c => by unfold law20_ClientFull_l1; rw [s1]
  unfold law20_ClientFull law20_ClientFull_k
  rw [hj, e1]
  simp only [l1, l0 more (b8 k)]

theorem law20_ClientFull_ok (f more : UInt8) : law20_ClientFull fuel f more = some true := by
  obtain ⟨a, b⟩ := tmod_cases f 6 (by omega)
  obtain ⟨c, d⟩ := tmod_cases more 4 (by omega)
  have hj : (i8 f).tmod 6 = 0 ∨ (i8 f).tmod 6 = 1 ∨ (i8 f).tmod 6 = 2 ∨ (i8 f).tmod 6 = 3 ∨ (i8 f).tmod 6 = 4 ∨ (i8 f).tmod 6 = 5 := by omega
  have hk : (i8 more).tmod 4 = 0 ∨ (i8 more).tmod 4 = 1 ∨ (i8 more).tmod 4 = 2 ∨ (i8 more).tmod 4 = 3 := by omega
  rcases hj with hj | hj | hj | hj | hj | hj <;> rcases hk with hk | hk | hk | hk <;> exact full_at f more _ _ hj hk (by rw [fuel_eq]; kernel_rfl) (by kernel_rfl) (by kernel_rfl)
end Go.Proofs.Ythabbcjjecpbmaa.N

set_option linter.unusedVariables false
set_option maxRecDepth 100000
namespace Go.Proofs.Ythabbcjjecpbmaa
open Go Go.ChangeShapes Go.WideShapes Go.ChangeAt Go.RowKit
namespace Q4
open Go.Proofs.Ythabbcjjecpbmaa.D Go.Proofs.Ythabbcjjecpbmaa.C

theorem law (xs : List (DVal E.T)) (h : ArgsOk E 1048576 [(.int .u8), (.int .u8)] xs) : (B4 xs []).get = some (.ret [.val .bool true], []) := by
  match xs, h with
  | [_, _], .cons _ _ x0 _ h0 (.cons _ _ x1 _ h1 .nil) => exact (F4 x0 x1).trans ((N.law20_ClientFull_bind N.fuel _ x0 x1).trans (by rw [N.law20_ClientFull_ok x0 x1]; rfl))

theorem contract (H : Type) (enc : TypeId × Value → H) (W : World) (base : Nat) (args : Array Value) (ds gs : List (DataW H)) (before : List MemPlace)
    (hval : ∀ (j : Nat) t v, Try.f4.params[j]? = some t → args[j]? = some v → Value.okWide Try.prog W .any base t v)
    (hW : DataW.Whole enc Try.prog Try.f4.params.toList Rows.clientFullSpec.vars false W args.toList ds gs before) (hk : ∀ d ∈ ds, Rows.uptoBulk d ≤ 1048576) :
    Calls Try.prog 4 args W fun e W' => ∃ v, e = .returned v ∧ Rows.clientFullSpec.post enc Try.prog Try.f4 false true false false W args v W' :=
  law_contract sound tl laid full meas bl (fn := Try.f4) (tb := 4) rfl Try.underlying4 (ps := [(.int .u8), (.int .u8)]) rfl
    (by
      have h : (Try.f4.params.toList.all fun t => Try.prog.readableRec t && decide (t < Try.prog.types.size)) = true := by kernel_rfl
      intro t ht
      have := List.all_eq_true.1 h t ht
      simpa using this) rfl
    (fun ds hd => by
      match ds, hd with
      | [x0, x1], _ => rfl)
    B4_ok law W base args ds gs before hval hW hk

theorem lifted (os : Os) (started : os.Started) (H : Type) (enc : TypeId × Value → H) (F : Stop.Interp) :
    ReturnsInHanded {} Try.checked os 4 .any ((Rows.OpenSpec.upto Rows.clientFullSpec).pre6 enc Try.prog Try.f4 Rows.clientFullUptoRow.domain false) (((Rows.OpenSpec.upto Rows.clientFullSpec).at F).post enc Try.prog Try.f4 false true false false) := by
  refine returnsInHanded_of_cond (C := Try.checked) (s := Rows.OpenSpec.upto Rows.clientFullSpec) (k := Rows.uptoSmall) rfl own started (by kernel_rfl) Try.func4
    (OpenSpec.witness (enc := enc) (C := Try.checked) (s := Rows.OpenSpec.upto Rows.clientFullSpec) (k := Rows.uptoSmall) rfl false ⟨#[], #[.int .u8 0, .int .u8 0], []⟩ 8 (by kernel_rfl) (by kernel_rfl) (by kernel_rfl)
      (x := ([.lit (.int .u8 0), .lit (.int .u8 0)], [], [])) (by kernel_rfl) rfl (by kernel_rfl)) ?_
  intro W base args ds gs before hval hW _ hk _
  have hgs : gs = [] := by
    obtain ⟨p, q, hA, hV, _⟩ := hW
    cases gs with
    | nil => rfl
    | cons g gs => exact hV.elim
  subst hgs
  exact contract H enc W base args ds [] before hval hW (small hk)

theorem over : Rows.clientFullUptoRow.holds Try.pinned (Rows.OpenSpec.upto Rows.clientFullSpec) :=
  OpenClaim.holds_of_cond 4 Try.f4 rfl rfl rfl rfl rfl rfl rfl ⟨rfl, rfl, rfl, rfl, rfl⟩ rfl rfl rfl rfl rfl (by kernel_rfl) Try.func4 (by kernel_rfl)
    (of_decide_eq_true (by kernel_rfl)) (by unfold Func.isWrapper; first | (rw [if_pos (by decide +kernel)]; kernel_rfl) | (rw [if_neg (by decide +kernel)]; exact ⟨rfl, rfl⟩))
    (fun os started H enc _ F => lifted os started H enc F)
end Q4
theorem clientFull_holds : Rows.ClientFullUptoSaid := Q4.over
end Go.Proofs.Ythabbcjjecpbmaa
