/- The seat's functions, and the nice ones (3). -/
import Derived.Test.YthabbcjjecpbmaaGreatSeat4
set_option linter.unusedVariables false
set_option maxRecDepth 100000
namespace Go.Proofs.YthabbcjjecpbmaaGreat.Z
open Go Go.Proofs.YthabbcjjecpbmaaGreat.D

/-! (*tenancy/client.work).step -/
noncomputable def S80 : List (Nat × D.Spec E) := [P106, P107, P108, P109, P110, P111, P112, P113, P72]
theorem S80_ok : AllS Tryz.prog E S80 := ⟨p106, p107, p108, p109, p110, p111, p112, p113, p72, trivial⟩
noncomputable def L80 : Nat → LoopInfo E := clL E 105 [] []
noncomputable def B80 : List (DVal E.T) → St E.T → Tree (Res E.T × St E.T) := tidyF (dbody E (lookS S80) (lookD []) L80 0 true Tryz.f80)
theorem B80_ok : FnOk Tryz.prog E 80 B80 := tidy_fn ok (bodyC_ok sound mix S80_ok (SD := []) trivial (L := L80) (N := 0) (keep := true) Tryz.func80 rfl (by
  intro k g hg fr st out ho
  match k, hg with
  | _, hg => cases hg))
theorem F80 (s : N.TStep) (w_Client_ID : Int) (w_Client_Now : Int) (w_Client_Epoch : Int) (w_Client_Seq : Int) (w_Client_Out : N.TOut) (w_Client_Bad : Int) (w_Client_Hits : Int) (w_Client_Asks : Int) (a1_ : List N.TCache) (a2_ : List (List UInt8)) : (B80 [.ptr 0 [], .val (.named 5) s] [.box false (.agg 8 [.agg 4 [.val (.int .i64) w_Client_ID, .val (.int .i64) w_Client_Now, .val (.int .i64) w_Client_Epoch, .val (.int .i64) w_Client_Seq, .own 1, .own 2, .val (.named 3) w_Client_Out, .val (.int .i64) w_Client_Bad, .val (.int .i64) w_Client_Hits, .val (.int .i64) w_Client_Asks], .nils]), .arr .live (.named 1) a1_, .arr .live .str a2_]).get = N.client_work_step_k N.fuel (fun x_ => some (.ret [], [.box false (.agg 8 [.agg 4 [.val (.int .i64) x_.Client.ID, .val (.int .i64) x_.Client.Now, .val (.int .i64) x_.Client.Epoch, .val (.int .i64) x_.Client.Seq, .own 1, .own 2, .val (.named 3) x_.Client.Out, .val (.int .i64) x_.Client.Bad, .val (.int .i64) x_.Client.Hits, .val (.int .i64) x_.Client.Asks], .nils]), .arr .live (.named 1) x_.Client.Files, .arr .live .str x_.Client.Names, .dead, .dead])) (fun x_ => some (.ret [], [.box false (.agg 8 [.agg 4 [.val (.int .i64) x_.Client.ID, .val (.int .i64) x_.Client.Now, .val (.int .i64) x_.Client.Epoch, .val (.int .i64) x_.Client.Seq, .own 1, .own 2, .val (.named 3) x_.Client.Out, .val (.int .i64) x_.Client.Bad, .val (.int .i64) x_.Client.Hits, .val (.int .i64) x_.Client.Asks], .nils]), .arr .live (.named 1) x_.Client.Files, .arr .live .str x_.Client.Names, .dead, .dead, .dead])) (fun x_ => some (.ret [], [.box false (.agg 8 [.agg 4 [.val (.int .i64) x_.Client.ID, .val (.int .i64) x_.Client.Now, .val (.int .i64) x_.Client.Epoch, .val (.int .i64) x_.Client.Seq, .own 1, .own 2, .val (.named 3) x_.Client.Out, .val (.int .i64) x_.Client.Bad, .val (.int .i64) x_.Client.Hits, .val (.int .i64) x_.Client.Asks], .own 10]), .arr .live (.named 1) x_.Client.Files, .arr .live .str x_.Client.Names, .dead, .dead, .dead, .dead, .dead, .dead, .dead, .arr .live (.named 2) x_.asked])) (fun x_ => some (.ret [], [.box false (.agg 8 [.agg 4 [.val (.int .i64) x_.Client.ID, .val (.int .i64) x_.Client.Now, .val (.int .i64) x_.Client.Epoch, .val (.int .i64) x_.Client.Seq, .own 1, .own 2, .val (.named 3) x_.Client.Out, .val (.int .i64) x_.Client.Bad, .val (.int .i64) x_.Client.Hits, .val (.int .i64) x_.Client.Asks], .own 11]), .arr .live (.named 1) x_.Client.Files, .arr .live .str x_.Client.Names, .dead, .dead, .dead, .dead, .dead, .dead, .dead, .dead, .arr .live (.named 2) x_.asked])) (fun x_ => some (.ret [], [.box false (.agg 8 [.agg 4 [.val (.int .i64) x_.Client.ID, .val (.int .i64) x_.Client.Now, .val (.int .i64) x_.Client.Epoch, .val (.int .i64) x_.Client.Seq, .own 1, .own 2, .val (.named 3) x_.Client.Out, .val (.int .i64) x_.Client.Bad, .val (.int .i64) x_.Client.Hits, .val (.int .i64) x_.Client.Asks], .own 5]), .arr .live (.named 1) x_.Client.Files, .arr .live .str x_.Client.Names, .dead, .dead, .arr .live (.named 2) x_.asked])) (fun x_ => some (.ret [], [.box false (.agg 8 [.agg 4 [.val (.int .i64) x_.Client.ID, .val (.int .i64) x_.Client.Now, .val (.int .i64) x_.Client.Epoch, .val (.int .i64) x_.Client.Seq, .own 1, .own 2, .val (.named 3) x_.Client.Out, .val (.int .i64) x_.Client.Bad, .val (.int .i64) x_.Client.Hits, .val (.int .i64) x_.Client.Asks], .own 6]), .arr .live (.named 1) x_.Client.Files, .arr .live .str x_.Client.Names, .dead, .dead, .dead, .arr .live (.named 2) x_.asked])) (fun x_ => some (.ret [], [.box false (.agg 8 [.agg 4 [.val (.int .i64) x_.Client.ID, .val (.int .i64) x_.Client.Now, .val (.int .i64) x_.Client.Epoch, .val (.int .i64) x_.Client.Seq, .own 1, .own 2, .val (.named 3) x_.Client.Out, .val (.int .i64) x_.Client.Bad, .val (.int .i64) x_.Client.Hits, .val (.int .i64) x_.Client.Asks], .own 7]), .arr .live (.named 1) x_.Client.Files, .arr .live .str x_.Client.Names, .dead, .dead, .dead, .dead, .arr .live (.named 2) x_.asked])) (fun x_ => some (.ret [], [.box false (.agg 8 [.agg 4 [.val (.int .i64) x_.Client.ID, .val (.int .i64) x_.Client.Now, .val (.int .i64) x_.Client.Epoch, .val (.int .i64) x_.Client.Seq, .own 1, .own 2, .val (.named 3) x_.Client.Out, .val (.int .i64) x_.Client.Bad, .val (.int .i64) x_.Client.Hits, .val (.int .i64) x_.Client.Asks], .own 8]), .arr .live (.named 1) x_.Client.Files, .arr .live .str x_.Client.Names, .dead, .dead, .dead, .dead, .dead, .arr .live (.named 2) x_.asked])) (fun x_ => some (.ret [], [.box false (.agg 8 [.agg 4 [.val (.int .i64) x_.Client.ID, .val (.int .i64) x_.Client.Now, .val (.int .i64) x_.Client.Epoch, .val (.int .i64) x_.Client.Seq, .own 1, .own 2, .val (.named 3) x_.Client.Out, .val (.int .i64) x_.Client.Bad, .val (.int .i64) x_.Client.Hits, .val (.int .i64) x_.Client.Asks], .own 9]), .arr .live (.named 1) x_.Client.Files, .arr .live .str x_.Client.Names, .dead, .dead, .dead, .dead, .dead, .dead, .arr .live (.named 2) x_.asked])) (fun x_ => some (.panic (.ifc 137 (.val (.named 12) x_.1)), [.box false (.agg 8 [.agg 4 [.val (.int .i64) x_.2.Client.ID, .val (.int .i64) x_.2.Client.Now, .val (.int .i64) x_.2.Client.Epoch, .val (.int .i64) x_.2.Client.Seq, .own 1, .own 2, .val (.named 3) x_.2.Client.Out, .val (.int .i64) x_.2.Client.Bad, .val (.int .i64) x_.2.Client.Hits, .val (.int .i64) x_.2.Client.Asks], .nils]), .arr .live (.named 1) x_.2.Client.Files, .arr .live .str x_.2.Client.Names, .dead])) (fun x_ => some (.panic (.ifc 137 (.val (.named 12) x_.1)), [.box false (.agg 8 [.agg 4 [.val (.int .i64) x_.2.Client.ID, .val (.int .i64) x_.2.Client.Now, .val (.int .i64) x_.2.Client.Epoch, .val (.int .i64) x_.2.Client.Seq, .own 1, .own 2, .val (.named 3) x_.2.Client.Out, .val (.int .i64) x_.2.Client.Bad, .val (.int .i64) x_.2.Client.Hits, .val (.int .i64) x_.2.Client.Asks], .nils]), .arr .live (.named 1) x_.2.Client.Files, .arr .live .str x_.2.Client.Names, .dead, .dead])) (fun x_ => some (.panic (.ifc 137 (.val (.named 12) x_.1)), [.box false (.agg 8 [.agg 4 [.val (.int .i64) x_.2.Client.ID, .val (.int .i64) x_.2.Client.Now, .val (.int .i64) x_.2.Client.Epoch, .val (.int .i64) x_.2.Client.Seq, .own 1, .own 2, .val (.named 3) x_.2.Client.Out, .val (.int .i64) x_.2.Client.Bad, .val (.int .i64) x_.2.Client.Hits, .val (.int .i64) x_.2.Client.Asks], .nils]), .arr .live (.named 1) x_.2.Client.Files, .arr .live .str x_.2.Client.Names, .dead, .dead, .dead])) (fun x_ => some (.panic (.ifc 137 (.val (.named 12) x_.1)), [.box false (.agg 8 [.agg 4 [.val (.int .i64) x_.2.Client.ID, .val (.int .i64) x_.2.Client.Now, .val (.int .i64) x_.2.Client.Epoch, .val (.int .i64) x_.2.Client.Seq, .own 1, .own 2, .val (.named 3) x_.2.Client.Out, .val (.int .i64) x_.2.Client.Bad, .val (.int .i64) x_.2.Client.Hits, .val (.int .i64) x_.2.Client.Asks], .nils]), .arr .live (.named 1) x_.2.Client.Files, .arr .live .str x_.2.Client.Names, .dead, .dead, .dead, .dead])) (fun x_ => some (.panic (.ifc 137 (.val (.named 12) x_.1)), [.box false (.agg 8 [.agg 4 [.val (.int .i64) x_.2.Client.ID, .val (.int .i64) x_.2.Client.Now, .val (.int .i64) x_.2.Client.Epoch, .val (.int .i64) x_.2.Client.Seq, .own 1, .own 2, .val (.named 3) x_.2.Client.Out, .val (.int .i64) x_.2.Client.Bad, .val (.int .i64) x_.2.Client.Hits, .val (.int .i64) x_.2.Client.Asks], .nils]), .arr .live (.named 1) x_.2.Client.Files, .arr .live .str x_.2.Client.Names, .dead, .dead, .dead, .dead, .dead])) (fun x_ => some (.panic (.ifc 137 (.val (.named 12) x_.1)), [.box false (.agg 8 [.agg 4 [.val (.int .i64) x_.2.Client.ID, .val (.int .i64) x_.2.Client.Now, .val (.int .i64) x_.2.Client.Epoch, .val (.int .i64) x_.2.Client.Seq, .own 1, .own 2, .val (.named 3) x_.2.Client.Out, .val (.int .i64) x_.2.Client.Bad, .val (.int .i64) x_.2.Client.Hits, .val (.int .i64) x_.2.Client.Asks], .nils]), .arr .live (.named 1) x_.2.Client.Files, .arr .live .str x_.2.Client.Names, .dead, .dead, .dead, .dead, .dead, .dead])) s (N.Tclient_work.mk (N.TClient.mk w_Client_ID w_Client_Now w_Client_Epoch w_Client_Seq a1_ a2_ w_Client_Out w_Client_Bad w_Client_Hits w_Client_Asks) []) := by kernel_rfl
noncomputable def i80 : Ins E (Res E.T × St E.T) := ⟨[.ptr 0 [], .v (.named 5)], [.box false (.agg 8 [.agg 4 [.v (.int .i64), .v (.int .i64), .v (.int .i64), .v (.int .i64), .own 1, .own 2, .v (.named 3), .v (.int .i64), .v (.int .i64), .v (.int .i64)], .nils]), .arr .live (.named 1), .arr .live .str], fun s w_Client_ID w_Client_Now w_Client_Epoch w_Client_Seq w_Client_Out w_Client_Bad w_Client_Hits w_Client_Asks a1_ a2_ => .opt (N.client_work_step N.fuel s (N.Tclient_work.mk (N.TClient.mk w_Client_ID w_Client_Now w_Client_Epoch w_Client_Seq a1_ a2_ w_Client_Out w_Client_Bad w_Client_Hits w_Client_Asks) [])) fun x_ => altT x_ (fun u0_ => .ret (.ret [], [.box false (.agg 8 [.agg 4 [.val (.int .i64) u0_.Client.ID, .val (.int .i64) u0_.Client.Now, .val (.int .i64) u0_.Client.Epoch, .val (.int .i64) u0_.Client.Seq, .own 1, .own 2, .val (.named 3) u0_.Client.Out, .val (.int .i64) u0_.Client.Bad, .val (.int .i64) u0_.Client.Hits, .val (.int .i64) u0_.Client.Asks], .nils]), .arr .live (.named 1) u0_.Client.Files, .arr .live .str u0_.Client.Names, .dead, .dead])) (fun w0_ => altT w0_ (fun u1_ => .ret (.ret [], [.box false (.agg 8 [.agg 4 [.val (.int .i64) u1_.Client.ID, .val (.int .i64) u1_.Client.Now, .val (.int .i64) u1_.Client.Epoch, .val (.int .i64) u1_.Client.Seq, .own 1, .own 2, .val (.named 3) u1_.Client.Out, .val (.int .i64) u1_.Client.Bad, .val (.int .i64) u1_.Client.Hits, .val (.int .i64) u1_.Client.Asks], .nils]), .arr .live (.named 1) u1_.Client.Files, .arr .live .str u1_.Client.Names, .dead, .dead, .dead])) (fun w1_ => altT w1_ (fun u2_ => .ret (.ret [], [.box false (.agg 8 [.agg 4 [.val (.int .i64) u2_.Client.ID, .val (.int .i64) u2_.Client.Now, .val (.int .i64) u2_.Client.Epoch, .val (.int .i64) u2_.Client.Seq, .own 1, .own 2, .val (.named 3) u2_.Client.Out, .val (.int .i64) u2_.Client.Bad, .val (.int .i64) u2_.Client.Hits, .val (.int .i64) u2_.Client.Asks], .own 10]), .arr .live (.named 1) u2_.Client.Files, .arr .live .str u2_.Client.Names, .dead, .dead, .dead, .dead, .dead, .dead, .dead, .arr .live (.named 2) u2_.asked])) (fun w2_ => altT w2_ (fun u3_ => .ret (.ret [], [.box false (.agg 8 [.agg 4 [.val (.int .i64) u3_.Client.ID, .val (.int .i64) u3_.Client.Now, .val (.int .i64) u3_.Client.Epoch, .val (.int .i64) u3_.Client.Seq, .own 1, .own 2, .val (.named 3) u3_.Client.Out, .val (.int .i64) u3_.Client.Bad, .val (.int .i64) u3_.Client.Hits, .val (.int .i64) u3_.Client.Asks], .own 11]), .arr .live (.named 1) u3_.Client.Files, .arr .live .str u3_.Client.Names, .dead, .dead, .dead, .dead, .dead, .dead, .dead, .dead, .arr .live (.named 2) u3_.asked])) (fun w3_ => altT w3_ (fun u4_ => .ret (.ret [], [.box false (.agg 8 [.agg 4 [.val (.int .i64) u4_.Client.ID, .val (.int .i64) u4_.Client.Now, .val (.int .i64) u4_.Client.Epoch, .val (.int .i64) u4_.Client.Seq, .own 1, .own 2, .val (.named 3) u4_.Client.Out, .val (.int .i64) u4_.Client.Bad, .val (.int .i64) u4_.Client.Hits, .val (.int .i64) u4_.Client.Asks], .own 5]), .arr .live (.named 1) u4_.Client.Files, .arr .live .str u4_.Client.Names, .dead, .dead, .arr .live (.named 2) u4_.asked])) (fun w4_ => altT w4_ (fun u5_ => .ret (.ret [], [.box false (.agg 8 [.agg 4 [.val (.int .i64) u5_.Client.ID, .val (.int .i64) u5_.Client.Now, .val (.int .i64) u5_.Client.Epoch, .val (.int .i64) u5_.Client.Seq, .own 1, .own 2, .val (.named 3) u5_.Client.Out, .val (.int .i64) u5_.Client.Bad, .val (.int .i64) u5_.Client.Hits, .val (.int .i64) u5_.Client.Asks], .own 6]), .arr .live (.named 1) u5_.Client.Files, .arr .live .str u5_.Client.Names, .dead, .dead, .dead, .arr .live (.named 2) u5_.asked])) (fun w5_ => altT w5_ (fun u6_ => .ret (.ret [], [.box false (.agg 8 [.agg 4 [.val (.int .i64) u6_.Client.ID, .val (.int .i64) u6_.Client.Now, .val (.int .i64) u6_.Client.Epoch, .val (.int .i64) u6_.Client.Seq, .own 1, .own 2, .val (.named 3) u6_.Client.Out, .val (.int .i64) u6_.Client.Bad, .val (.int .i64) u6_.Client.Hits, .val (.int .i64) u6_.Client.Asks], .own 7]), .arr .live (.named 1) u6_.Client.Files, .arr .live .str u6_.Client.Names, .dead, .dead, .dead, .dead, .arr .live (.named 2) u6_.asked])) (fun w6_ => altT w6_ (fun u7_ => .ret (.ret [], [.box false (.agg 8 [.agg 4 [.val (.int .i64) u7_.Client.ID, .val (.int .i64) u7_.Client.Now, .val (.int .i64) u7_.Client.Epoch, .val (.int .i64) u7_.Client.Seq, .own 1, .own 2, .val (.named 3) u7_.Client.Out, .val (.int .i64) u7_.Client.Bad, .val (.int .i64) u7_.Client.Hits, .val (.int .i64) u7_.Client.Asks], .own 8]), .arr .live (.named 1) u7_.Client.Files, .arr .live .str u7_.Client.Names, .dead, .dead, .dead, .dead, .dead, .arr .live (.named 2) u7_.asked])) (fun w7_ => altT w7_ (fun u8_ => .ret (.ret [], [.box false (.agg 8 [.agg 4 [.val (.int .i64) u8_.Client.ID, .val (.int .i64) u8_.Client.Now, .val (.int .i64) u8_.Client.Epoch, .val (.int .i64) u8_.Client.Seq, .own 1, .own 2, .val (.named 3) u8_.Client.Out, .val (.int .i64) u8_.Client.Bad, .val (.int .i64) u8_.Client.Hits, .val (.int .i64) u8_.Client.Asks], .own 9]), .arr .live (.named 1) u8_.Client.Files, .arr .live .str u8_.Client.Names, .dead, .dead, .dead, .dead, .dead, .dead, .arr .live (.named 2) u8_.asked])) (fun w8_ => altT w8_ (fun u9_ => .ret (.panic (.ifc 137 (.val (.named 12) u9_.1)), [.box false (.agg 8 [.agg 4 [.val (.int .i64) u9_.2.Client.ID, .val (.int .i64) u9_.2.Client.Now, .val (.int .i64) u9_.2.Client.Epoch, .val (.int .i64) u9_.2.Client.Seq, .own 1, .own 2, .val (.named 3) u9_.2.Client.Out, .val (.int .i64) u9_.2.Client.Bad, .val (.int .i64) u9_.2.Client.Hits, .val (.int .i64) u9_.2.Client.Asks], .nils]), .arr .live (.named 1) u9_.2.Client.Files, .arr .live .str u9_.2.Client.Names, .dead])) (fun w9_ => altT w9_ (fun u10_ => .ret (.panic (.ifc 137 (.val (.named 12) u10_.1)), [.box false (.agg 8 [.agg 4 [.val (.int .i64) u10_.2.Client.ID, .val (.int .i64) u10_.2.Client.Now, .val (.int .i64) u10_.2.Client.Epoch, .val (.int .i64) u10_.2.Client.Seq, .own 1, .own 2, .val (.named 3) u10_.2.Client.Out, .val (.int .i64) u10_.2.Client.Bad, .val (.int .i64) u10_.2.Client.Hits, .val (.int .i64) u10_.2.Client.Asks], .nils]), .arr .live (.named 1) u10_.2.Client.Files, .arr .live .str u10_.2.Client.Names, .dead, .dead])) (fun w10_ => altT w10_ (fun u11_ => .ret (.panic (.ifc 137 (.val (.named 12) u11_.1)), [.box false (.agg 8 [.agg 4 [.val (.int .i64) u11_.2.Client.ID, .val (.int .i64) u11_.2.Client.Now, .val (.int .i64) u11_.2.Client.Epoch, .val (.int .i64) u11_.2.Client.Seq, .own 1, .own 2, .val (.named 3) u11_.2.Client.Out, .val (.int .i64) u11_.2.Client.Bad, .val (.int .i64) u11_.2.Client.Hits, .val (.int .i64) u11_.2.Client.Asks], .nils]), .arr .live (.named 1) u11_.2.Client.Files, .arr .live .str u11_.2.Client.Names, .dead, .dead, .dead])) (fun w11_ => altT w11_ (fun u12_ => .ret (.panic (.ifc 137 (.val (.named 12) u12_.1)), [.box false (.agg 8 [.agg 4 [.val (.int .i64) u12_.2.Client.ID, .val (.int .i64) u12_.2.Client.Now, .val (.int .i64) u12_.2.Client.Epoch, .val (.int .i64) u12_.2.Client.Seq, .own 1, .own 2, .val (.named 3) u12_.2.Client.Out, .val (.int .i64) u12_.2.Client.Bad, .val (.int .i64) u12_.2.Client.Hits, .val (.int .i64) u12_.2.Client.Asks], .nils]), .arr .live (.named 1) u12_.2.Client.Files, .arr .live .str u12_.2.Client.Names, .dead, .dead, .dead, .dead])) (fun w12_ => altT w12_ (fun u13_ => .ret (.panic (.ifc 137 (.val (.named 12) u13_.1)), [.box false (.agg 8 [.agg 4 [.val (.int .i64) u13_.2.Client.ID, .val (.int .i64) u13_.2.Client.Now, .val (.int .i64) u13_.2.Client.Epoch, .val (.int .i64) u13_.2.Client.Seq, .own 1, .own 2, .val (.named 3) u13_.2.Client.Out, .val (.int .i64) u13_.2.Client.Bad, .val (.int .i64) u13_.2.Client.Hits, .val (.int .i64) u13_.2.Client.Asks], .nils]), .arr .live (.named 1) u13_.2.Client.Files, .arr .live .str u13_.2.Client.Names, .dead, .dead, .dead, .dead, .dead])) (fun w13_ => .ret (.panic (.ifc 137 (.val (.named 12) w13_.1)), [.box false (.agg 8 [.agg 4 [.val (.int .i64) w13_.2.Client.ID, .val (.int .i64) w13_.2.Client.Now, .val (.int .i64) w13_.2.Client.Epoch, .val (.int .i64) w13_.2.Client.Seq, .own 1, .own 2, .val (.named 3) w13_.2.Client.Out, .val (.int .i64) w13_.2.Client.Bad, .val (.int .i64) w13_.2.Client.Hits, .val (.int .i64) w13_.2.Client.Asks], .nils]), .arr .live (.named 1) w13_.2.Client.Files, .arr .live .str w13_.2.Client.Names, .dead, .dead, .dead, .dead, .dead, .dead])))))))))))))))⟩
theorem i80_ok : InsOk Tryz.prog 80 i80 := ⟨B80, B80_ok, by intro s w_Client_ID w_Client_Now w_Client_Epoch w_Client_Seq w_Client_Out w_Client_Bad w_Client_Hits w_Client_Asks a1_ a2_ out_ h_; exact ((F80 s w_Client_ID w_Client_Now w_Client_Epoch w_Client_Seq w_Client_Out w_Client_Bad w_Client_Hits w_Client_Asks a1_ a2_).trans (N.client_work_step_bind N.fuel _ _ _ _ _ _ _ _ _ _ _ _ _ _ _ s (N.Tclient_work.mk (N.TClient.mk w_Client_ID w_Client_Now w_Client_Epoch w_Client_Seq a1_ a2_ w_Client_Out w_Client_Bad w_Client_Hits w_Client_Asks) []))).trans h_⟩
noncomputable def P80 : Nat × D.Spec E := (80, .full [.ptr, .data (.named 5)] false (fullF [i80]))
theorem p80 : SpecOk Tryz.prog E P80.1 P80.2 := fullI_ok ok Tryz.call80 ⟨i80_ok, trivial⟩

/-! tenancy/client.caught -/
noncomputable def S79 : List (Nat × D.Spec E) := []
theorem S79_ok : AllS Tryz.prog E S79 := trivial
noncomputable def L79 : Nat → LoopInfo E := clL E 20 [] []
noncomputable def B79 : DSpec E := dbodyD E (lookS S79) L79 0 Tryz.f79
theorem p79 : DSpecOk Tryz.prog E 79 B79 := dfullD_ok sound mix S79_ok (L := L79) (fun _ => rfl) Tryz.call79 Tryz.func79 rfl

/-! (*tenancy/client.work).does -/
noncomputable def S35 : List (Nat × D.Spec E) := [P80]
theorem S35_ok : AllS Tryz.prog E S35 := ⟨p80, trivial⟩
noncomputable def D35 : List (Nat × DSpec E) := [(79, B79)]
theorem D35_ok : AllD Tryz.prog E D35 := ⟨p79, trivial⟩
noncomputable def L35 : Nat → LoopInfo E := clL E 9 [] []
noncomputable def B35 : List (DVal E.T) → St E.T → Tree (Res E.T × St E.T) := tidyF (dbody E (lookS S35) (lookD D35) L35 0 true Tryz.f35)
theorem B35_ok : FnOk Tryz.prog E 35 B35 := tidy_fn ok (bodyC_ok sound mix S35_ok (SD := D35) D35_ok (L := L35) (N := 0) (keep := true) Tryz.func35 rfl (by
  intro k g hg fr st out ho
  match k, hg with
  | _, hg => cases hg))
theorem F35 (s : N.TStep) (w_Client_ID : Int) (w_Client_Now : Int) (w_Client_Epoch : Int) (w_Client_Seq : Int) (w_Client_Out : N.TOut) (w_Client_Bad : Int) (w_Client_Hits : Int) (w_Client_Asks : Int) (a1_ : List N.TCache) (a2_ : List (List UInt8)) : (B35 [.ptr 0 [], .val (.named 5) s] [.box false (.agg 8 [.agg 4 [.val (.int .i64) w_Client_ID, .val (.int .i64) w_Client_Now, .val (.int .i64) w_Client_Epoch, .val (.int .i64) w_Client_Seq, .own 1, .own 2, .val (.named 3) w_Client_Out, .val (.int .i64) w_Client_Bad, .val (.int .i64) w_Client_Hits, .val (.int .i64) w_Client_Asks], .nils]), .arr .live (.named 1) a1_, .arr .live .str a2_]).get = N.client_work_does_k N.fuel (fun x_ => some (.ret [.val (.named 6) x_.1], [.box false (.agg 8 [.agg 4 [.val (.int .i64) x_.2.Client.ID, .val (.int .i64) x_.2.Client.Now, .val (.int .i64) x_.2.Client.Epoch, .val (.int .i64) x_.2.Client.Seq, .own 1, .own 2, .val (.named 3) x_.2.Client.Out, .val (.int .i64) x_.2.Client.Bad, .val (.int .i64) x_.2.Client.Hits, .val (.int .i64) x_.2.Client.Asks], .nils]), .arr .live (.named 1) x_.2.Client.Files, .arr .live .str x_.2.Client.Names, .dead, .dead, .dead])) (fun x_ => some (.ret [.val (.named 6) x_.1], [.box false (.agg 8 [.agg 4 [.val (.int .i64) x_.2.Client.ID, .val (.int .i64) x_.2.Client.Now, .val (.int .i64) x_.2.Client.Epoch, .val (.int .i64) x_.2.Client.Seq, .own 1, .own 2, .val (.named 3) x_.2.Client.Out, .val (.int .i64) x_.2.Client.Bad, .val (.int .i64) x_.2.Client.Hits, .val (.int .i64) x_.2.Client.Asks], .nils]), .arr .live (.named 1) x_.2.Client.Files, .arr .live .str x_.2.Client.Names, .dead, .dead, .dead, .dead])) (fun x_ => some (.ret [.val (.named 6) x_.1], [.box false (.agg 8 [.agg 4 [.val (.int .i64) x_.2.Client.ID, .val (.int .i64) x_.2.Client.Now, .val (.int .i64) x_.2.Client.Epoch, .val (.int .i64) x_.2.Client.Seq, .own 1, .own 2, .val (.named 3) x_.2.Client.Out, .val (.int .i64) x_.2.Client.Bad, .val (.int .i64) x_.2.Client.Hits, .val (.int .i64) x_.2.Client.Asks], .nils]), .arr .live (.named 1) x_.2.Client.Files, .arr .live .str x_.2.Client.Names, .dead, .dead, .dead, .dead, .dead])) (fun x_ => some (.ret [.val (.named 6) x_.1], [.box false (.agg 8 [.agg 4 [.val (.int .i64) x_.2.Client.ID, .val (.int .i64) x_.2.Client.Now, .val (.int .i64) x_.2.Client.Epoch, .val (.int .i64) x_.2.Client.Seq, .own 1, .own 2, .val (.named 3) x_.2.Client.Out, .val (.int .i64) x_.2.Client.Bad, .val (.int .i64) x_.2.Client.Hits, .val (.int .i64) x_.2.Client.Asks], .nils]), .arr .live (.named 1) x_.2.Client.Files, .arr .live .str x_.2.Client.Names, .dead, .dead, .dead, .dead, .dead, .dead])) (fun x_ => some (.ret [.val (.named 6) x_.1], [.box false (.agg 8 [.agg 4 [.val (.int .i64) x_.2.Client.ID, .val (.int .i64) x_.2.Client.Now, .val (.int .i64) x_.2.Client.Epoch, .val (.int .i64) x_.2.Client.Seq, .own 1, .own 2, .val (.named 3) x_.2.Client.Out, .val (.int .i64) x_.2.Client.Bad, .val (.int .i64) x_.2.Client.Hits, .val (.int .i64) x_.2.Client.Asks], .nils]), .arr .live (.named 1) x_.2.Client.Files, .arr .live .str x_.2.Client.Names, .dead, .dead, .dead, .dead, .dead, .dead, .dead])) (fun x_ => some (.ret [.val (.named 6) x_.1], [.box false (.agg 8 [.agg 4 [.val (.int .i64) x_.2.Client.ID, .val (.int .i64) x_.2.Client.Now, .val (.int .i64) x_.2.Client.Epoch, .val (.int .i64) x_.2.Client.Seq, .own 1, .own 2, .val (.named 3) x_.2.Client.Out, .val (.int .i64) x_.2.Client.Bad, .val (.int .i64) x_.2.Client.Hits, .val (.int .i64) x_.2.Client.Asks], .nils]), .arr .live (.named 1) x_.2.Client.Files, .arr .live .str x_.2.Client.Names, .dead, .dead, .dead, .dead, .dead, .dead, .dead, .dead])) (fun x_ => some (.ret [.val (.named 6) (N.TAns.mk 5 0 [])], [.box false (.agg 8 [.agg 4 [.val (.int .i64) x_.Client.ID, .val (.int .i64) x_.Client.Now, .val (.int .i64) x_.Client.Epoch, .val (.int .i64) x_.Client.Seq, .own 1, .own 2, .val (.named 3) x_.Client.Out, .val (.int .i64) x_.Client.Bad, .val (.int .i64) x_.Client.Hits, .val (.int .i64) x_.Client.Asks], .own 10]), .arr .live (.named 1) x_.Client.Files, .arr .live .str x_.Client.Names, .dead, .dead, .dead, .dead, .dead, .dead, .dead, .arr .live (.named 2) x_.asked])) (fun x_ => some (.ret [.val (.named 6) (N.TAns.mk 5 0 [])], [.box false (.agg 8 [.agg 4 [.val (.int .i64) x_.Client.ID, .val (.int .i64) x_.Client.Now, .val (.int .i64) x_.Client.Epoch, .val (.int .i64) x_.Client.Seq, .own 1, .own 2, .val (.named 3) x_.Client.Out, .val (.int .i64) x_.Client.Bad, .val (.int .i64) x_.Client.Hits, .val (.int .i64) x_.Client.Asks], .own 11]), .arr .live (.named 1) x_.Client.Files, .arr .live .str x_.Client.Names, .dead, .dead, .dead, .dead, .dead, .dead, .dead, .dead, .arr .live (.named 2) x_.asked])) (fun x_ => some (.ret [.val (.named 6) (N.TAns.mk 5 0 [])], [.box false (.agg 8 [.agg 4 [.val (.int .i64) x_.Client.ID, .val (.int .i64) x_.Client.Now, .val (.int .i64) x_.Client.Epoch, .val (.int .i64) x_.Client.Seq, .own 1, .own 2, .val (.named 3) x_.Client.Out, .val (.int .i64) x_.Client.Bad, .val (.int .i64) x_.Client.Hits, .val (.int .i64) x_.Client.Asks], .own 12]), .arr .live (.named 1) x_.Client.Files, .arr .live .str x_.Client.Names, .dead, .dead, .dead, .dead, .dead, .dead, .dead, .dead, .dead, .arr .live (.named 2) x_.asked])) (fun x_ => some (.ret [.val (.named 6) (N.TAns.mk 5 0 [])], [.box false (.agg 8 [.agg 4 [.val (.int .i64) x_.Client.ID, .val (.int .i64) x_.Client.Now, .val (.int .i64) x_.Client.Epoch, .val (.int .i64) x_.Client.Seq, .own 1, .own 2, .val (.named 3) x_.Client.Out, .val (.int .i64) x_.Client.Bad, .val (.int .i64) x_.Client.Hits, .val (.int .i64) x_.Client.Asks], .own 13]), .arr .live (.named 1) x_.Client.Files, .arr .live .str x_.Client.Names, .dead, .dead, .dead, .dead, .dead, .dead, .dead, .dead, .dead, .dead, .arr .live (.named 2) x_.asked])) (fun x_ => some (.ret [.val (.named 6) (N.TAns.mk 5 0 [])], [.box false (.agg 8 [.agg 4 [.val (.int .i64) x_.Client.ID, .val (.int .i64) x_.Client.Now, .val (.int .i64) x_.Client.Epoch, .val (.int .i64) x_.Client.Seq, .own 1, .own 2, .val (.named 3) x_.Client.Out, .val (.int .i64) x_.Client.Bad, .val (.int .i64) x_.Client.Hits, .val (.int .i64) x_.Client.Asks], .own 7]), .arr .live (.named 1) x_.Client.Files, .arr .live .str x_.Client.Names, .dead, .dead, .dead, .dead, .arr .live (.named 2) x_.asked])) (fun x_ => some (.ret [.val (.named 6) (N.TAns.mk 5 0 [])], [.box false (.agg 8 [.agg 4 [.val (.int .i64) x_.Client.ID, .val (.int .i64) x_.Client.Now, .val (.int .i64) x_.Client.Epoch, .val (.int .i64) x_.Client.Seq, .own 1, .own 2, .val (.named 3) x_.Client.Out, .val (.int .i64) x_.Client.Bad, .val (.int .i64) x_.Client.Hits, .val (.int .i64) x_.Client.Asks], .own 8]), .arr .live (.named 1) x_.Client.Files, .arr .live .str x_.Client.Names, .dead, .dead, .dead, .dead, .dead, .arr .live (.named 2) x_.asked])) (fun x_ => some (.ret [.val (.named 6) (N.TAns.mk 5 0 [])], [.box false (.agg 8 [.agg 4 [.val (.int .i64) x_.Client.ID, .val (.int .i64) x_.Client.Now, .val (.int .i64) x_.Client.Epoch, .val (.int .i64) x_.Client.Seq, .own 1, .own 2, .val (.named 3) x_.Client.Out, .val (.int .i64) x_.Client.Bad, .val (.int .i64) x_.Client.Hits, .val (.int .i64) x_.Client.Asks], .own 9]), .arr .live (.named 1) x_.Client.Files, .arr .live .str x_.Client.Names, .dead, .dead, .dead, .dead, .dead, .dead, .arr .live (.named 2) x_.asked])) s (N.Tclient_work.mk (N.TClient.mk w_Client_ID w_Client_Now w_Client_Epoch w_Client_Seq a1_ a2_ w_Client_Out w_Client_Bad w_Client_Hits w_Client_Asks) []) := by kernel_rfl
noncomputable def i35 : Ins E (Res E.T × St E.T) := ⟨[.ptr 0 [], .v (.named 5)], [.box false (.agg 8 [.agg 4 [.v (.int .i64), .v (.int .i64), .v (.int .i64), .v (.int .i64), .own 1, .own 2, .v (.named 3), .v (.int .i64), .v (.int .i64), .v (.int .i64)], .nils]), .arr .live (.named 1), .arr .live .str], fun s w_Client_ID w_Client_Now w_Client_Epoch w_Client_Seq w_Client_Out w_Client_Bad w_Client_Hits w_Client_Asks a1_ a2_ => .opt (N.client_work_does N.fuel s (N.Tclient_work.mk (N.TClient.mk w_Client_ID w_Client_Now w_Client_Epoch w_Client_Seq a1_ a2_ w_Client_Out w_Client_Bad w_Client_Hits w_Client_Asks) [])) fun x_ => altT x_ (fun u0_ => .ret (.ret [.val (.named 6) u0_.1], [.box false (.agg 8 [.agg 4 [.val (.int .i64) u0_.2.Client.ID, .val (.int .i64) u0_.2.Client.Now, .val (.int .i64) u0_.2.Client.Epoch, .val (.int .i64) u0_.2.Client.Seq, .own 1, .own 2, .val (.named 3) u0_.2.Client.Out, .val (.int .i64) u0_.2.Client.Bad, .val (.int .i64) u0_.2.Client.Hits, .val (.int .i64) u0_.2.Client.Asks], .nils]), .arr .live (.named 1) u0_.2.Client.Files, .arr .live .str u0_.2.Client.Names, .dead, .dead, .dead])) (fun w0_ => altT w0_ (fun u1_ => .ret (.ret [.val (.named 6) u1_.1], [.box false (.agg 8 [.agg 4 [.val (.int .i64) u1_.2.Client.ID, .val (.int .i64) u1_.2.Client.Now, .val (.int .i64) u1_.2.Client.Epoch, .val (.int .i64) u1_.2.Client.Seq, .own 1, .own 2, .val (.named 3) u1_.2.Client.Out, .val (.int .i64) u1_.2.Client.Bad, .val (.int .i64) u1_.2.Client.Hits, .val (.int .i64) u1_.2.Client.Asks], .nils]), .arr .live (.named 1) u1_.2.Client.Files, .arr .live .str u1_.2.Client.Names, .dead, .dead, .dead, .dead])) (fun w1_ => altT w1_ (fun u2_ => .ret (.ret [.val (.named 6) u2_.1], [.box false (.agg 8 [.agg 4 [.val (.int .i64) u2_.2.Client.ID, .val (.int .i64) u2_.2.Client.Now, .val (.int .i64) u2_.2.Client.Epoch, .val (.int .i64) u2_.2.Client.Seq, .own 1, .own 2, .val (.named 3) u2_.2.Client.Out, .val (.int .i64) u2_.2.Client.Bad, .val (.int .i64) u2_.2.Client.Hits, .val (.int .i64) u2_.2.Client.Asks], .nils]), .arr .live (.named 1) u2_.2.Client.Files, .arr .live .str u2_.2.Client.Names, .dead, .dead, .dead, .dead, .dead])) (fun w2_ => altT w2_ (fun u3_ => .ret (.ret [.val (.named 6) u3_.1], [.box false (.agg 8 [.agg 4 [.val (.int .i64) u3_.2.Client.ID, .val (.int .i64) u3_.2.Client.Now, .val (.int .i64) u3_.2.Client.Epoch, .val (.int .i64) u3_.2.Client.Seq, .own 1, .own 2, .val (.named 3) u3_.2.Client.Out, .val (.int .i64) u3_.2.Client.Bad, .val (.int .i64) u3_.2.Client.Hits, .val (.int .i64) u3_.2.Client.Asks], .nils]), .arr .live (.named 1) u3_.2.Client.Files, .arr .live .str u3_.2.Client.Names, .dead, .dead, .dead, .dead, .dead, .dead])) (fun w3_ => altT w3_ (fun u4_ => .ret (.ret [.val (.named 6) u4_.1], [.box false (.agg 8 [.agg 4 [.val (.int .i64) u4_.2.Client.ID, .val (.int .i64) u4_.2.Client.Now, .val (.int .i64) u4_.2.Client.Epoch, .val (.int .i64) u4_.2.Client.Seq, .own 1, .own 2, .val (.named 3) u4_.2.Client.Out, .val (.int .i64) u4_.2.Client.Bad, .val (.int .i64) u4_.2.Client.Hits, .val (.int .i64) u4_.2.Client.Asks], .nils]), .arr .live (.named 1) u4_.2.Client.Files, .arr .live .str u4_.2.Client.Names, .dead, .dead, .dead, .dead, .dead, .dead, .dead])) (fun w4_ => altT w4_ (fun u5_ => .ret (.ret [.val (.named 6) u5_.1], [.box false (.agg 8 [.agg 4 [.val (.int .i64) u5_.2.Client.ID, .val (.int .i64) u5_.2.Client.Now, .val (.int .i64) u5_.2.Client.Epoch, .val (.int .i64) u5_.2.Client.Seq, .own 1, .own 2, .val (.named 3) u5_.2.Client.Out, .val (.int .i64) u5_.2.Client.Bad, .val (.int .i64) u5_.2.Client.Hits, .val (.int .i64) u5_.2.Client.Asks], .nils]), .arr .live (.named 1) u5_.2.Client.Files, .arr .live .str u5_.2.Client.Names, .dead, .dead, .dead, .dead, .dead, .dead, .dead, .dead])) (fun w5_ => altT w5_ (fun u6_ => .ret (.ret [.val (.named 6) (N.TAns.mk 5 0 [])], [.box false (.agg 8 [.agg 4 [.val (.int .i64) u6_.Client.ID, .val (.int .i64) u6_.Client.Now, .val (.int .i64) u6_.Client.Epoch, .val (.int .i64) u6_.Client.Seq, .own 1, .own 2, .val (.named 3) u6_.Client.Out, .val (.int .i64) u6_.Client.Bad, .val (.int .i64) u6_.Client.Hits, .val (.int .i64) u6_.Client.Asks], .own 10]), .arr .live (.named 1) u6_.Client.Files, .arr .live .str u6_.Client.Names, .dead, .dead, .dead, .dead, .dead, .dead, .dead, .arr .live (.named 2) u6_.asked])) (fun w6_ => altT w6_ (fun u7_ => .ret (.ret [.val (.named 6) (N.TAns.mk 5 0 [])], [.box false (.agg 8 [.agg 4 [.val (.int .i64) u7_.Client.ID, .val (.int .i64) u7_.Client.Now, .val (.int .i64) u7_.Client.Epoch, .val (.int .i64) u7_.Client.Seq, .own 1, .own 2, .val (.named 3) u7_.Client.Out, .val (.int .i64) u7_.Client.Bad, .val (.int .i64) u7_.Client.Hits, .val (.int .i64) u7_.Client.Asks], .own 11]), .arr .live (.named 1) u7_.Client.Files, .arr .live .str u7_.Client.Names, .dead, .dead, .dead, .dead, .dead, .dead, .dead, .dead, .arr .live (.named 2) u7_.asked])) (fun w7_ => altT w7_ (fun u8_ => .ret (.ret [.val (.named 6) (N.TAns.mk 5 0 [])], [.box false (.agg 8 [.agg 4 [.val (.int .i64) u8_.Client.ID, .val (.int .i64) u8_.Client.Now, .val (.int .i64) u8_.Client.Epoch, .val (.int .i64) u8_.Client.Seq, .own 1, .own 2, .val (.named 3) u8_.Client.Out, .val (.int .i64) u8_.Client.Bad, .val (.int .i64) u8_.Client.Hits, .val (.int .i64) u8_.Client.Asks], .own 12]), .arr .live (.named 1) u8_.Client.Files, .arr .live .str u8_.Client.Names, .dead, .dead, .dead, .dead, .dead, .dead, .dead, .dead, .dead, .arr .live (.named 2) u8_.asked])) (fun w8_ => altT w8_ (fun u9_ => .ret (.ret [.val (.named 6) (N.TAns.mk 5 0 [])], [.box false (.agg 8 [.agg 4 [.val (.int .i64) u9_.Client.ID, .val (.int .i64) u9_.Client.Now, .val (.int .i64) u9_.Client.Epoch, .val (.int .i64) u9_.Client.Seq, .own 1, .own 2, .val (.named 3) u9_.Client.Out, .val (.int .i64) u9_.Client.Bad, .val (.int .i64) u9_.Client.Hits, .val (.int .i64) u9_.Client.Asks], .own 13]), .arr .live (.named 1) u9_.Client.Files, .arr .live .str u9_.Client.Names, .dead, .dead, .dead, .dead, .dead, .dead, .dead, .dead, .dead, .dead, .arr .live (.named 2) u9_.asked])) (fun w9_ => altT w9_ (fun u10_ => .ret (.ret [.val (.named 6) (N.TAns.mk 5 0 [])], [.box false (.agg 8 [.agg 4 [.val (.int .i64) u10_.Client.ID, .val (.int .i64) u10_.Client.Now, .val (.int .i64) u10_.Client.Epoch, .val (.int .i64) u10_.Client.Seq, .own 1, .own 2, .val (.named 3) u10_.Client.Out, .val (.int .i64) u10_.Client.Bad, .val (.int .i64) u10_.Client.Hits, .val (.int .i64) u10_.Client.Asks], .own 7]), .arr .live (.named 1) u10_.Client.Files, .arr .live .str u10_.Client.Names, .dead, .dead, .dead, .dead, .arr .live (.named 2) u10_.asked])) (fun w10_ => altT w10_ (fun u11_ => .ret (.ret [.val (.named 6) (N.TAns.mk 5 0 [])], [.box false (.agg 8 [.agg 4 [.val (.int .i64) u11_.Client.ID, .val (.int .i64) u11_.Client.Now, .val (.int .i64) u11_.Client.Epoch, .val (.int .i64) u11_.Client.Seq, .own 1, .own 2, .val (.named 3) u11_.Client.Out, .val (.int .i64) u11_.Client.Bad, .val (.int .i64) u11_.Client.Hits, .val (.int .i64) u11_.Client.Asks], .own 8]), .arr .live (.named 1) u11_.Client.Files, .arr .live .str u11_.Client.Names, .dead, .dead, .dead, .dead, .dead, .arr .live (.named 2) u11_.asked])) (fun w11_ => .ret (.ret [.val (.named 6) (N.TAns.mk 5 0 [])], [.box false (.agg 8 [.agg 4 [.val (.int .i64) w11_.Client.ID, .val (.int .i64) w11_.Client.Now, .val (.int .i64) w11_.Client.Epoch, .val (.int .i64) w11_.Client.Seq, .own 1, .own 2, .val (.named 3) w11_.Client.Out, .val (.int .i64) w11_.Client.Bad, .val (.int .i64) w11_.Client.Hits, .val (.int .i64) w11_.Client.Asks], .own 9]), .arr .live (.named 1) w11_.Client.Files, .arr .live .str w11_.Client.Names, .dead, .dead, .dead, .dead, .dead, .dead, .arr .live (.named 2) w11_.asked])))))))))))))⟩
theorem i35_ok : InsOk Tryz.prog 35 i35 := ⟨B35, B35_ok, by intro s w_Client_ID w_Client_Now w_Client_Epoch w_Client_Seq w_Client_Out w_Client_Bad w_Client_Hits w_Client_Asks a1_ a2_ out_ h_; exact ((F35 s w_Client_ID w_Client_Now w_Client_Epoch w_Client_Seq w_Client_Out w_Client_Bad w_Client_Hits w_Client_Asks a1_ a2_).trans (N.client_work_does_bind N.fuel _ _ _ _ _ _ _ _ _ _ _ _ _ s (N.Tclient_work.mk (N.TClient.mk w_Client_ID w_Client_Now w_Client_Epoch w_Client_Seq a1_ a2_ w_Client_Out w_Client_Bad w_Client_Hits w_Client_Asks) []))).trans h_⟩
noncomputable def P35 : Nat × D.Spec E := (35, .full [.ptr, .data (.named 5)] false (fullF [i35]))
theorem p35 : SpecOk Tryz.prog E P35.1 P35.2 := fullI_ok ok Tryz.call35 ⟨i35_ok, trivial⟩

/-! tenancy/client.Do -/
noncomputable def S13 : List (Nat × D.Spec E) := [P25, P35]
theorem S13_ok : AllS Tryz.prog E S13 := ⟨p25, p35, trivial⟩
noncomputable def L13 : Nat → LoopInfo E := clL E 23 [] []
noncomputable def B13 : List (DVal E.T) → St E.T → Tree (Res E.T × St E.T) := dbody E (lookS S13) (lookD []) L13 0 false Tryz.f13
theorem B13_ok : FnOk Tryz.prog E 13 B13 := bodyC_ok sound mix S13_ok (SD := []) trivial (L := L13) (N := 0) (keep := false) Tryz.func13 rfl (by
  intro k g hg fr st out ho
  match k, hg with
  | _, hg => cases hg)
theorem F13 (c : N.TClient) (s : N.TStep) : (B13 [.val (.named 4) c, .val (.named 5) s] []).get = N.client_Do_k N.fuel (fun x_ => some (.ret [.val (.named 4) x_.1, .val (.named 6) x_.2.1, .val (.slice (.named 2)) x_.2.2], [])) c s := by kernel_rfl
noncomputable def i13 : Ins E (Res E.T × St E.T) := ⟨[.v (.named 4), .v (.named 5)], [], fun c s => .opt (N.client_Do N.fuel c s) fun x_ => .ret (.ret [.val (.named 4) x_.1, .val (.named 6) x_.2.1, .val (.slice (.named 2)) x_.2.2], [])⟩
theorem i13_ok : InsOk Tryz.prog 13 i13 := ⟨B13, B13_ok, by intro c s out_ h_; exact ((F13 c s).trans (N.client_Do_bind N.fuel _ c s)).trans h_⟩
noncomputable def P13 : Nat × D.Spec E := (13, .pure [(.named 4), (.named 5)] (pureF [i13]))
theorem p13 : SpecOk Tryz.prog E P13.1 P13.2 := pureI_ok Tryz.call13 ⟨i13_ok, trivial⟩

/-! tenancy/tenancyref13.num -/
noncomputable def S36 : List (Nat × D.Spec E) := []
theorem S36_ok : AllS Tryz.prog E S36 := trivial
noncomputable def L36 : Nat → LoopInfo E := clL E 12 [] []
noncomputable def B36 : List (DVal E.T) → St E.T → Tree (Res E.T × St E.T) := dbody E (lookS S36) (lookD []) L36 0 false Tryz.f36
theorem B36_ok : FnOk Tryz.prog E 36 B36 := bodyC_ok sound mix S36_ok (SD := []) trivial (L := L36) (N := 0) (keep := false) Tryz.func36 rfl (by
  intro k g hg fr st out ho
  match k, hg with
  | _, hg => cases hg)
theorem F36 (n : Int) (least : Int) : (B36 [.val (.int .i64) n, .val (.int .i64) least] []).get = N.ref13_num_k (fun x_ => some (.ret [.val .bool x_], [])) n least := by kernel_rfl
noncomputable def i36 : Ins E (Res E.T × St E.T) := ⟨[.v (.int .i64), .v (.int .i64)], [], fun n least => .ret (.ret [.val .bool (N.ref13_num n least)], [])⟩
theorem i36_ok : InsOk Tryz.prog 36 i36 := ⟨B36, B36_ok, by intro n least out_ h_; exact ((F36 n least).trans (N.ref13_num_bind _ n least)).trans h_⟩
noncomputable def P36 : Nat × D.Spec E := (36, .pure [(.int .i64), (.int .i64)] (pureF [i36]))
theorem p36 : SpecOk Tryz.prog E P36.1 P36.2 := pureI_ok Tryz.call36 ⟨i36_ok, trivial⟩

/-! tenancy/tenancyref13.MayTell -/
noncomputable def S54 : List (Nat × D.Spec E) := [P36]
theorem S54_ok : AllS Tryz.prog E S54 := ⟨p36, trivial⟩
noncomputable def L54 : Nat → LoopInfo E := clL E 107 [] []
noncomputable def B54 : List (DVal E.T) → St E.T → Tree (Res E.T × St E.T) := dbody E (lookS S54) (lookD []) L54 0 false Tryz.f54
theorem B54_ok : FnOk Tryz.prog E 54 B54 := bodyC_ok sound mix S54_ok (SD := []) trivial (L := L54) (N := 0) (keep := false) Tryz.func54 rfl (by
  intro k g hg fr st out ho
  match k, hg with
  | _, hg => cases hg)
theorem F54 (t : N.TTell) : (B54 [.val (.named 7) t] []).get = N.ref13_MayTell_k (fun x_ => some (.ret [.val .bool x_], [])) t := by kernel_rfl
noncomputable def i54 : Ins E (Res E.T × St E.T) := ⟨[.v (.named 7)], [], fun t => .ret (.ret [.val .bool (N.ref13_MayTell t)], [])⟩
theorem i54_ok : InsOk Tryz.prog 54 i54 := ⟨B54, B54_ok, by intro t out_ h_; exact ((F54 t).trans (N.ref13_MayTell_bind _ t)).trans h_⟩
noncomputable def P54 : Nat × D.Spec E := (54, .pure [(.named 7)] (pureF [i54]))
theorem p54 : SpecOk Tryz.prog E P54.1 P54.2 := pureI_ok Tryz.call54 ⟨i54_ok, trivial⟩

/-! tenancy/tenancyref1.Put -/
noncomputable def S55 : List (Nat × D.Spec E) := []
theorem S55_ok : AllS Tryz.prog E S55 := trivial
abbrev h55_s0 (v : Int) (i : Int) (out : List UInt8) : Fr E.T := ofSlots E 34 [] [1, 7, 8] [.val (.int .i64) v, .own 0, .val (.int .i64) i]
abbrev t55_s0 (v : Int) (i : Int) (out : List UInt8) : St E.T := [.arr .live (.int .u8) out]
def x55_s0 (v : Int) (x_ : List UInt8) : Tree (CodeOut E) := .ret (.exit 0, ofSlots E 34 [] [6, 7] [.undef, .own 0], [.arr .live (.int .u8) x_])
noncomputable def g55_s0 : Ins E (CodeOut E) := ⟨[.v (.int .i64), .own 0, .v (.int .i64)], [.arr .live (.int .u8)], fun v i out => .opt (N.ref1_Put_l0 N.fuel v i out) (x55_s0 v)⟩
noncomputable def L55 : Nat → LoopInfo E := clL E 34 [{ ks := [1, 7, 8], mvs := [], pro := [], d := [], g := some (insF [g55_s0]) }] []
theorem f55_s0 (v : Int) (i : Int) (out : List UInt8) : ((stepOf E S55 L55 0 0 Tryz.f55 (h55_s0 v i out) (t55_s0 v i out)).bind (nx E [1, 7, 8] [] [6, 7] 1)).get = N.ref1_Put_s0k v (fun v_ => some (.inl (h55_s0 v v_.1 v_.2, t55_s0 v v_.1 v_.2))) (fun x_ => some (.inr (.exit 0, ofSlots E 34 [] [6, 7] [.undef, .own 0], [.arr .live (.int .u8) x_]))) i out := by kernel_rfl
theorem q55_s0 : InsLp 34 [1, 7, 8] [] [] (stepOf E S55 L55 0 0 Tryz.f55) g55_s0 := by
  intro v i out out_ ho_
  obtain ⟨x_, h1_, h2_⟩ := Option.bind_eq_some_iff.1 ho_
  refine iter_loop (rs := [6, 7]) (step := N.ref1_Put_s0 v) (hd := fun v_ => h55_s0 v v_.1 v_.2) (sv := fun v_ => t55_s0 v v_.1 v_.2) (ex := x55_s0 v) (fun v_ => ?_) N.fuel (i, out) h1_ h2_
  refine (f55_s0 v v_.1 v_.2).trans ((N.ref1_Put_s0_bind v _ _ v_.1 v_.2).trans ?_)
  refine congrArg _ (funext fun s_ => ?_)
  rcases s_ with v_ | a <;> rfl
noncomputable def B55 : List (DVal E.T) → St E.T → Tree (Res E.T × St E.T) := dbody E (lookS S55) (lookD []) L55 0 false Tryz.f55
theorem B55_ok : FnOk Tryz.prog E 55 B55 := bodyC_ok sound mix S55_ok (SD := []) trivial (L := L55) (N := 0) (keep := false) Tryz.func55 rfl (by
  intro k g hg fr st out ho
  match k, hg with
  | 0, hg => cases hg; exact lp_ok (allLp_cons q55_s0 (allLp_nil)) fr st out ho
  | _ + 1, hg => cases hg)
theorem F55 (b : List UInt8) (v : Int) (n : Int) : (B55 [.val (.slice (.int .u8)) b, .val (.int .i64) v, .val (.int .i64) n] []).get = N.ref1_Put_k N.fuel (fun x_ => some (.ret [.val (.slice (.int .u8)) x_], [])) b v n := by kernel_rfl
noncomputable def i55 : Ins E (Res E.T × St E.T) := ⟨[.v (.slice (.int .u8)), .v (.int .i64), .v (.int .i64)], [], fun b v n => .opt (N.ref1_Put N.fuel b v n) fun x_ => .ret (.ret [.val (.slice (.int .u8)) x_], [])⟩
theorem i55_ok : InsOk Tryz.prog 55 i55 := ⟨B55, B55_ok, by intro b v n out_ h_; exact ((F55 b v n).trans (N.ref1_Put_bind N.fuel _ b v n)).trans h_⟩
noncomputable def P55 : Nat × D.Spec E := (55, .pure [(.slice (.int .u8)), (.int .i64), (.int .i64)] (pureF [i55]))
theorem p55 : SpecOk Tryz.prog E P55.1 P55.2 := pureI_ok Tryz.call55 ⟨i55_ok, trivial⟩

/-! tenancy/tenancyref1.Text -/
noncomputable def S57 : List (Nat × D.Spec E) := []
theorem S57_ok : AllS Tryz.prog E S57 := trivial
noncomputable def L57 : Nat → LoopInfo E := clL E 21 [] []
noncomputable def B57 : List (DVal E.T) → St E.T → Tree (Res E.T × St E.T) := dbody E (lookS S57) (lookD []) L57 0 false Tryz.f57
theorem B57_ok : FnOk Tryz.prog E 57 B57 := bodyC_ok sound mix S57_ok (SD := []) trivial (L := L57) (N := 0) (keep := false) Tryz.func57 rfl (by
  intro k g hg fr st out ho
  match k, hg with
  | _, hg => cases hg)
theorem F57 (b : List UInt8) (s : List UInt8) : (B57 [.val (.slice (.int .u8)) b, .val .str s] []).get = N.ref1_Text_k (fun x_ => some (.ret [.val (.slice (.int .u8)) x_], [])) b s := by kernel_rfl
noncomputable def i57 : Ins E (Res E.T × St E.T) := ⟨[.v (.slice (.int .u8)), .v .str], [], fun b s => .opt (N.ref1_Text b s) fun x_ => .ret (.ret [.val (.slice (.int .u8)) x_], [])⟩
theorem i57_ok : InsOk Tryz.prog 57 i57 := ⟨B57, B57_ok, by intro b s out_ h_; exact ((F57 b s).trans (N.ref1_Text_bind _ b s)).trans h_⟩
noncomputable def P57 : Nat × D.Spec E := (57, .pure [(.slice (.int .u8)), .str] (pureF [i57]))
theorem p57 : SpecOk Tryz.prog E P57.1 P57.2 := pureI_ok Tryz.call57 ⟨i57_ok, trivial⟩

/-! tenancy/tenancyref1.Crc -/
noncomputable def S90 : List (Nat × D.Spec E) := []
theorem S90_ok : AllS Tryz.prog E S90 := trivial
abbrev h90_s0 (b : List UInt8) (i : Int) (c : Int) (k : Int) : Fr E.T := ofSlots E 33 [] [0, 3, 4, 5] [.val (.slice (.int .u8)) b, .val (.int .i64) c, .val (.int .i64) i, .val (.int .i64) k]
abbrev t90_s0 (b : List UInt8) (i : Int) (c : Int) (k : Int) : St E.T := []
def x90_s0 (b : List UInt8) (i : Int) (x_ : Int) : Tree (CodeOut E) := .ret (.exit 2, ofSlots E 33 [] [0, 2, 3, 4] [.val (.slice (.int .u8)) b, .undef, .val (.int .i64) x_, .val (.int .i64) i], [])
noncomputable def g90_s0 : Ins E (CodeOut E) := ⟨[.v (.slice (.int .u8)), .v (.int .i64), .v (.int .i64), .v (.int .i64)], [], fun b c i k => .opt (N.ref1_Crc_l0 N.fuel b i c k) (x90_s0 b i)⟩
abbrev h90_s1 (b : List UInt8) (c : Int) (i : Int) : Fr E.T := ofSlots E 33 [] [0, 3, 4] [.val (.slice (.int .u8)) b, .val (.int .i64) c, .val (.int .i64) i]
abbrev t90_s1 (b : List UInt8) (c : Int) (i : Int) : St E.T := []
def x90_s1 (b : List UInt8) (x_ : Int) : Tree (CodeOut E) := .ret (.exit 0, ofSlots E 33 [] [2, 3] [.undef, .val (.int .i64) x_], [])
noncomputable def g90_s1 : Ins E (CodeOut E) := ⟨[.v (.slice (.int .u8)), .v (.int .i64), .v (.int .i64)], [], fun b c i => .opt (N.ref1_Crc_l1 N.fuel b c i) (x90_s1 b)⟩
noncomputable def L90 : Nat → LoopInfo E := clL E 33 [{ ks := [0, 3, 4], mvs := [], pro := [], d := [], g := some (insF [g90_s1]) }, { ks := [0, 3, 4, 5], mvs := [], pro := [], d := [], g := some (insF [g90_s0]) }] []
theorem f90_s0 (b : List UInt8) (i : Int) (c : Int) (k : Int) : ((stepOf E S90 L90 0 1 Tryz.f90 (h90_s0 b i c k) (t90_s0 b i c k)).bind (nx E [0, 3, 4, 5] [] [0, 2, 3, 4] 0)).get = N.ref1_Crc_s0k b i (fun v_ => some (.inl (h90_s0 b i v_.1 v_.2, t90_s0 b i v_.1 v_.2))) (fun x_ => some (.inr (.exit 2, ofSlots E 33 [] [0, 2, 3, 4] [.val (.slice (.int .u8)) b, .undef, .val (.int .i64) x_, .val (.int .i64) i], []))) c k := by kernel_rfl
theorem q90_s0 : InsLp 33 [0, 3, 4, 5] [] [] (stepOf E S90 L90 0 1 Tryz.f90) g90_s0 := by
  intro b c i k out_ ho_
  obtain ⟨x_, h1_, h2_⟩ := Option.bind_eq_some_iff.1 ho_
  refine iter_loop (rs := [0, 2, 3, 4]) (step := N.ref1_Crc_s0 b i) (hd := fun v_ => h90_s0 b i v_.1 v_.2) (sv := fun v_ => t90_s0 b i v_.1 v_.2) (ex := x90_s0 b i) (fun v_ => ?_) N.fuel (c, k) h1_ h2_
  refine (f90_s0 b i v_.1 v_.2).trans ((N.ref1_Crc_s0_bind b i _ _ v_.1 v_.2).trans ?_)
  refine congrArg _ (funext fun s_ => ?_)
  rcases s_ with v_ | a <;> rfl
theorem f90_s1 (b : List UInt8) (c : Int) (i : Int) : ((stepOf E S90 L90 0 0 Tryz.f90 (h90_s1 b c i) (t90_s1 b c i)).bind (nx E [0, 3, 4] [] [2, 3] 0)).get = N.ref1_Crc_s1k N.fuel b (fun v_ => some (.inl (h90_s1 b v_.1 v_.2, t90_s1 b v_.1 v_.2))) (fun x_ => some (.inr (.exit 0, ofSlots E 33 [] [2, 3] [.undef, .val (.int .i64) x_], []))) c i := by kernel_rfl
theorem q90_s1 : InsLp 33 [0, 3, 4] [] [] (stepOf E S90 L90 0 0 Tryz.f90) g90_s1 := by
  intro b c i out_ ho_
  obtain ⟨x_, h1_, h2_⟩ := Option.bind_eq_some_iff.1 ho_
  refine iter_loop (rs := [2, 3]) (step := N.ref1_Crc_s1 N.fuel b) (hd := fun v_ => h90_s1 b v_.1 v_.2) (sv := fun v_ => t90_s1 b v_.1 v_.2) (ex := x90_s1 b) (fun v_ => ?_) N.fuel (c, i) h1_ h2_
  refine (f90_s1 b v_.1 v_.2).trans ((N.ref1_Crc_s1_bind N.fuel b _ _ v_.1 v_.2).trans ?_)
  refine congrArg _ (funext fun s_ => ?_)
  rcases s_ with v_ | a <;> rfl
noncomputable def B90 : List (DVal E.T) → St E.T → Tree (Res E.T × St E.T) := dbody E (lookS S90) (lookD []) L90 0 false Tryz.f90
theorem B90_ok : FnOk Tryz.prog E 90 B90 := bodyC_ok sound mix S90_ok (SD := []) trivial (L := L90) (N := 0) (keep := false) Tryz.func90 rfl (by
  intro k g hg fr st out ho
  match k, hg with
  | 0, hg => cases hg; exact lp_ok (allLp_cons q90_s1 (allLp_nil)) fr st out ho
  | 1, hg => cases hg; exact lp_ok (allLp_cons q90_s0 (allLp_nil)) fr st out ho
  | _ + 2, hg => cases hg)
theorem F90 (b : List UInt8) : (B90 [.val (.slice (.int .u8)) b] []).get = N.ref1_Crc_k N.fuel (fun x_ => some (.ret [.val (.int .u16) x_], [])) b := by kernel_rfl
noncomputable def i90 : Ins E (Res E.T × St E.T) := ⟨[.v (.slice (.int .u8))], [], fun b => .opt (N.ref1_Crc N.fuel b) fun x_ => .ret (.ret [.val (.int .u16) x_], [])⟩
theorem i90_ok : InsOk Tryz.prog 90 i90 := ⟨B90, B90_ok, by intro b out_ h_; exact ((F90 b).trans (N.ref1_Crc_bind N.fuel _ b)).trans h_⟩
noncomputable def P90 : Nat × D.Spec E := (90, .pure [(.slice (.int .u8))] (pureF [i90]))
theorem p90 : SpecOk Tryz.prog E P90.1 P90.2 := pureI_ok Tryz.call90 ⟨i90_ok, trivial⟩

/-! tenancy/tenancyref13.sealed -/
noncomputable def S56 : List (Nat × D.Spec E) := [P55, P90]
theorem S56_ok : AllS Tryz.prog E S56 := ⟨p55, p90, trivial⟩
noncomputable def L56 : Nat → LoopInfo E := clL E 8 [] []
noncomputable def B56 : List (DVal E.T) → St E.T → Tree (Res E.T × St E.T) := dbody E (lookS S56) (lookD []) L56 0 false Tryz.f56
theorem B56_ok : FnOk Tryz.prog E 56 B56 := bodyC_ok sound mix S56_ok (SD := []) trivial (L := L56) (N := 0) (keep := false) Tryz.func56 rfl (by
  intro k g hg fr st out ho
  match k, hg with
  | _, hg => cases hg)
theorem F56 (b : List UInt8) : (B56 [.val (.slice (.int .u8)) b] []).get = N.ref13_sealed_k N.fuel (fun x_ => some (.ret [.val (.slice (.int .u8)) x_], [])) b := by kernel_rfl
noncomputable def i56 : Ins E (Res E.T × St E.T) := ⟨[.v (.slice (.int .u8))], [], fun b => .opt (N.ref13_sealed N.fuel b) fun x_ => .ret (.ret [.val (.slice (.int .u8)) x_], [])⟩
theorem i56_ok : InsOk Tryz.prog 56 i56 := ⟨B56, B56_ok, by intro b out_ h_; exact ((F56 b).trans (N.ref13_sealed_bind N.fuel _ b)).trans h_⟩
noncomputable def P56 : Nat × D.Spec E := (56, .pure [(.slice (.int .u8))] (pureF [i56]))
theorem p56 : SpecOk Tryz.prog E P56.1 P56.2 := pureI_ok Tryz.call56 ⟨i56_ok, trivial⟩

/-! tenancy/tenancyref13.PutTell -/
noncomputable def S20 : List (Nat × D.Spec E) := [P54, P55, P56, P57]
theorem S20_ok : AllS Tryz.prog E S20 := ⟨p54, p55, p56, p57, trivial⟩
noncomputable def L20 : Nat → LoopInfo E := clL E 37 [] []
noncomputable def B20 : List (DVal E.T) → St E.T → Tree (Res E.T × St E.T) := dbody E (lookS S20) (lookD []) L20 0 false Tryz.f20
theorem B20_ok : FnOk Tryz.prog E 20 B20 := bodyC_ok sound mix S20_ok (SD := []) trivial (L := L20) (N := 0) (keep := false) Tryz.func20 rfl (by
  intro k g hg fr st out ho
  match k, hg with
  | _, hg => cases hg)
theorem F20 (t : N.TTell) : (B20 [.val (.named 7) t] []).get = N.ref13_PutTell_k N.fuel (fun x_ => some (.ret [.val (.slice (.int .u8)) x_], [])) t := by kernel_rfl
noncomputable def i20 : Ins E (Res E.T × St E.T) := ⟨[.v (.named 7)], [], fun t => .opt (N.ref13_PutTell N.fuel t) fun x_ => .ret (.ret [.val (.slice (.int .u8)) x_], [])⟩
theorem i20_ok : InsOk Tryz.prog 20 i20 := ⟨B20, B20_ok, by intro t out_ h_; exact ((F20 t).trans (N.ref13_PutTell_bind N.fuel _ t)).trans h_⟩
noncomputable def P20 : Nat × D.Spec E := (20, .pure [(.named 7)] (pureF [i20]))
theorem p20 : SpecOk Tryz.prog E P20.1 P20.2 := pureI_ok Tryz.call20 ⟨i20_ok, trivial⟩

/-! tenancy/bits.front -/
noncomputable def S131 : List (Nat × D.Spec E) := []
theorem S131_ok : AllS Tryz.prog E S131 := trivial
noncomputable def L131 : Nat → LoopInfo E := clL E 14 [] []
noncomputable def B131 : List (DVal E.T) → St E.T → Tree (Res E.T × St E.T) := dbody E (lookS S131) (lookD []) L131 0 false Tryz.f131
theorem B131_ok : FnOk Tryz.prog E 131 B131 := bodyC_ok sound mix S131_ok (SD := []) trivial (L := L131) (N := 0) (keep := false) Tryz.func131 rfl (by
  intro k g hg fr st out ho
  match k, hg with
  | _, hg => cases hg)
theorem F131 (b : List UInt8) (n : Int) : (B131 [.val (.slice (.int .u8)) b, .val (.int .i64) n] []).get = N.bits_front_k (fun x_ => some (.ret [.val (.slice (.int .u8)) x_], [])) (fun x_ => some (.panic (.ifc 161 (.val (.named 10) N.TNil0.mk)), [])) b n := by kernel_rfl
noncomputable def i131 : Ins E (Res E.T × St E.T) := ⟨[.v (.slice (.int .u8)), .v (.int .i64)], [], fun b n => .opt (N.bits_front b n) fun x_ => altT x_ (fun u0_ => .ret (.ret [.val (.slice (.int .u8)) u0_], [])) (fun w0_ => .ret (.panic (.ifc 161 (.val (.named 10) N.TNil0.mk)), []))⟩
theorem i131_ok : InsOk Tryz.prog 131 i131 := ⟨B131, B131_ok, by intro b n out_ h_; exact ((F131 b n).trans (N.bits_front_bind _ _ b n)).trans h_⟩
noncomputable def P131 : Nat × D.Spec E := (131, .pure [(.slice (.int .u8)), (.int .i64)] (pureF [i131]))
theorem p131 : SpecOk Tryz.prog E P131.1 P131.2 := pureI_ok Tryz.call131 ⟨i131_ok, trivial⟩

/-! tenancy/bits.caught -/
noncomputable def S130 : List (Nat × D.Spec E) := []
theorem S130_ok : AllS Tryz.prog E S130 := trivial
noncomputable def L130 : Nat → LoopInfo E := clL E 18 [] []
noncomputable def B130 : DSpec E := dbodyD E (lookS S130) L130 0 Tryz.f130
theorem p130 : DSpecOk Tryz.prog E 130 B130 := dfullD_ok sound mix S130_ok (L := L130) (fun _ => rfl) Tryz.call130 Tryz.func130 rfl

/-! tenancy/bits.Take -/
noncomputable def S118 : List (Nat × D.Spec E) := [P131]
theorem S118_ok : AllS Tryz.prog E S118 := ⟨p131, trivial⟩
noncomputable def D118 : List (Nat × DSpec E) := [(130, B130)]
theorem D118_ok : AllD Tryz.prog E D118 := ⟨p130, trivial⟩
abbrev h118_s0 (t16 : List UInt8) (t17 : Int) (ok : Bool) (v : Int) (t18 : Int) : Fr E.T := ofSlots E 29 [(130, [.ptr 0 []])] [4, 5, 16, 17, 18] [.val (.int .i64) v, .ptr 0 [], .val (.slice (.int .u8)) t16, .val (.int .i64) t17, .val (.int .i64) t18]
abbrev t118_s0 (t16 : List UInt8) (t17 : Int) (ok : Bool) (v : Int) (t18 : Int) : St E.T := [.box false (.val .bool ok)]
def x118_s0 (t16 : List UInt8) (t17 : Int) (ok : Bool) (x_ : Int) : Tree (CodeOut E) := .ret (.exit 0, ofSlots E 29 [(130, [.ptr 0 []])] [4, 5] [.val (.int .i64) x_, .ptr 0 []], [.box false (.val .bool ok)])
noncomputable def g118_s0 : Ins E (CodeOut E) := ⟨[.v (.int .i64), .ptr 0 [], .v (.slice (.int .u8)), .v (.int .i64), .v (.int .i64)], [.box false (.v .bool)], fun v t16 t17 t18 ok => .opt (N.bits_Take_l0 N.fuel t16 t17 ok v t18) (x118_s0 t16 t17 ok)⟩
noncomputable def L118 : Nat → LoopInfo E := clL E 29 [{ ks := [4, 5, 16, 17, 18], mvs := [], pro := [], d := [(130, [.ptr 0 []])], g := some (insF [g118_s0]) }] []
theorem f118_s0 (t16 : List UInt8) (t17 : Int) (ok : Bool) (v : Int) (t18 : Int) : ((stepOf E S118 L118 0 0 Tryz.f118 (h118_s0 t16 t17 ok v t18) (t118_s0 t16 t17 ok v t18)).bind (nx E [4, 5, 16, 17, 18] [] [4, 5] 1)).get = N.bits_Take_s0k t16 t17 ok (fun v_ => some (.inl (h118_s0 t16 t17 ok v_.1 v_.2, t118_s0 t16 t17 ok v_.1 v_.2))) (fun x_ => some (.inr (.exit 0, ofSlots E 29 [(130, [.ptr 0 []])] [4, 5] [.val (.int .i64) x_, .ptr 0 []], [.box false (.val .bool ok)]))) v t18 := by kernel_rfl
theorem q118_s0 : InsLp 29 [4, 5, 16, 17, 18] [] [(130, [.ptr 0 []])] (stepOf E S118 L118 0 0 Tryz.f118) g118_s0 := by
  intro v t16 t17 t18 ok out_ ho_
  obtain ⟨x_, h1_, h2_⟩ := Option.bind_eq_some_iff.1 ho_
  refine iter_loop (rs := [4, 5]) (step := N.bits_Take_s0 t16 t17 ok) (hd := fun v_ => h118_s0 t16 t17 ok v_.1 v_.2) (sv := fun v_ => t118_s0 t16 t17 ok v_.1 v_.2) (ex := x118_s0 t16 t17 ok) (fun v_ => ?_) N.fuel (v, t18) h1_ h2_
  refine (f118_s0 t16 t17 ok v_.1 v_.2).trans ((N.bits_Take_s0_bind t16 t17 ok _ _ v_.1 v_.2).trans ?_)
  refine congrArg _ (funext fun s_ => ?_)
  rcases s_ with v_ | a <;> rfl
noncomputable def B118 : List (DVal E.T) → St E.T → Tree (Res E.T × St E.T) := dbody E (lookS S118) (lookD D118) L118 0 false Tryz.f118
theorem B118_ok : FnOk Tryz.prog E 118 B118 := bodyC_ok sound mix S118_ok (SD := D118) D118_ok (L := L118) (N := 0) (keep := false) Tryz.func118 rfl (by
  intro k g hg fr st out ho
  match k, hg with
  | 0, hg => cases hg; exact lp_ok (allLp_cons q118_s0 (allLp_nil)) fr st out ho
  | _ + 1, hg => cases hg)
theorem F118 (b : List UInt8) (n : Int) : (B118 [.val (.slice (.int .u8)) b, .val (.int .i64) n] []).get = N.bits_Take_k N.fuel (fun x_ => some (.ret [.val (.int .i64) x_.1, .val .bool x_.2], [])) b n := by kernel_rfl
noncomputable def i118 : Ins E (Res E.T × St E.T) := ⟨[.v (.slice (.int .u8)), .v (.int .i64)], [], fun b n => .opt (N.bits_Take N.fuel b n) fun x_ => .ret (.ret [.val (.int .i64) x_.1, .val .bool x_.2], [])⟩
theorem i118_ok : InsOk Tryz.prog 118 i118 := ⟨B118, B118_ok, by intro b n out_ h_; exact ((F118 b n).trans (N.bits_Take_bind N.fuel _ b n)).trans h_⟩
noncomputable def P118 : Nat × D.Spec E := (118, .pure [(.slice (.int .u8)), (.int .i64)] (pureF [i118]))
theorem p118 : SpecOk Tryz.prog E P118.1 P118.2 := pureI_ok Tryz.call118 ⟨i118_ok, trivial⟩

/-! (*tenancy/msg.reader).num -/
noncomputable def S97 : List (Nat × D.Spec E) := [P118]
theorem S97_ok : AllS Tryz.prog E S97 := ⟨p118, trivial⟩
noncomputable def L97 : Nat → LoopInfo E := clL E 30 [] []
noncomputable def B97 : List (DVal E.T) → St E.T → Tree (Res E.T × St E.T) := tidyF (dbody E (lookS S97) (lookD []) L97 0 false Tryz.f97)
theorem B97_ok : FnOk Tryz.prog E 97 B97 := tidy_fn ok (bodyC_ok sound mix S97_ok (SD := []) trivial (L := L97) (N := 0) (keep := false) Tryz.func97 rfl (by
  intro k g hg fr st out ho
  match k, hg with
  | _, hg => cases hg))
theorem F97 (n : Int) (r : N.Tmsg_reader) : (B97 [.ptr 0 [], .val (.int .i64) n] [.box false (.val (.named 11) r)]).get = N.msg_reader_num_k N.fuel (fun x_ => some (.ret [.val (.int .i64) x_.1], [.box false (.val (.named 11) x_.2)])) (fun x_ => some (.panic (.ifc 128 (.val (.named 10) N.TNil0.mk)), [.box false (.val (.named 11) r)])) n r := by kernel_rfl
noncomputable def i97 : Ins E (Res E.T × St E.T) := ⟨[.ptr 0 [], .v (.int .i64)], [.box false (.v (.named 11))], fun n r => .opt (N.msg_reader_num N.fuel n r) fun x_ => altT x_ (fun u0_ => .ret (.ret [.val (.int .i64) u0_.1], [.box false (.val (.named 11) u0_.2)])) (fun w0_ => .ret (.panic (.ifc 128 (.val (.named 10) N.TNil0.mk)), [.box false (.val (.named 11) r)]))⟩
theorem i97_ok : InsOk Tryz.prog 97 i97 := ⟨B97, B97_ok, by intro n r out_ h_; exact ((F97 n r).trans (N.msg_reader_num_bind N.fuel _ _ n r)).trans h_⟩
noncomputable def P97 : Nat × D.Spec E := (97, .full [.ptr, .data (.int .i64)] false (fullF [i97]))
theorem p97 : SpecOk Tryz.prog E P97.1 P97.2 := fullI_ok ok Tryz.call97 ⟨i97_ok, trivial⟩

/-! tenancy/bits.TakeText -/
noncomputable def S119 : List (Nat × D.Spec E) := [P131]
theorem S119_ok : AllS Tryz.prog E S119 := ⟨p131, trivial⟩
noncomputable def D119 : List (Nat × DSpec E) := [(130, B130)]
theorem D119_ok : AllD Tryz.prog E D119 := ⟨p130, trivial⟩
noncomputable def L119 : Nat → LoopInfo E := clL E 20 [] []
noncomputable def B119 : List (DVal E.T) → St E.T → Tree (Res E.T × St E.T) := dbody E (lookS S119) (lookD D119) L119 0 false Tryz.f119
theorem B119_ok : FnOk Tryz.prog E 119 B119 := bodyC_ok sound mix S119_ok (SD := D119) D119_ok (L := L119) (N := 0) (keep := false) Tryz.func119 rfl (by
  intro k g hg fr st out ho
  match k, hg with
  | _, hg => cases hg)
theorem F119 (b : List UInt8) : (B119 [.val (.slice (.int .u8)) b] []).get = N.bits_TakeText_k (fun x_ => some (.ret [.val .str x_.1, .val (.int .i64) x_.2.1, .val .bool x_.2.2], [])) b := by kernel_rfl
noncomputable def i119 : Ins E (Res E.T × St E.T) := ⟨[.v (.slice (.int .u8))], [], fun b => .opt (N.bits_TakeText b) fun x_ => .ret (.ret [.val .str x_.1, .val (.int .i64) x_.2.1, .val .bool x_.2.2], [])⟩
theorem i119_ok : InsOk Tryz.prog 119 i119 := ⟨B119, B119_ok, by intro b out_ h_; exact ((F119 b).trans (N.bits_TakeText_bind _ b)).trans h_⟩
noncomputable def P119 : Nat × D.Spec E := (119, .pure [(.slice (.int .u8))] (pureF [i119]))
theorem p119 : SpecOk Tryz.prog E P119.1 P119.2 := pureI_ok Tryz.call119 ⟨i119_ok, trivial⟩

/-! (*tenancy/msg.reader).text -/
noncomputable def S98 : List (Nat × D.Spec E) := [P119]
theorem S98_ok : AllS Tryz.prog E S98 := ⟨p119, trivial⟩
noncomputable def L98 : Nat → LoopInfo E := clL E 29 [] []
noncomputable def B98 : List (DVal E.T) → St E.T → Tree (Res E.T × St E.T) := tidyF (dbody E (lookS S98) (lookD []) L98 0 false Tryz.f98)
theorem B98_ok : FnOk Tryz.prog E 98 B98 := tidy_fn ok (bodyC_ok sound mix S98_ok (SD := []) trivial (L := L98) (N := 0) (keep := false) Tryz.func98 rfl (by
  intro k g hg fr st out ho
  match k, hg with
  | _, hg => cases hg))
theorem F98 (r : N.Tmsg_reader) : (B98 [.ptr 0 []] [.box false (.val (.named 11) r)]).get = N.msg_reader_text_k (fun x_ => some (.ret [.val .str x_.1], [.box false (.val (.named 11) x_.2)])) (fun x_ => some (.panic (.ifc 128 (.val (.named 10) N.TNil0.mk)), [.box false (.val (.named 11) r)])) r := by kernel_rfl
noncomputable def i98 : Ins E (Res E.T × St E.T) := ⟨[.ptr 0 []], [.box false (.v (.named 11))], fun r => .opt (N.msg_reader_text r) fun x_ => altT x_ (fun u0_ => .ret (.ret [.val .str u0_.1], [.box false (.val (.named 11) u0_.2)])) (fun w0_ => .ret (.panic (.ifc 128 (.val (.named 10) N.TNil0.mk)), [.box false (.val (.named 11) r)]))⟩
theorem i98_ok : InsOk Tryz.prog 98 i98 := ⟨B98, B98_ok, by intro r out_ h_; exact ((F98 r).trans (N.msg_reader_text_bind _ _ r)).trans h_⟩
noncomputable def P98 : Nat × D.Spec E := (98, .full [.ptr] false (fullF [i98]))
theorem p98 : SpecOk Tryz.prog E P98.1 P98.2 := fullI_ok ok Tryz.call98 ⟨i98_ok, trivial⟩

/-! (*tenancy/msg.reader).tell -/
noncomputable def S69 : List (Nat × D.Spec E) := [P97, P98]
theorem S69_ok : AllS Tryz.prog E S69 := ⟨p97, p98, trivial⟩
noncomputable def L69 : Nat → LoopInfo E := clL E 31 [] []
noncomputable def B69 : List (DVal E.T) → St E.T → Tree (Res E.T × St E.T) := tidyF (dbody E (lookS S69) (lookD []) L69 0 false Tryz.f69)
theorem B69_ok : FnOk Tryz.prog E 69 B69 := tidy_fn ok (bodyC_ok sound mix S69_ok (SD := []) trivial (L := L69) (N := 0) (keep := false) Tryz.func69 rfl (by
  intro k g hg fr st out ho
  match k, hg with
  | _, hg => cases hg))
theorem F69 (r : N.Tmsg_reader) : (B69 [.ptr 0 []] [.box false (.val (.named 11) r)]).get = N.msg_reader_tell_k N.fuel (fun x_ => some (.ret [.val (.named 7) x_.1], [.box false (.val (.named 11) x_.2)])) (fun x_ => some (.panic (.ifc 128 (.val (.named 10) N.TNil0.mk)), [.box false (.val (.named 11) x_)])) r := by kernel_rfl
noncomputable def i69 : Ins E (Res E.T × St E.T) := ⟨[.ptr 0 []], [.box false (.v (.named 11))], fun r => .opt (N.msg_reader_tell N.fuel r) fun x_ => altT x_ (fun u0_ => .ret (.ret [.val (.named 7) u0_.1], [.box false (.val (.named 11) u0_.2)])) (fun w0_ => .ret (.panic (.ifc 128 (.val (.named 10) N.TNil0.mk)), [.box false (.val (.named 11) w0_)]))⟩
theorem i69_ok : InsOk Tryz.prog 69 i69 := ⟨B69, B69_ok, by intro r out_ h_; exact ((F69 r).trans (N.msg_reader_tell_bind N.fuel _ _ r)).trans h_⟩
noncomputable def P69 : Nat × D.Spec E := (69, .full [.ptr] false (fullF [i69]))
theorem p69 : SpecOk Tryz.prog E P69.1 P69.2 := fullI_ok ok Tryz.call69 ⟨i69_ok, trivial⟩

/-! tenancy/msg.from -/
noncomputable def S120 : List (Nat × D.Spec E) := []
theorem S120_ok : AllS Tryz.prog E S120 := trivial
noncomputable def L120 : Nat → LoopInfo E := clL E 15 [] []
noncomputable def B120 : List (DVal E.T) → St E.T → Tree (Res E.T × St E.T) := dbody E (lookS S120) (lookD []) L120 0 false Tryz.f120
theorem B120_ok : FnOk Tryz.prog E 120 B120 := bodyC_ok sound mix S120_ok (SD := []) trivial (L := L120) (N := 0) (keep := false) Tryz.func120 rfl (by
  intro k g hg fr st out ho
  match k, hg with
  | _, hg => cases hg)
theorem F120 (lo : Int) (hi : Int) (v : Int) : (B120 [.val (.int .i64) lo, .val (.int .i64) hi, .val (.int .i64) v] []).get = N.msg_from_k (fun x_ => some (.ret [.val .bool x_], [])) lo hi v := by kernel_rfl
noncomputable def i120 : Ins E (Res E.T × St E.T) := ⟨[.v (.int .i64), .v (.int .i64), .v (.int .i64)], [], fun lo hi v => .ret (.ret [.val .bool (N.msg_from lo hi v)], [])⟩
theorem i120_ok : InsOk Tryz.prog 120 i120 := ⟨B120, B120_ok, by intro lo hi v out_ h_; exact ((F120 lo hi v).trans (N.msg_from_bind _ lo hi v)).trans h_⟩
noncomputable def P120 : Nat × D.Spec E := (120, .pure [(.int .i64), (.int .i64), (.int .i64)] (pureF [i120]))
theorem p120 : SpecOk Tryz.prog E P120.1 P120.2 := pureI_ok Tryz.call120 ⟨i120_ok, trivial⟩

/-! tenancy/msg.MayTell -/
noncomputable def S99 : List (Nat × D.Spec E) := [P120]
theorem S99_ok : AllS Tryz.prog E S99 := ⟨p120, trivial⟩
noncomputable def L99 : Nat → LoopInfo E := clL E 81 [] []
noncomputable def B99 : List (DVal E.T) → St E.T → Tree (Res E.T × St E.T) := dbody E (lookS S99) (lookD []) L99 0 false Tryz.f99
theorem B99_ok : FnOk Tryz.prog E 99 B99 := bodyC_ok sound mix S99_ok (SD := []) trivial (L := L99) (N := 0) (keep := false) Tryz.func99 rfl (by
  intro k g hg fr st out ho
  match k, hg with
  | _, hg => cases hg)
theorem F99 (t : N.TTell) : (B99 [.val (.named 7) t] []).get = N.msg_MayTell_k (fun x_ => some (.ret [.val .bool x_], [])) t := by kernel_rfl
noncomputable def i99 : Ins E (Res E.T × St E.T) := ⟨[.v (.named 7)], [], fun t => .ret (.ret [.val .bool (N.msg_MayTell t)], [])⟩
theorem i99_ok : InsOk Tryz.prog 99 i99 := ⟨B99, B99_ok, by intro t out_ h_; exact ((F99 t).trans (N.msg_MayTell_bind _ t)).trans h_⟩
noncomputable def P99 : Nat × D.Spec E := (99, .pure [(.named 7)] (pureF [i99]))
theorem p99 : SpecOk Tryz.prog E P99.1 P99.2 := pureI_ok Tryz.call99 ⟨i99_ok, trivial⟩

/-! slices.Clone[[]byte,byte] -/
def B121 : List (DVal E.T) → St E.T → Tree (Res E.T × St E.T) := cloneF E (.int .u8)
noncomputable def P121 : Nat × D.Spec E := (121, .full [.data (.slice (.int .u8))] false B121)
theorem cf121 : ∃ R0 C R id o1 o2, Tryz.f121.body = some (.seq R0 (.seq (.seq (.region id #[o1, o2] false) C) R)) ∧ (o1.op = .move (.tmp 0) ∧ o1.dst = some 3 ∧ o1.guard = none) ∧ (o2.op = .binOp .eql 37 (.tmp 3) (.const (.slice none 0 0)) 37 ∧ o2.dst = some 4 ∧ o2.guard = none) ∧
    CloneFacts E Tryz.f121 (.int .u8) R0 C R (fun xs => put E (frame E Tryz.f121 [.val (.slice (.int .u8)) xs]) (some 2) .nils) (fun xs => put E (put E (put E (put E (frame E Tryz.f121 [.val (.slice (.int .u8)) xs]) (some 2) .nils) (some 3) (.val (.slice (.int .u8)) xs)) (some 4) (.val .bool true)) (some 2) .nils) (fun xs n => put E (put E (put E (put E (put E (put E (put E (frame E Tryz.f121 [.val (.slice (.int .u8)) xs]) (some 2) .nils) (some 3) (.val (.slice (.int .u8)) xs)) (some 4) (.val .bool false)) (some 5) .nils) (some 6) (.val (.slice (.int .u8)) xs)) (some 7) (.own n)) (some 2) (.own n)) :=
  ⟨_, _, _, _, _, _, rfl, ⟨rfl, rfl, rfl⟩, ⟨rfl, rfl, rfl⟩, by
    constructor
    all_goals intros
    all_goals kernel_rfl⟩
theorem p121 : SpecOk Tryz.prog E P121.1 P121.2 := by
  obtain ⟨R0, C, R, id, o1, o2, hb, h1, h2, hF⟩ := cf121
  exact ⟨Tryz.call121, clone_fn sound mix Tryz.func121 hb h1 h2 ⟨_, Tryz.underlying37⟩ hF⟩

/-! tenancy/bits.Put -/
noncomputable def S100 : List (Nat × D.Spec E) := [P121]
theorem S100_ok : AllS Tryz.prog E S100 := ⟨p121, trivial⟩
abbrev h100_s0 (v : Int) (n : Int) (b : List UInt8) : Fr E.T := ofSlots E 31 [] [0, 1, 2] [.own 0, .val (.int .i64) v, .val (.int .i64) n]
abbrev t100_s0 (v : Int) (n : Int) (b : List UInt8) : St E.T := [.arr .live (.int .u8) b]
def x100_s0 (v : Int) (x_ : List UInt8) : Tree (CodeOut E) := .ret (.exit 0, ofSlots E 31 [] [0, 6] [.own 0, .undef], [.arr .live (.int .u8) x_])
noncomputable def g100_s0 : Ins E (CodeOut E) := ⟨[.own 0, .v (.int .i64), .v (.int .i64)], [.arr .live (.int .u8)], fun v n b => .opt (N.bits_Put_l0 N.fuel v n b) (x100_s0 v)⟩
noncomputable def L100 : Nat → LoopInfo E := clL E 31 [{ ks := [0, 1, 2], mvs := [], pro := [], d := [], g := some (insF [g100_s0]) }] []
theorem f100_s0 (v : Int) (n : Int) (b : List UInt8) : ((stepOf E S100 L100 0 0 Tryz.f100 (h100_s0 v n b) (t100_s0 v n b)).bind (nx E [0, 1, 2] [] [0, 6] 1)).get = N.bits_Put_s0k v (fun v_ => some (.inl (h100_s0 v v_.1 v_.2, t100_s0 v v_.1 v_.2))) (fun x_ => some (.inr (.exit 0, ofSlots E 31 [] [0, 6] [.own 0, .undef], [.arr .live (.int .u8) x_]))) n b := by kernel_rfl
theorem q100_s0 : InsLp 31 [0, 1, 2] [] [] (stepOf E S100 L100 0 0 Tryz.f100) g100_s0 := by
  intro v n b out_ ho_
  obtain ⟨x_, h1_, h2_⟩ := Option.bind_eq_some_iff.1 ho_
  refine iter_loop (rs := [0, 6]) (step := N.bits_Put_s0 v) (hd := fun v_ => h100_s0 v v_.1 v_.2) (sv := fun v_ => t100_s0 v v_.1 v_.2) (ex := x100_s0 v) (fun v_ => ?_) N.fuel (n, b) h1_ h2_
  refine (f100_s0 v v_.1 v_.2).trans ((N.bits_Put_s0_bind v _ _ v_.1 v_.2).trans ?_)
  refine congrArg _ (funext fun s_ => ?_)
  rcases s_ with v_ | a <;> rfl
noncomputable def B100 : List (DVal E.T) → St E.T → Tree (Res E.T × St E.T) := dbody E (lookS S100) (lookD []) L100 0 false Tryz.f100
theorem B100_ok : FnOk Tryz.prog E 100 B100 := bodyC_ok sound mix S100_ok (SD := []) trivial (L := L100) (N := 0) (keep := false) Tryz.func100 rfl (by
  intro k g hg fr st out ho
  match k, hg with
  | 0, hg => cases hg; exact lp_ok (allLp_cons q100_s0 (allLp_nil)) fr st out ho
  | _ + 1, hg => cases hg)
theorem F100 (b : List UInt8) (v : Int) (n : Int) : (B100 [.val (.slice (.int .u8)) b, .val (.int .i64) v, .val (.int .i64) n] []).get = N.bits_Put_k N.fuel (fun x_ => some (.ret [.val (.slice (.int .u8)) x_], [])) b v n := by kernel_rfl
noncomputable def i100 : Ins E (Res E.T × St E.T) := ⟨[.v (.slice (.int .u8)), .v (.int .i64), .v (.int .i64)], [], fun b v n => .opt (N.bits_Put N.fuel b v n) fun x_ => .ret (.ret [.val (.slice (.int .u8)) x_], [])⟩
theorem i100_ok : InsOk Tryz.prog 100 i100 := ⟨B100, B100_ok, by intro b v n out_ h_; exact ((F100 b v n).trans (N.bits_Put_bind N.fuel _ b v n)).trans h_⟩
noncomputable def P100 : Nat × D.Spec E := (100, .pure [(.slice (.int .u8)), (.int .i64), (.int .i64)] (pureF [i100]))
theorem p100 : SpecOk Tryz.prog E P100.1 P100.2 := pureI_ok Tryz.call100 ⟨i100_ok, trivial⟩

/-! tenancy/bits.Text -/
noncomputable def S102 : List (Nat × D.Spec E) := [P121]
theorem S102_ok : AllS Tryz.prog E S102 := ⟨p121, trivial⟩
noncomputable def L102 : Nat → LoopInfo E := clL E 19 [] []
noncomputable def B102 : List (DVal E.T) → St E.T → Tree (Res E.T × St E.T) := dbody E (lookS S102) (lookD []) L102 0 false Tryz.f102
theorem B102_ok : FnOk Tryz.prog E 102 B102 := bodyC_ok sound mix S102_ok (SD := []) trivial (L := L102) (N := 0) (keep := false) Tryz.func102 rfl (by
  intro k g hg fr st out ho
  match k, hg with
  | _, hg => cases hg)
theorem F102 (b : List UInt8) (s : List UInt8) : (B102 [.val (.slice (.int .u8)) b, .val .str s] []).get = N.bits_Text_k (fun x_ => some (.ret [.val (.slice (.int .u8)) x_], [])) b s := by kernel_rfl
noncomputable def i102 : Ins E (Res E.T × St E.T) := ⟨[.v (.slice (.int .u8)), .v .str], [], fun b s => .opt (N.bits_Text b s) fun x_ => .ret (.ret [.val (.slice (.int .u8)) x_], [])⟩
theorem i102_ok : InsOk Tryz.prog 102 i102 := ⟨B102, B102_ok, by intro b s out_ h_; exact ((F102 b s).trans (N.bits_Text_bind _ b s)).trans h_⟩
noncomputable def P102 : Nat × D.Spec E := (102, .pure [(.slice (.int .u8)), .str] (pureF [i102]))
theorem p102 : SpecOk Tryz.prog E P102.1 P102.2 := pureI_ok Tryz.call102 ⟨i102_ok, trivial⟩

/-! tenancy/crc.Sum -/
noncomputable def S122 : List (Nat × D.Spec E) := []
theorem S122_ok : AllS Tryz.prog E S122 := trivial
abbrev h122_s0 (t6 : List UInt8) (t7 : Int) (t8 : Int) (c : Int) (t16 : Int) : Fr E.T := ofSlots E 29 [] [2, 6, 7, 8, 16] [.val (.int .u16) c, .val (.slice (.int .u8)) t6, .val (.int .i64) t7, .val (.int .i64) t8, .val (.int .i64) t16]
abbrev t122_s0 (t6 : List UInt8) (t7 : Int) (t8 : Int) (c : Int) (t16 : Int) : St E.T := []
def x122_s0 (t6 : List UInt8) (t7 : Int) (t8 : Int) (x_ : Int) : Tree (CodeOut E) := .ret (.exit 2, ofSlots E 29 [] [2, 6, 7, 8] [.val (.int .u16) x_, .val (.slice (.int .u8)) t6, .val (.int .i64) t7, .val (.int .i64) t8], [])
noncomputable def g122_s0 : Ins E (CodeOut E) := ⟨[.v (.int .u16), .v (.slice (.int .u8)), .v (.int .i64), .v (.int .i64), .v (.int .i64)], [], fun c t6 t7 t8 t16 => .opt (N.crc_Sum_l0 N.fuel t6 t7 t8 c t16) (x122_s0 t6 t7 t8)⟩
abbrev h122_s1 (t6 : List UInt8) (t7 : Int) (c : Int) (t8 : Int) : Fr E.T := ofSlots E 29 [] [2, 6, 7, 8] [.val (.int .u16) c, .val (.slice (.int .u8)) t6, .val (.int .i64) t7, .val (.int .i64) t8]
abbrev t122_s1 (t6 : List UInt8) (t7 : Int) (c : Int) (t8 : Int) : St E.T := []
def x122_s1 (t6 : List UInt8) (t7 : Int) (x_ : Int) : Tree (CodeOut E) := .ret (.exit 0, ofSlots E 29 [] [2] [.val (.int .u16) x_], [])
noncomputable def g122_s1 : Ins E (CodeOut E) := ⟨[.v (.int .u16), .v (.slice (.int .u8)), .v (.int .i64), .v (.int .i64)], [], fun c t6 t7 t8 => .opt (N.crc_Sum_l1 N.fuel t6 t7 c t8) (x122_s1 t6 t7)⟩
noncomputable def L122 : Nat → LoopInfo E := clL E 29 [{ ks := [2, 6, 7, 8], mvs := [], pro := [], d := [], g := some (insF [g122_s1]) }, { ks := [2, 6, 7, 8, 16], mvs := [], pro := [], d := [], g := some (insF [g122_s0]) }] []
theorem f122_s0 (t6 : List UInt8) (t7 : Int) (t8 : Int) (c : Int) (t16 : Int) : ((stepOf E S122 L122 0 1 Tryz.f122 (h122_s0 t6 t7 t8 c t16) (t122_s0 t6 t7 t8 c t16)).bind (nx E [2, 6, 7, 8, 16] [] [2, 6, 7, 8] 0)).get = N.crc_Sum_s0k t6 t7 t8 (fun v_ => some (.inl (h122_s0 t6 t7 t8 v_.1 v_.2, t122_s0 t6 t7 t8 v_.1 v_.2))) (fun x_ => some (.inr (.exit 2, ofSlots E 29 [] [2, 6, 7, 8] [.val (.int .u16) x_, .val (.slice (.int .u8)) t6, .val (.int .i64) t7, .val (.int .i64) t8], []))) c t16 := by kernel_rfl
theorem q122_s0 : InsLp 29 [2, 6, 7, 8, 16] [] [] (stepOf E S122 L122 0 1 Tryz.f122) g122_s0 := by
  intro c t6 t7 t8 t16 out_ ho_
  obtain ⟨x_, h1_, h2_⟩ := Option.bind_eq_some_iff.1 ho_
  refine iter_loop (rs := [2, 6, 7, 8]) (step := N.crc_Sum_s0 t6 t7 t8) (hd := fun v_ => h122_s0 t6 t7 t8 v_.1 v_.2) (sv := fun v_ => t122_s0 t6 t7 t8 v_.1 v_.2) (ex := x122_s0 t6 t7 t8) (fun v_ => ?_) N.fuel (c, t16) h1_ h2_
  refine (f122_s0 t6 t7 t8 v_.1 v_.2).trans ((N.crc_Sum_s0_bind t6 t7 t8 _ _ v_.1 v_.2).trans ?_)
  refine congrArg _ (funext fun s_ => ?_)
  rcases s_ with v_ | a <;> rfl
theorem f122_s1 (t6 : List UInt8) (t7 : Int) (c : Int) (t8 : Int) : ((stepOf E S122 L122 0 0 Tryz.f122 (h122_s1 t6 t7 c t8) (t122_s1 t6 t7 c t8)).bind (nx E [2, 6, 7, 8] [] [2] 0)).get = N.crc_Sum_s1k N.fuel t6 t7 (fun v_ => some (.inl (h122_s1 t6 t7 v_.1 v_.2, t122_s1 t6 t7 v_.1 v_.2))) (fun x_ => some (.inr (.exit 0, ofSlots E 29 [] [2] [.val (.int .u16) x_], []))) c t8 := by kernel_rfl
theorem q122_s1 : InsLp 29 [2, 6, 7, 8] [] [] (stepOf E S122 L122 0 0 Tryz.f122) g122_s1 := by
  intro c t6 t7 t8 out_ ho_
  obtain ⟨x_, h1_, h2_⟩ := Option.bind_eq_some_iff.1 ho_
  refine iter_loop (rs := [2]) (step := N.crc_Sum_s1 N.fuel t6 t7) (hd := fun v_ => h122_s1 t6 t7 v_.1 v_.2) (sv := fun v_ => t122_s1 t6 t7 v_.1 v_.2) (ex := x122_s1 t6 t7) (fun v_ => ?_) N.fuel (c, t8) h1_ h2_
  refine (f122_s1 t6 t7 v_.1 v_.2).trans ((N.crc_Sum_s1_bind N.fuel t6 t7 _ _ v_.1 v_.2).trans ?_)
  refine congrArg _ (funext fun s_ => ?_)
  rcases s_ with v_ | a <;> rfl
noncomputable def B122 : List (DVal E.T) → St E.T → Tree (Res E.T × St E.T) := dbody E (lookS S122) (lookD []) L122 0 false Tryz.f122
theorem B122_ok : FnOk Tryz.prog E 122 B122 := bodyC_ok sound mix S122_ok (SD := []) trivial (L := L122) (N := 0) (keep := false) Tryz.func122 rfl (by
  intro k g hg fr st out ho
  match k, hg with
  | 0, hg => cases hg; exact lp_ok (allLp_cons q122_s1 (allLp_nil)) fr st out ho
  | 1, hg => cases hg; exact lp_ok (allLp_cons q122_s0 (allLp_nil)) fr st out ho
  | _ + 2, hg => cases hg)
theorem F122 (b : List UInt8) : (B122 [.val (.slice (.int .u8)) b] []).get = N.crc_Sum_k N.fuel (fun x_ => some (.ret [.val (.int .u16) x_], [])) b := by kernel_rfl
noncomputable def i122 : Ins E (Res E.T × St E.T) := ⟨[.v (.slice (.int .u8))], [], fun b => .opt (N.crc_Sum N.fuel b) fun x_ => .ret (.ret [.val (.int .u16) x_], [])⟩
theorem i122_ok : InsOk Tryz.prog 122 i122 := ⟨B122, B122_ok, by intro b out_ h_; exact ((F122 b).trans (N.crc_Sum_bind N.fuel _ b)).trans h_⟩
noncomputable def P122 : Nat × D.Spec E := (122, .pure [(.slice (.int .u8))] (pureF [i122]))
theorem p122 : SpecOk Tryz.prog E P122.1 P122.2 := pureI_ok Tryz.call122 ⟨i122_ok, trivial⟩

/-! tenancy/msg.sealed -/
noncomputable def S101 : List (Nat × D.Spec E) := [P100, P122]
theorem S101_ok : AllS Tryz.prog E S101 := ⟨p100, p122, trivial⟩
noncomputable def L101 : Nat → LoopInfo E := clL E 8 [] []
noncomputable def B101 : List (DVal E.T) → St E.T → Tree (Res E.T × St E.T) := dbody E (lookS S101) (lookD []) L101 0 false Tryz.f101
theorem B101_ok : FnOk Tryz.prog E 101 B101 := bodyC_ok sound mix S101_ok (SD := []) trivial (L := L101) (N := 0) (keep := false) Tryz.func101 rfl (by
  intro k g hg fr st out ho
  match k, hg with
  | _, hg => cases hg)
theorem F101 (b : List UInt8) : (B101 [.val (.slice (.int .u8)) b] []).get = N.msg_sealed_k N.fuel (fun x_ => some (.ret [.val (.slice (.int .u8)) x_], [])) b := by kernel_rfl
noncomputable def i101 : Ins E (Res E.T × St E.T) := ⟨[.v (.slice (.int .u8))], [], fun b => .opt (N.msg_sealed N.fuel b) fun x_ => .ret (.ret [.val (.slice (.int .u8)) x_], [])⟩
theorem i101_ok : InsOk Tryz.prog 101 i101 := ⟨B101, B101_ok, by intro b out_ h_; exact ((F101 b).trans (N.msg_sealed_bind N.fuel _ b)).trans h_⟩
noncomputable def P101 : Nat × D.Spec E := (101, .pure [(.slice (.int .u8))] (pureF [i101]))
theorem p101 : SpecOk Tryz.prog E P101.1 P101.2 := pureI_ok Tryz.call101 ⟨i101_ok, trivial⟩

/-! tenancy/msg.PutTell -/
noncomputable def S70 : List (Nat × D.Spec E) := [P100, P101, P102, P99]
theorem S70_ok : AllS Tryz.prog E S70 := ⟨p100, p101, p102, p99, trivial⟩
noncomputable def L70 : Nat → LoopInfo E := clL E 38 [] []
noncomputable def B70 : List (DVal E.T) → St E.T → Tree (Res E.T × St E.T) := dbody E (lookS S70) (lookD []) L70 0 false Tryz.f70
theorem B70_ok : FnOk Tryz.prog E 70 B70 := bodyC_ok sound mix S70_ok (SD := []) trivial (L := L70) (N := 0) (keep := false) Tryz.func70 rfl (by
  intro k g hg fr st out ho
  match k, hg with
  | _, hg => cases hg)
theorem F70 (t : N.TTell) : (B70 [.val (.named 7) t] []).get = N.msg_PutTell_k N.fuel (fun x_ => some (.ret [.val (.slice (.int .u8)) x_], [])) t := by kernel_rfl
noncomputable def i70 : Ins E (Res E.T × St E.T) := ⟨[.v (.named 7)], [], fun t => .opt (N.msg_PutTell N.fuel t) fun x_ => .ret (.ret [.val (.slice (.int .u8)) x_], [])⟩
theorem i70_ok : InsOk Tryz.prog 70 i70 := ⟨B70, B70_ok, by intro t out_ h_; exact ((F70 t).trans (N.msg_PutTell_bind N.fuel _ t)).trans h_⟩
noncomputable def P70 : Nat × D.Spec E := (70, .pure [(.named 7)] (pureF [i70]))
theorem p70 : SpecOk Tryz.prog E P70.1 P70.2 := pureI_ok Tryz.call70 ⟨i70_ok, trivial⟩

/-! slices.Equal[[]byte,byte] -/
noncomputable def S96 : List (Nat × D.Spec E) := []
theorem S96_ok : AllS Tryz.prog E S96 := trivial
abbrev h96_s0 (s1 : List UInt8) (s2 : List UInt8) (t12 : Int) (t13 : Int) : Fr E.T := ofSlots E 26 [] [0, 1, 12, 13] [.val (.slice (.int .u8)) s1, .val (.slice (.int .u8)) s2, .val (.int .i64) t12, .val (.int .i64) t13]
abbrev t96_s0 (s1 : List UInt8) (s2 : List UInt8) (t12 : Int) (t13 : Int) : St E.T := []
def x96_s0 (s1 : List UInt8) (s2 : List UInt8) (t12 : Int) (x_ : Unit ⊕ Unit) : Tree (CodeOut E) := altT x_ (fun u0_ => .ret (.ret, ofSlots E 26 [] [4] [.val .bool false], [])) (fun w0_ => .ret (.exit 0, ofSlots E 26 [] [4] [.undef], []))
noncomputable def g96_s0 : Ins E (CodeOut E) := ⟨[.v (.slice (.int .u8)), .v (.slice (.int .u8)), .v (.int .i64), .v (.int .i64)], [], fun s1 s2 t12 t13 => .opt (N.slices_Equal_byte_l0 N.fuel s1 s2 t12 t13) (x96_s0 s1 s2 t12)⟩
noncomputable def L96 : Nat → LoopInfo E := clL E 26 [{ ks := [0, 1, 12, 13], mvs := [], pro := [], d := [], g := some (insF [g96_s0]) }] []
theorem f96_s0 (s1 : List UInt8) (s2 : List UInt8) (t12 : Int) (t13 : Int) : ((stepOf E S96 L96 0 0 Tryz.f96 (h96_s0 s1 s2 t12 t13) (t96_s0 s1 s2 t12 t13)).bind (nx E [0, 1, 12, 13] [] [4] 0)).get = N.slices_Equal_byte_s0k s1 s2 t12 (fun v_ => some (.inl (h96_s0 s1 s2 t12 v_, t96_s0 s1 s2 t12 v_))) (fun x_ => some (.inr (.ret, ofSlots E 26 [] [4] [.val .bool false], []))) (fun x_ => some (.inr (.exit 0, ofSlots E 26 [] [4] [.undef], []))) t13 := by kernel_rfl
theorem q96_s0 : InsLp 26 [0, 1, 12, 13] [] [] (stepOf E S96 L96 0 0 Tryz.f96) g96_s0 := by
  intro s1 s2 t12 t13 out_ ho_
  obtain ⟨x_, h1_, h2_⟩ := Option.bind_eq_some_iff.1 ho_
  refine iter_loop (rs := [4]) (step := N.slices_Equal_byte_s0 s1 s2 t12) (hd := fun v_ => h96_s0 s1 s2 t12 v_) (sv := fun v_ => t96_s0 s1 s2 t12 v_) (ex := x96_s0 s1 s2 t12) (fun v_ => ?_) N.fuel t13 h1_ h2_
  refine (f96_s0 s1 s2 t12 v_).trans ((N.slices_Equal_byte_s0_bind s1 s2 t12 _ _ _ v_).trans ?_)
  refine congrArg _ (funext fun s_ => ?_)
  rcases s_ with v_ | a | a <;> rfl
noncomputable def B96 : List (DVal E.T) → St E.T → Tree (Res E.T × St E.T) := dbody E (lookS S96) (lookD []) L96 0 false Tryz.f96
theorem B96_ok : FnOk Tryz.prog E 96 B96 := bodyC_ok sound mix S96_ok (SD := []) trivial (L := L96) (N := 0) (keep := false) Tryz.func96 rfl (by
  intro k g hg fr st out ho
  match k, hg with
  | 0, hg => cases hg; exact lp_ok (allLp_cons q96_s0 (allLp_nil)) fr st out ho
  | _ + 1, hg => cases hg)
theorem F96 (s1 : List UInt8) (s2 : List UInt8) : (B96 [.val (.slice (.int .u8)) s1, .val (.slice (.int .u8)) s2] []).get = N.slices_Equal_byte_k N.fuel (fun x_ => some (.ret [.val .bool x_], [])) s1 s2 := by kernel_rfl
noncomputable def i96 : Ins E (Res E.T × St E.T) := ⟨[.v (.slice (.int .u8)), .v (.slice (.int .u8))], [], fun s1 s2 => .opt (N.slices_Equal_byte N.fuel s1 s2) fun x_ => .ret (.ret [.val .bool x_], [])⟩
theorem i96_ok : InsOk Tryz.prog 96 i96 := ⟨B96, B96_ok, by intro s1 s2 out_ h_; exact ((F96 s1 s2).trans (N.slices_Equal_byte_bind N.fuel _ s1 s2)).trans h_⟩
noncomputable def P96 : Nat × D.Spec E := (96, .pure [(.slice (.int .u8)), (.slice (.int .u8))] (pureF [i96]))
theorem p96 : SpecOk Tryz.prog E P96.1 P96.2 := pureI_ok Tryz.call96 ⟨i96_ok, trivial⟩

/-! tenancy/msg.takes[tenancy/api.Tell]$1 -/
noncomputable def S95 : List (Nat × D.Spec E) := []
theorem S95_ok : AllS Tryz.prog E S95 := trivial
noncomputable def L95 : Nat → LoopInfo E := clL E 18 [] []
noncomputable def B95 : DSpec E := dbodyD E (lookS S95) L95 0 Tryz.f95
theorem p95 : DSpecOk Tryz.prog E 95 B95 := dfullD_ok sound mix S95_ok (L := L95) (fun _ => rfl) Tryz.call95 Tryz.func95 rfl

/-! tenancy/msg.takes[tenancy/api.Tell] -/
noncomputable def S68 : List (Nat × D.Spec E) := [P69, P70, P96]
theorem S68_ok : AllS Tryz.prog E S68 := ⟨p69, p70, p96, trivial⟩
noncomputable def D68 : List (Nat × DSpec E) := [(95, B95)]
theorem D68_ok : AllD Tryz.prog E D68 := ⟨p95, trivial⟩
noncomputable def L68 : Nat → LoopInfo E := clL E 28 [] []
noncomputable def B68 : List (DVal E.T) → St E.T → Tree (Res E.T × St E.T) := dbody E (lookS S68) (lookD D68) L68 0 false Tryz.f68
theorem B68_ok : FnOk Tryz.prog E 68 B68 := bodyC_ok sound mix S68_ok (SD := D68) D68_ok (L := L68) (N := 0) (keep := false) Tryz.func68 rfl (by
  intro k g hg fr st out ho
  match k, hg with
  | _, hg => cases hg)
theorem F68 (b : List UInt8) : (B68 [.val (.slice (.int .u8)) b, .fn 69 [], .fn 70 []] []).get = N.msg_takes_Tell_k N.fuel (fun x_ => some (.ret [.val (.named 7) x_.1, .val .bool x_.2], [])) b := by kernel_rfl
noncomputable def i68 : Ins E (Res E.T × St E.T) := ⟨[.v (.slice (.int .u8)), .fn 69 [], .fn 70 []], [], fun b => .opt (N.msg_takes_Tell N.fuel b) fun x_ => .ret (.ret [.val (.named 7) x_.1, .val .bool x_.2], [])⟩
theorem i68_ok : InsOk Tryz.prog 68 i68 := ⟨B68, B68_ok, by intro b out_ h_; exact ((F68 b).trans (N.msg_takes_Tell_bind N.fuel _ b)).trans h_⟩
noncomputable def P68 : Nat × D.Spec E := (68, .full [.data (.slice (.int .u8)), .func, .func] true (fullF [i68]))
theorem p68 : SpecOk Tryz.prog E P68.1 P68.2 := fullI_ok ok Tryz.call68 ⟨i68_ok, trivial⟩

/-! tenancy/msg.TakeTell -/
noncomputable def S26 : List (Nat × D.Spec E) := [P68]
theorem S26_ok : AllS Tryz.prog E S26 := ⟨p68, trivial⟩
noncomputable def L26 : Nat → LoopInfo E := clL E 8 [] []
noncomputable def B26 : List (DVal E.T) → St E.T → Tree (Res E.T × St E.T) := dbody E (lookS S26) (lookD []) L26 0 false Tryz.f26
theorem B26_ok : FnOk Tryz.prog E 26 B26 := bodyC_ok sound mix S26_ok (SD := []) trivial (L := L26) (N := 0) (keep := false) Tryz.func26 rfl (by
  intro k g hg fr st out ho
  match k, hg with
  | _, hg => cases hg)
theorem F26 (b : List UInt8) : (B26 [.val (.slice (.int .u8)) b] []).get = N.msg_TakeTell_k N.fuel (fun x_ => some (.ret [.val (.named 7) x_.1, .val .bool x_.2], [])) b := by kernel_rfl
noncomputable def i26 : Ins E (Res E.T × St E.T) := ⟨[.v (.slice (.int .u8))], [], fun b => .opt (N.msg_TakeTell N.fuel b) fun x_ => .ret (.ret [.val (.named 7) x_.1, .val .bool x_.2], [])⟩
theorem i26_ok : InsOk Tryz.prog 26 i26 := ⟨B26, B26_ok, by intro b out_ h_; exact ((F26 b).trans (N.msg_TakeTell_bind N.fuel _ b)).trans h_⟩
noncomputable def P26 : Nat × D.Spec E := (26, .pure [(.slice (.int .u8))] (pureF [i26]))
theorem p26 : SpecOk Tryz.prog E P26.1 P26.2 := pureI_ok Tryz.call26 ⟨i26_ok, trivial⟩

/-! (*tenancy/client.work).epoch -/
noncomputable def S27 : List (Nat × D.Spec E) := [P31, P71]
theorem S27_ok : AllS Tryz.prog E S27 := ⟨p31, p71, trivial⟩
abbrev h27_s0 (t25 : Int) (t : N.TTell) (t26 : Int) (w : N.Tclient_work) : Fr E.T := ofSlots E 57 [] [0, 3, 24, 25, 26] [.ptr 0 [], .ptr 3 [], .own 1, .val (.int .i64) t25, .val (.int .i64) t26]
abbrev t27_s0 (t25 : Int) (t : N.TTell) (t26 : Int) (w : N.Tclient_work) : St E.T := [.box false (.agg 8 [.agg 4 [.val (.int .i64) w.Client.ID, .val (.int .i64) w.Client.Now, .val (.int .i64) w.Client.Epoch, .val (.int .i64) w.Client.Seq, .own 1, .own 2, .val (.named 3) w.Client.Out, .val (.int .i64) w.Client.Bad, .val (.int .i64) w.Client.Hits, .val (.int .i64) w.Client.Asks], .nils]), .arr .live (.named 1) w.Client.Files, .arr .live .str w.Client.Names, .box false (.val (.named 7) t)]
def x27_s0 (t25 : Int) (t : N.TTell) (x_ : N.Tclient_work) : Tree (CodeOut E) := .ret (.exit 0, ofSlots E 57 [] [0, 3] [.ptr 0 [], .ptr 3 []], [.box false (.agg 8 [.agg 4 [.val (.int .i64) x_.Client.ID, .val (.int .i64) x_.Client.Now, .val (.int .i64) x_.Client.Epoch, .val (.int .i64) x_.Client.Seq, .own 1, .own 2, .val (.named 3) x_.Client.Out, .val (.int .i64) x_.Client.Bad, .val (.int .i64) x_.Client.Hits, .val (.int .i64) x_.Client.Asks], .nils]), .arr .live (.named 1) x_.Client.Files, .arr .live .str x_.Client.Names, .box false (.val (.named 7) t)])
noncomputable def g27_s0 : Ins E (CodeOut E) := ⟨[.ptr 0 [], .ptr 3 [], .own 1, .v (.int .i64), .v (.int .i64)], [.box false (.agg 8 [.agg 4 [.v (.int .i64), .v (.int .i64), .v (.int .i64), .v (.int .i64), .own 1, .own 2, .v (.named 3), .v (.int .i64), .v (.int .i64), .v (.int .i64)], .nils]), .arr .live (.named 1), .arr .live .str, .box false (.v (.named 7))], fun t25 t26 w_Client_ID w_Client_Now w_Client_Epoch w_Client_Seq w_Client_Out w_Client_Bad w_Client_Hits w_Client_Asks a1_ a2_ t => .opt (N.client_work_epoch_l0 N.fuel t25 t t26 (N.Tclient_work.mk (N.TClient.mk w_Client_ID w_Client_Now w_Client_Epoch w_Client_Seq a1_ a2_ w_Client_Out w_Client_Bad w_Client_Hits w_Client_Asks) [])) (x27_s0 t25 t)⟩
noncomputable def L27 : Nat → LoopInfo E := clL E 57 [{ ks := [0, 3, 24, 25, 26], mvs := [], pro := [], d := [], g := some (insF [g27_s0]) }] []
theorem f27_s0 (t25 : Int) (t : N.TTell) (t26 : Int) (w : N.Tclient_work) : ((stepOf E S27 L27 0 0 Tryz.f27 (h27_s0 t25 t t26 w) (t27_s0 t25 t t26 w)).bind (nx E [0, 3, 24, 25, 26] [] [0, 3] 4)).get = N.client_work_epoch_s0k t25 t (fun v_ => some (.inl (h27_s0 t25 t v_.1 v_.2, t27_s0 t25 t v_.1 v_.2))) (fun x_ => some (.inr (.exit 0, ofSlots E 57 [] [0, 3] [.ptr 0 [], .ptr 3 []], [.box false (.agg 8 [.agg 4 [.val (.int .i64) x_.Client.ID, .val (.int .i64) x_.Client.Now, .val (.int .i64) x_.Client.Epoch, .val (.int .i64) x_.Client.Seq, .own 1, .own 2, .val (.named 3) x_.Client.Out, .val (.int .i64) x_.Client.Bad, .val (.int .i64) x_.Client.Hits, .val (.int .i64) x_.Client.Asks], .nils]), .arr .live (.named 1) x_.Client.Files, .arr .live .str x_.Client.Names, .box false (.val (.named 7) t)]))) t26 w := by kernel_rfl
theorem q27_s0 : InsLp 57 [0, 3, 24, 25, 26] [] [] (stepOf E S27 L27 0 0 Tryz.f27) g27_s0 := by
  intro t25 t26 w_Client_ID w_Client_Now w_Client_Epoch w_Client_Seq w_Client_Out w_Client_Bad w_Client_Hits w_Client_Asks a1_ a2_ t out_ ho_
  obtain ⟨x_, h1_, h2_⟩ := Option.bind_eq_some_iff.1 ho_
  refine iter_loop (rs := [0, 3]) (step := N.client_work_epoch_s0 t25 t) (hd := fun v_ => h27_s0 t25 t v_.1 v_.2) (sv := fun v_ => t27_s0 t25 t v_.1 v_.2) (ex := x27_s0 t25 t) (fun v_ => ?_) N.fuel (t26, (N.Tclient_work.mk (N.TClient.mk w_Client_ID w_Client_Now w_Client_Epoch w_Client_Seq a1_ a2_ w_Client_Out w_Client_Bad w_Client_Hits w_Client_Asks) [])) h1_ h2_
  refine (f27_s0 t25 t v_.1 v_.2).trans ((N.client_work_epoch_s0_bind t25 t _ _ v_.1 v_.2).trans ?_)
  refine congrArg _ (funext fun s_ => ?_)
  rcases s_ with v_ | a <;> rfl
noncomputable def B27 : List (DVal E.T) → St E.T → Tree (Res E.T × St E.T) := tidyF (dbody E (lookS S27) (lookD []) L27 0 true Tryz.f27)
theorem B27_ok : FnOk Tryz.prog E 27 B27 := tidy_fn ok (bodyC_ok sound mix S27_ok (SD := []) trivial (L := L27) (N := 0) (keep := true) Tryz.func27 rfl (by
  intro k g hg fr st out ho
  match k, hg with
  | 0, hg => cases hg; exact lp_ok (allLp_cons q27_s0 (allLp_nil)) fr st out ho
  | _ + 1, hg => cases hg))
theorem F27 (t : N.TTell) (w_Client_ID : Int) (w_Client_Now : Int) (w_Client_Epoch : Int) (w_Client_Seq : Int) (w_Client_Out : N.TOut) (w_Client_Bad : Int) (w_Client_Hits : Int) (w_Client_Asks : Int) (a1_ : List N.TCache) (a2_ : List (List UInt8)) : (B27 [.ptr 0 [], .val (.named 7) t] [.box false (.agg 8 [.agg 4 [.val (.int .i64) w_Client_ID, .val (.int .i64) w_Client_Now, .val (.int .i64) w_Client_Epoch, .val (.int .i64) w_Client_Seq, .own 1, .own 2, .val (.named 3) w_Client_Out, .val (.int .i64) w_Client_Bad, .val (.int .i64) w_Client_Hits, .val (.int .i64) w_Client_Asks], .nils]), .arr .live (.named 1) a1_, .arr .live .str a2_]).get = N.client_work_epoch_k N.fuel (fun x_ => some (.ret [], [.box false (.agg 8 [.agg 4 [.val (.int .i64) x_.Client.ID, .val (.int .i64) x_.Client.Now, .val (.int .i64) x_.Client.Epoch, .val (.int .i64) x_.Client.Seq, .own 1, .own 2, .val (.named 3) x_.Client.Out, .val (.int .i64) x_.Client.Bad, .val (.int .i64) x_.Client.Hits, .val (.int .i64) x_.Client.Asks], .nils]), .arr .live (.named 1) x_.Client.Files, .arr .live .str x_.Client.Names, .dead])) (fun x_ => some (.ret [], [.box false (.agg 8 [.agg 4 [.val (.int .i64) x_.Client.ID, .val (.int .i64) x_.Client.Now, .val (.int .i64) x_.Client.Epoch, .val (.int .i64) x_.Client.Seq, .own 1, .own 2, .val (.named 3) x_.Client.Out, .val (.int .i64) x_.Client.Bad, .val (.int .i64) x_.Client.Hits, .val (.int .i64) x_.Client.Asks], .own 4]), .arr .live (.named 1) x_.Client.Files, .arr .live .str x_.Client.Names, .dead, .arr .live (.named 2) x_.asked])) t (N.Tclient_work.mk (N.TClient.mk w_Client_ID w_Client_Now w_Client_Epoch w_Client_Seq a1_ a2_ w_Client_Out w_Client_Bad w_Client_Hits w_Client_Asks) []) := by kernel_rfl
noncomputable def i27 : Ins E (Res E.T × St E.T) := ⟨[.ptr 0 [], .v (.named 7)], [.box false (.agg 8 [.agg 4 [.v (.int .i64), .v (.int .i64), .v (.int .i64), .v (.int .i64), .own 1, .own 2, .v (.named 3), .v (.int .i64), .v (.int .i64), .v (.int .i64)], .nils]), .arr .live (.named 1), .arr .live .str], fun t w_Client_ID w_Client_Now w_Client_Epoch w_Client_Seq w_Client_Out w_Client_Bad w_Client_Hits w_Client_Asks a1_ a2_ => .opt (N.client_work_epoch N.fuel t (N.Tclient_work.mk (N.TClient.mk w_Client_ID w_Client_Now w_Client_Epoch w_Client_Seq a1_ a2_ w_Client_Out w_Client_Bad w_Client_Hits w_Client_Asks) [])) fun x_ => altT x_ (fun u0_ => .ret (.ret [], [.box false (.agg 8 [.agg 4 [.val (.int .i64) u0_.Client.ID, .val (.int .i64) u0_.Client.Now, .val (.int .i64) u0_.Client.Epoch, .val (.int .i64) u0_.Client.Seq, .own 1, .own 2, .val (.named 3) u0_.Client.Out, .val (.int .i64) u0_.Client.Bad, .val (.int .i64) u0_.Client.Hits, .val (.int .i64) u0_.Client.Asks], .nils]), .arr .live (.named 1) u0_.Client.Files, .arr .live .str u0_.Client.Names, .dead])) (fun w0_ => .ret (.ret [], [.box false (.agg 8 [.agg 4 [.val (.int .i64) w0_.Client.ID, .val (.int .i64) w0_.Client.Now, .val (.int .i64) w0_.Client.Epoch, .val (.int .i64) w0_.Client.Seq, .own 1, .own 2, .val (.named 3) w0_.Client.Out, .val (.int .i64) w0_.Client.Bad, .val (.int .i64) w0_.Client.Hits, .val (.int .i64) w0_.Client.Asks], .own 4]), .arr .live (.named 1) w0_.Client.Files, .arr .live .str w0_.Client.Names, .dead, .arr .live (.named 2) w0_.asked]))⟩
theorem i27_ok : InsOk Tryz.prog 27 i27 := ⟨B27, B27_ok, by intro t w_Client_ID w_Client_Now w_Client_Epoch w_Client_Seq w_Client_Out w_Client_Bad w_Client_Hits w_Client_Asks a1_ a2_ out_ h_; exact ((F27 t w_Client_ID w_Client_Now w_Client_Epoch w_Client_Seq w_Client_Out w_Client_Bad w_Client_Hits w_Client_Asks a1_ a2_).trans (N.client_work_epoch_bind N.fuel _ _ t (N.Tclient_work.mk (N.TClient.mk w_Client_ID w_Client_Now w_Client_Epoch w_Client_Seq a1_ a2_ w_Client_Out w_Client_Bad w_Client_Hits w_Client_Asks) []))).trans h_⟩
noncomputable def P27 : Nat × D.Spec E := (27, .full [.ptr, .data (.named 7)] false (fullF [i27]))
theorem p27 : SpecOk Tryz.prog E P27.1 P27.2 := fullI_ok ok Tryz.call27 ⟨i27_ok, trivial⟩

end Go.Proofs.YthabbcjjecpbmaaGreat.Z
