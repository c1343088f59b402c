/- The seat's functions, and the nice ones (3). -/
import Derived.Test.YthabbcjjecpbmaaSeat4
set_option linter.unusedVariables false
set_option maxRecDepth 100000
namespace Go.Proofs.Ythabbcjjecpbmaa.C
open Go Go.Proofs.Ythabbcjjecpbmaa.D

/-! (*tenancy/client.work).step -/
noncomputable def S37 : List (Nat × D.Spec E) := [P42, P55, P56, P57, P58, P59, P60, P61, P62]
theorem S37_ok : AllS Try.prog E S37 := ⟨p42, p55, p56, p57, p58, p59, p60, p61, p62, trivial⟩
noncomputable def L37 : Nat → LoopInfo E := clL E 105 [] []
noncomputable def B37 : List (DVal E.T) → St E.T → Tree (Res E.T × St E.T) := tidyF (dbody E (lookS S37) (lookD []) L37 0 true Try.f37)
theorem B37_ok : FnOk Try.prog E 37 B37 := tidy_fn ok (bodyC_ok sound mix S37_ok (SD := []) trivial (L := L37) (N := 0) (keep := true) Try.func37 rfl (by
  intro k g hg fr st out ho
  match k, hg with
  | _, hg => cases hg))
theorem F37 (s : N.TStep) (w_Client_ID : Int) (w_Client_Now : Int) (w_Client_Epoch : Int) (w_Client_Seq : Int) (w_Client_Out : N.TOut) (w_Client_Bad : Int) (w_Client_Hits : Int) (w_Client_Asks : Int) (a1_ : List N.TCache) (a2_ : List (List UInt8)) : (B37 [.ptr 0 [], .val (.named 6) s] [.box false (.agg 8 [.agg 4 [.val (.int .i64) w_Client_ID, .val (.int .i64) w_Client_Now, .val (.int .i64) w_Client_Epoch, .val (.int .i64) w_Client_Seq, .own 1, .own 2, .val (.named 3) w_Client_Out, .val (.int .i64) w_Client_Bad, .val (.int .i64) w_Client_Hits, .val (.int .i64) w_Client_Asks], .nils]), .arr .live (.named 1) a1_, .arr .live .str a2_]).get = N.client_work_step_k N.fuel (fun x_ => some (.ret [], [.box false (.agg 8 [.agg 4 [.val (.int .i64) x_.Client.ID, .val (.int .i64) x_.Client.Now, .val (.int .i64) x_.Client.Epoch, .val (.int .i64) x_.Client.Seq, .own 1, .own 2, .val (.named 3) x_.Client.Out, .val (.int .i64) x_.Client.Bad, .val (.int .i64) x_.Client.Hits, .val (.int .i64) x_.Client.Asks], .nils]), .arr .live (.named 1) x_.Client.Files, .arr .live .str x_.Client.Names, .dead, .dead])) (fun x_ => some (.ret [], [.box false (.agg 8 [.agg 4 [.val (.int .i64) x_.Client.ID, .val (.int .i64) x_.Client.Now, .val (.int .i64) x_.Client.Epoch, .val (.int .i64) x_.Client.Seq, .own 1, .own 2, .val (.named 3) x_.Client.Out, .val (.int .i64) x_.Client.Bad, .val (.int .i64) x_.Client.Hits, .val (.int .i64) x_.Client.Asks], .nils]), .arr .live (.named 1) x_.Client.Files, .arr .live .str x_.Client.Names, .dead, .dead, .dead])) (fun x_ => some (.ret [], [.box false (.agg 8 [.agg 4 [.val (.int .i64) x_.Client.ID, .val (.int .i64) x_.Client.Now, .val (.int .i64) x_.Client.Epoch, .val (.int .i64) x_.Client.Seq, .own 1, .own 2, .val (.named 3) x_.Client.Out, .val (.int .i64) x_.Client.Bad, .val (.int .i64) x_.Client.Hits, .val (.int .i64) x_.Client.Asks], .own 10]), .arr .live (.named 1) x_.Client.Files, .arr .live .str x_.Client.Names, .dead, .dead, .dead, .dead, .dead, .dead, .dead, .arr .live (.named 2) x_.asked])) (fun x_ => some (.ret [], [.box false (.agg 8 [.agg 4 [.val (.int .i64) x_.Client.ID, .val (.int .i64) x_.Client.Now, .val (.int .i64) x_.Client.Epoch, .val (.int .i64) x_.Client.Seq, .own 1, .own 2, .val (.named 3) x_.Client.Out, .val (.int .i64) x_.Client.Bad, .val (.int .i64) x_.Client.Hits, .val (.int .i64) x_.Client.Asks], .own 11]), .arr .live (.named 1) x_.Client.Files, .arr .live .str x_.Client.Names, .dead, .dead, .dead, .dead, .dead, .dead, .dead, .dead, .arr .live (.named 2) x_.asked])) (fun x_ => some (.ret [], [.box false (.agg 8 [.agg 4 [.val (.int .i64) x_.Client.ID, .val (.int .i64) x_.Client.Now, .val (.int .i64) x_.Client.Epoch, .val (.int .i64) x_.Client.Seq, .own 1, .own 2, .val (.named 3) x_.Client.Out, .val (.int .i64) x_.Client.Bad, .val (.int .i64) x_.Client.Hits, .val (.int .i64) x_.Client.Asks], .own 5]), .arr .live (.named 1) x_.Client.Files, .arr .live .str x_.Client.Names, .dead, .dead, .arr .live (.named 2) x_.asked])) (fun x_ => some (.ret [], [.box false (.agg 8 [.agg 4 [.val (.int .i64) x_.Client.ID, .val (.int .i64) x_.Client.Now, .val (.int .i64) x_.Client.Epoch, .val (.int .i64) x_.Client.Seq, .own 1, .own 2, .val (.named 3) x_.Client.Out, .val (.int .i64) x_.Client.Bad, .val (.int .i64) x_.Client.Hits, .val (.int .i64) x_.Client.Asks], .own 6]), .arr .live (.named 1) x_.Client.Files, .arr .live .str x_.Client.Names, .dead, .dead, .dead, .arr .live (.named 2) x_.asked])) (fun x_ => some (.ret [], [.box false (.agg 8 [.agg 4 [.val (.int .i64) x_.Client.ID, .val (.int .i64) x_.Client.Now, .val (.int .i64) x_.Client.Epoch, .val (.int .i64) x_.Client.Seq, .own 1, .own 2, .val (.named 3) x_.Client.Out, .val (.int .i64) x_.Client.Bad, .val (.int .i64) x_.Client.Hits, .val (.int .i64) x_.Client.Asks], .own 7]), .arr .live (.named 1) x_.Client.Files, .arr .live .str x_.Client.Names, .dead, .dead, .dead, .dead, .arr .live (.named 2) x_.asked])) (fun x_ => some (.ret [], [.box false (.agg 8 [.agg 4 [.val (.int .i64) x_.Client.ID, .val (.int .i64) x_.Client.Now, .val (.int .i64) x_.Client.Epoch, .val (.int .i64) x_.Client.Seq, .own 1, .own 2, .val (.named 3) x_.Client.Out, .val (.int .i64) x_.Client.Bad, .val (.int .i64) x_.Client.Hits, .val (.int .i64) x_.Client.Asks], .own 8]), .arr .live (.named 1) x_.Client.Files, .arr .live .str x_.Client.Names, .dead, .dead, .dead, .dead, .dead, .arr .live (.named 2) x_.asked])) (fun x_ => some (.ret [], [.box false (.agg 8 [.agg 4 [.val (.int .i64) x_.Client.ID, .val (.int .i64) x_.Client.Now, .val (.int .i64) x_.Client.Epoch, .val (.int .i64) x_.Client.Seq, .own 1, .own 2, .val (.named 3) x_.Client.Out, .val (.int .i64) x_.Client.Bad, .val (.int .i64) x_.Client.Hits, .val (.int .i64) x_.Client.Asks], .own 9]), .arr .live (.named 1) x_.Client.Files, .arr .live .str x_.Client.Names, .dead, .dead, .dead, .dead, .dead, .dead, .arr .live (.named 2) x_.asked])) (fun x_ => some (.panic (.ifc 102 (.val (.named 9) x_.1)), [.box false (.agg 8 [.agg 4 [.val (.int .i64) x_.2.Client.ID, .val (.int .i64) x_.2.Client.Now, .val (.int .i64) x_.2.Client.Epoch, .val (.int .i64) x_.2.Client.Seq, .own 1, .own 2, .val (.named 3) x_.2.Client.Out, .val (.int .i64) x_.2.Client.Bad, .val (.int .i64) x_.2.Client.Hits, .val (.int .i64) x_.2.Client.Asks], .nils]), .arr .live (.named 1) x_.2.Client.Files, .arr .live .str x_.2.Client.Names, .dead])) (fun x_ => some (.panic (.ifc 102 (.val (.named 9) x_.1)), [.box false (.agg 8 [.agg 4 [.val (.int .i64) x_.2.Client.ID, .val (.int .i64) x_.2.Client.Now, .val (.int .i64) x_.2.Client.Epoch, .val (.int .i64) x_.2.Client.Seq, .own 1, .own 2, .val (.named 3) x_.2.Client.Out, .val (.int .i64) x_.2.Client.Bad, .val (.int .i64) x_.2.Client.Hits, .val (.int .i64) x_.2.Client.Asks], .nils]), .arr .live (.named 1) x_.2.Client.Files, .arr .live .str x_.2.Client.Names, .dead, .dead])) (fun x_ => some (.panic (.ifc 102 (.val (.named 9) x_.1)), [.box false (.agg 8 [.agg 4 [.val (.int .i64) x_.2.Client.ID, .val (.int .i64) x_.2.Client.Now, .val (.int .i64) x_.2.Client.Epoch, .val (.int .i64) x_.2.Client.Seq, .own 1, .own 2, .val (.named 3) x_.2.Client.Out, .val (.int .i64) x_.2.Client.Bad, .val (.int .i64) x_.2.Client.Hits, .val (.int .i64) x_.2.Client.Asks], .nils]), .arr .live (.named 1) x_.2.Client.Files, .arr .live .str x_.2.Client.Names, .dead, .dead, .dead])) (fun x_ => some (.panic (.ifc 102 (.val (.named 9) x_.1)), [.box false (.agg 8 [.agg 4 [.val (.int .i64) x_.2.Client.ID, .val (.int .i64) x_.2.Client.Now, .val (.int .i64) x_.2.Client.Epoch, .val (.int .i64) x_.2.Client.Seq, .own 1, .own 2, .val (.named 3) x_.2.Client.Out, .val (.int .i64) x_.2.Client.Bad, .val (.int .i64) x_.2.Client.Hits, .val (.int .i64) x_.2.Client.Asks], .nils]), .arr .live (.named 1) x_.2.Client.Files, .arr .live .str x_.2.Client.Names, .dead, .dead, .dead, .dead])) (fun x_ => some (.panic (.ifc 102 (.val (.named 9) x_.1)), [.box false (.agg 8 [.agg 4 [.val (.int .i64) x_.2.Client.ID, .val (.int .i64) x_.2.Client.Now, .val (.int .i64) x_.2.Client.Epoch, .val (.int .i64) x_.2.Client.Seq, .own 1, .own 2, .val (.named 3) x_.2.Client.Out, .val (.int .i64) x_.2.Client.Bad, .val (.int .i64) x_.2.Client.Hits, .val (.int .i64) x_.2.Client.Asks], .nils]), .arr .live (.named 1) x_.2.Client.Files, .arr .live .str x_.2.Client.Names, .dead, .dead, .dead, .dead, .dead])) (fun x_ => some (.panic (.ifc 102 (.val (.named 9) x_.1)), [.box false (.agg 8 [.agg 4 [.val (.int .i64) x_.2.Client.ID, .val (.int .i64) x_.2.Client.Now, .val (.int .i64) x_.2.Client.Epoch, .val (.int .i64) x_.2.Client.Seq, .own 1, .own 2, .val (.named 3) x_.2.Client.Out, .val (.int .i64) x_.2.Client.Bad, .val (.int .i64) x_.2.Client.Hits, .val (.int .i64) x_.2.Client.Asks], .nils]), .arr .live (.named 1) x_.2.Client.Files, .arr .live .str x_.2.Client.Names, .dead, .dead, .dead, .dead, .dead, .dead])) s (N.Tclient_work.mk (N.TClient.mk w_Client_ID w_Client_Now w_Client_Epoch w_Client_Seq a1_ a2_ w_Client_Out w_Client_Bad w_Client_Hits w_Client_Asks) []) := by kernel_rfl
noncomputable def i37 : Ins E (Res E.T × St E.T) := ⟨[.ptr 0 [], .v (.named 6)], [.box false (.agg 8 [.agg 4 [.v (.int .i64), .v (.int .i64), .v (.int .i64), .v (.int .i64), .own 1, .own 2, .v (.named 3), .v (.int .i64), .v (.int .i64), .v (.int .i64)], .nils]), .arr .live (.named 1), .arr .live .str], fun s w_Client_ID w_Client_Now w_Client_Epoch w_Client_Seq w_Client_Out w_Client_Bad w_Client_Hits w_Client_Asks a1_ a2_ => .opt (N.client_work_step N.fuel s (N.Tclient_work.mk (N.TClient.mk w_Client_ID w_Client_Now w_Client_Epoch w_Client_Seq a1_ a2_ w_Client_Out w_Client_Bad w_Client_Hits w_Client_Asks) [])) fun x_ => altT x_ (fun u0_ => .ret (.ret [], [.box false (.agg 8 [.agg 4 [.val (.int .i64) u0_.Client.ID, .val (.int .i64) u0_.Client.Now, .val (.int .i64) u0_.Client.Epoch, .val (.int .i64) u0_.Client.Seq, .own 1, .own 2, .val (.named 3) u0_.Client.Out, .val (.int .i64) u0_.Client.Bad, .val (.int .i64) u0_.Client.Hits, .val (.int .i64) u0_.Client.Asks], .nils]), .arr .live (.named 1) u0_.Client.Files, .arr .live .str u0_.Client.Names, .dead, .dead])) (fun w0_ => altT w0_ (fun u1_ => .ret (.ret [], [.box false (.agg 8 [.agg 4 [.val (.int .i64) u1_.Client.ID, .val (.int .i64) u1_.Client.Now, .val (.int .i64) u1_.Client.Epoch, .val (.int .i64) u1_.Client.Seq, .own 1, .own 2, .val (.named 3) u1_.Client.Out, .val (.int .i64) u1_.Client.Bad, .val (.int .i64) u1_.Client.Hits, .val (.int .i64) u1_.Client.Asks], .nils]), .arr .live (.named 1) u1_.Client.Files, .arr .live .str u1_.Client.Names, .dead, .dead, .dead])) (fun w1_ => altT w1_ (fun u2_ => .ret (.ret [], [.box false (.agg 8 [.agg 4 [.val (.int .i64) u2_.Client.ID, .val (.int .i64) u2_.Client.Now, .val (.int .i64) u2_.Client.Epoch, .val (.int .i64) u2_.Client.Seq, .own 1, .own 2, .val (.named 3) u2_.Client.Out, .val (.int .i64) u2_.Client.Bad, .val (.int .i64) u2_.Client.Hits, .val (.int .i64) u2_.Client.Asks], .own 10]), .arr .live (.named 1) u2_.Client.Files, .arr .live .str u2_.Client.Names, .dead, .dead, .dead, .dead, .dead, .dead, .dead, .arr .live (.named 2) u2_.asked])) (fun w2_ => altT w2_ (fun u3_ => .ret (.ret [], [.box false (.agg 8 [.agg 4 [.val (.int .i64) u3_.Client.ID, .val (.int .i64) u3_.Client.Now, .val (.int .i64) u3_.Client.Epoch, .val (.int .i64) u3_.Client.Seq, .own 1, .own 2, .val (.named 3) u3_.Client.Out, .val (.int .i64) u3_.Client.Bad, .val (.int .i64) u3_.Client.Hits, .val (.int .i64) u3_.Client.Asks], .own 11]), .arr .live (.named 1) u3_.Client.Files, .arr .live .str u3_.Client.Names, .dead, .dead, .dead, .dead, .dead, .dead, .dead, .dead, .arr .live (.named 2) u3_.asked])) (fun w3_ => altT w3_ (fun u4_ => .ret (.ret [], [.box false (.agg 8 [.agg 4 [.val (.int .i64) u4_.Client.ID, .val (.int .i64) u4_.Client.Now, .val (.int .i64) u4_.Client.Epoch, .val (.int .i64) u4_.Client.Seq, .own 1, .own 2, .val (.named 3) u4_.Client.Out, .val (.int .i64) u4_.Client.Bad, .val (.int .i64) u4_.Client.Hits, .val (.int .i64) u4_.Client.Asks], .own 5]), .arr .live (.named 1) u4_.Client.Files, .arr .live .str u4_.Client.Names, .dead, .dead, .arr .live (.named 2) u4_.asked])) (fun w4_ => altT w4_ (fun u5_ => .ret (.ret [], [.box false (.agg 8 [.agg 4 [.val (.int .i64) u5_.Client.ID, .val (.int .i64) u5_.Client.Now, .val (.int .i64) u5_.Client.Epoch, .val (.int .i64) u5_.Client.Seq, .own 1, .own 2, .val (.named 3) u5_.Client.Out, .val (.int .i64) u5_.Client.Bad, .val (.int .i64) u5_.Client.Hits, .val (.int .i64) u5_.Client.Asks], .own 6]), .arr .live (.named 1) u5_.Client.Files, .arr .live .str u5_.Client.Names, .dead, .dead, .dead, .arr .live (.named 2) u5_.asked])) (fun w5_ => altT w5_ (fun u6_ => .ret (.ret [], [.box false (.agg 8 [.agg 4 [.val (.int .i64) u6_.Client.ID, .val (.int .i64) u6_.Client.Now, .val (.int .i64) u6_.Client.Epoch, .val (.int .i64) u6_.Client.Seq, .own 1, .own 2, .val (.named 3) u6_.Client.Out, .val (.int .i64) u6_.Client.Bad, .val (.int .i64) u6_.Client.Hits, .val (.int .i64) u6_.Client.Asks], .own 7]), .arr .live (.named 1) u6_.Client.Files, .arr .live .str u6_.Client.Names, .dead, .dead, .dead, .dead, .arr .live (.named 2) u6_.asked])) (fun w6_ => altT w6_ (fun u7_ => .ret (.ret [], [.box false (.agg 8 [.agg 4 [.val (.int .i64) u7_.Client.ID, .val (.int .i64) u7_.Client.Now, .val (.int .i64) u7_.Client.Epoch, .val (.int .i64) u7_.Client.Seq, .own 1, .own 2, .val (.named 3) u7_.Client.Out, .val (.int .i64) u7_.Client.Bad, .val (.int .i64) u7_.Client.Hits, .val (.int .i64) u7_.Client.Asks], .own 8]), .arr .live (.named 1) u7_.Client.Files, .arr .live .str u7_.Client.Names, .dead, .dead, .dead, .dead, .dead, .arr .live (.named 2) u7_.asked])) (fun w7_ => altT w7_ (fun u8_ => .ret (.ret [], [.box false (.agg 8 [.agg 4 [.val (.int .i64) u8_.Client.ID, .val (.int .i64) u8_.Client.Now, .val (.int .i64) u8_.Client.Epoch, .val (.int .i64) u8_.Client.Seq, .own 1, .own 2, .val (.named 3) u8_.Client.Out, .val (.int .i64) u8_.Client.Bad, .val (.int .i64) u8_.Client.Hits, .val (.int .i64) u8_.Client.Asks], .own 9]), .arr .live (.named 1) u8_.Client.Files, .arr .live .str u8_.Client.Names, .dead, .dead, .dead, .dead, .dead, .dead, .arr .live (.named 2) u8_.asked])) (fun w8_ => altT w8_ (fun u9_ => .ret (.panic (.ifc 102 (.val (.named 9) u9_.1)), [.box false (.agg 8 [.agg 4 [.val (.int .i64) u9_.2.Client.ID, .val (.int .i64) u9_.2.Client.Now, .val (.int .i64) u9_.2.Client.Epoch, .val (.int .i64) u9_.2.Client.Seq, .own 1, .own 2, .val (.named 3) u9_.2.Client.Out, .val (.int .i64) u9_.2.Client.Bad, .val (.int .i64) u9_.2.Client.Hits, .val (.int .i64) u9_.2.Client.Asks], .nils]), .arr .live (.named 1) u9_.2.Client.Files, .arr .live .str u9_.2.Client.Names, .dead])) (fun w9_ => altT w9_ (fun u10_ => .ret (.panic (.ifc 102 (.val (.named 9) u10_.1)), [.box false (.agg 8 [.agg 4 [.val (.int .i64) u10_.2.Client.ID, .val (.int .i64) u10_.2.Client.Now, .val (.int .i64) u10_.2.Client.Epoch, .val (.int .i64) u10_.2.Client.Seq, .own 1, .own 2, .val (.named 3) u10_.2.Client.Out, .val (.int .i64) u10_.2.Client.Bad, .val (.int .i64) u10_.2.Client.Hits, .val (.int .i64) u10_.2.Client.Asks], .nils]), .arr .live (.named 1) u10_.2.Client.Files, .arr .live .str u10_.2.Client.Names, .dead, .dead])) (fun w10_ => altT w10_ (fun u11_ => .ret (.panic (.ifc 102 (.val (.named 9) u11_.1)), [.box false (.agg 8 [.agg 4 [.val (.int .i64) u11_.2.Client.ID, .val (.int .i64) u11_.2.Client.Now, .val (.int .i64) u11_.2.Client.Epoch, .val (.int .i64) u11_.2.Client.Seq, .own 1, .own 2, .val (.named 3) u11_.2.Client.Out, .val (.int .i64) u11_.2.Client.Bad, .val (.int .i64) u11_.2.Client.Hits, .val (.int .i64) u11_.2.Client.Asks], .nils]), .arr .live (.named 1) u11_.2.Client.Files, .arr .live .str u11_.2.Client.Names, .dead, .dead, .dead])) (fun w11_ => altT w11_ (fun u12_ => .ret (.panic (.ifc 102 (.val (.named 9) u12_.1)), [.box false (.agg 8 [.agg 4 [.val (.int .i64) u12_.2.Client.ID, .val (.int .i64) u12_.2.Client.Now, .val (.int .i64) u12_.2.Client.Epoch, .val (.int .i64) u12_.2.Client.Seq, .own 1, .own 2, .val (.named 3) u12_.2.Client.Out, .val (.int .i64) u12_.2.Client.Bad, .val (.int .i64) u12_.2.Client.Hits, .val (.int .i64) u12_.2.Client.Asks], .nils]), .arr .live (.named 1) u12_.2.Client.Files, .arr .live .str u12_.2.Client.Names, .dead, .dead, .dead, .dead])) (fun w12_ => altT w12_ (fun u13_ => .ret (.panic (.ifc 102 (.val (.named 9) u13_.1)), [.box false (.agg 8 [.agg 4 [.val (.int .i64) u13_.2.Client.ID, .val (.int .i64) u13_.2.Client.Now, .val (.int .i64) u13_.2.Client.Epoch, .val (.int .i64) u13_.2.Client.Seq, .own 1, .own 2, .val (.named 3) u13_.2.Client.Out, .val (.int .i64) u13_.2.Client.Bad, .val (.int .i64) u13_.2.Client.Hits, .val (.int .i64) u13_.2.Client.Asks], .nils]), .arr .live (.named 1) u13_.2.Client.Files, .arr .live .str u13_.2.Client.Names, .dead, .dead, .dead, .dead, .dead])) (fun w13_ => .ret (.panic (.ifc 102 (.val (.named 9) w13_.1)), [.box false (.agg 8 [.agg 4 [.val (.int .i64) w13_.2.Client.ID, .val (.int .i64) w13_.2.Client.Now, .val (.int .i64) w13_.2.Client.Epoch, .val (.int .i64) w13_.2.Client.Seq, .own 1, .own 2, .val (.named 3) w13_.2.Client.Out, .val (.int .i64) w13_.2.Client.Bad, .val (.int .i64) w13_.2.Client.Hits, .val (.int .i64) w13_.2.Client.Asks], .nils]), .arr .live (.named 1) w13_.2.Client.Files, .arr .live .str w13_.2.Client.Names, .dead, .dead, .dead, .dead, .dead, .dead])))))))))))))))⟩
theorem i37_ok : InsOk Try.prog 37 i37 := ⟨B37, B37_ok, by intro s w_Client_ID w_Client_Now w_Client_Epoch w_Client_Seq w_Client_Out w_Client_Bad w_Client_Hits w_Client_Asks a1_ a2_ out_ h_; exact ((F37 s w_Client_ID w_Client_Now w_Client_Epoch w_Client_Seq w_Client_Out w_Client_Bad w_Client_Hits w_Client_Asks a1_ a2_).trans (N.client_work_step_bind N.fuel _ _ _ _ _ _ _ _ _ _ _ _ _ _ _ s (N.Tclient_work.mk (N.TClient.mk w_Client_ID w_Client_Now w_Client_Epoch w_Client_Seq a1_ a2_ w_Client_Out w_Client_Bad w_Client_Hits w_Client_Asks) []))).trans h_⟩
noncomputable def P37 : Nat × D.Spec E := (37, .full [.ptr, .data (.named 6)] false (fullF [i37]))
theorem p37 : SpecOk Try.prog E P37.1 P37.2 := fullI_ok ok Try.call37 ⟨i37_ok, trivial⟩

/-! tenancy/client.caught -/
noncomputable def S36 : List (Nat × D.Spec E) := []
theorem S36_ok : AllS Try.prog E S36 := trivial
noncomputable def L36 : Nat → LoopInfo E := clL E 20 [] []
noncomputable def B36 : DSpec E := dbodyD E (lookS S36) L36 0 Try.f36
theorem p36 : DSpecOk Try.prog E 36 B36 := dfullD_ok sound mix S36_ok (L := L36) (fun _ => rfl) Try.call36 Try.func36 rfl

/-! (*tenancy/client.work).does -/
noncomputable def S14 : List (Nat × D.Spec E) := [P37]
theorem S14_ok : AllS Try.prog E S14 := ⟨p37, trivial⟩
noncomputable def D14 : List (Nat × DSpec E) := [(36, B36)]
theorem D14_ok : AllD Try.prog E D14 := ⟨p36, trivial⟩
noncomputable def L14 : Nat → LoopInfo E := clL E 9 [] []
noncomputable def B14 : List (DVal E.T) → St E.T → Tree (Res E.T × St E.T) := tidyF (dbody E (lookS S14) (lookD D14) L14 0 true Try.f14)
theorem B14_ok : FnOk Try.prog E 14 B14 := tidy_fn ok (bodyC_ok sound mix S14_ok (SD := D14) D14_ok (L := L14) (N := 0) (keep := true) Try.func14 rfl (by
  intro k g hg fr st out ho
  match k, hg with
  | _, hg => cases hg))
theorem F14 (s : N.TStep) (w_Client_ID : Int) (w_Client_Now : Int) (w_Client_Epoch : Int) (w_Client_Seq : Int) (w_Client_Out : N.TOut) (w_Client_Bad : Int) (w_Client_Hits : Int) (w_Client_Asks : Int) (a1_ : List N.TCache) (a2_ : List (List UInt8)) : (B14 [.ptr 0 [], .val (.named 6) s] [.box false (.agg 8 [.agg 4 [.val (.int .i64) w_Client_ID, .val (.int .i64) w_Client_Now, .val (.int .i64) w_Client_Epoch, .val (.int .i64) w_Client_Seq, .own 1, .own 2, .val (.named 3) w_Client_Out, .val (.int .i64) w_Client_Bad, .val (.int .i64) w_Client_Hits, .val (.int .i64) w_Client_Asks], .nils]), .arr .live (.named 1) a1_, .arr .live .str a2_]).get = N.client_work_does_k N.fuel (fun x_ => some (.ret [.val (.named 5) x_.1], [.box false (.agg 8 [.agg 4 [.val (.int .i64) x_.2.Client.ID, .val (.int .i64) x_.2.Client.Now, .val (.int .i64) x_.2.Client.Epoch, .val (.int .i64) x_.2.Client.Seq, .own 1, .own 2, .val (.named 3) x_.2.Client.Out, .val (.int .i64) x_.2.Client.Bad, .val (.int .i64) x_.2.Client.Hits, .val (.int .i64) x_.2.Client.Asks], .nils]), .arr .live (.named 1) x_.2.Client.Files, .arr .live .str x_.2.Client.Names, .dead, .dead, .dead])) (fun x_ => some (.ret [.val (.named 5) x_.1], [.box false (.agg 8 [.agg 4 [.val (.int .i64) x_.2.Client.ID, .val (.int .i64) x_.2.Client.Now, .val (.int .i64) x_.2.Client.Epoch, .val (.int .i64) x_.2.Client.Seq, .own 1, .own 2, .val (.named 3) x_.2.Client.Out, .val (.int .i64) x_.2.Client.Bad, .val (.int .i64) x_.2.Client.Hits, .val (.int .i64) x_.2.Client.Asks], .nils]), .arr .live (.named 1) x_.2.Client.Files, .arr .live .str x_.2.Client.Names, .dead, .dead, .dead, .dead])) (fun x_ => some (.ret [.val (.named 5) x_.1], [.box false (.agg 8 [.agg 4 [.val (.int .i64) x_.2.Client.ID, .val (.int .i64) x_.2.Client.Now, .val (.int .i64) x_.2.Client.Epoch, .val (.int .i64) x_.2.Client.Seq, .own 1, .own 2, .val (.named 3) x_.2.Client.Out, .val (.int .i64) x_.2.Client.Bad, .val (.int .i64) x_.2.Client.Hits, .val (.int .i64) x_.2.Client.Asks], .nils]), .arr .live (.named 1) x_.2.Client.Files, .arr .live .str x_.2.Client.Names, .dead, .dead, .dead, .dead, .dead])) (fun x_ => some (.ret [.val (.named 5) x_.1], [.box false (.agg 8 [.agg 4 [.val (.int .i64) x_.2.Client.ID, .val (.int .i64) x_.2.Client.Now, .val (.int .i64) x_.2.Client.Epoch, .val (.int .i64) x_.2.Client.Seq, .own 1, .own 2, .val (.named 3) x_.2.Client.Out, .val (.int .i64) x_.2.Client.Bad, .val (.int .i64) x_.2.Client.Hits, .val (.int .i64) x_.2.Client.Asks], .nils]), .arr .live (.named 1) x_.2.Client.Files, .arr .live .str x_.2.Client.Names, .dead, .dead, .dead, .dead, .dead, .dead])) (fun x_ => some (.ret [.val (.named 5) x_.1], [.box false (.agg 8 [.agg 4 [.val (.int .i64) x_.2.Client.ID, .val (.int .i64) x_.2.Client.Now, .val (.int .i64) x_.2.Client.Epoch, .val (.int .i64) x_.2.Client.Seq, .own 1, .own 2, .val (.named 3) x_.2.Client.Out, .val (.int .i64) x_.2.Client.Bad, .val (.int .i64) x_.2.Client.Hits, .val (.int .i64) x_.2.Client.Asks], .nils]), .arr .live (.named 1) x_.2.Client.Files, .arr .live .str x_.2.Client.Names, .dead, .dead, .dead, .dead, .dead, .dead, .dead])) (fun x_ => some (.ret [.val (.named 5) x_.1], [.box false (.agg 8 [.agg 4 [.val (.int .i64) x_.2.Client.ID, .val (.int .i64) x_.2.Client.Now, .val (.int .i64) x_.2.Client.Epoch, .val (.int .i64) x_.2.Client.Seq, .own 1, .own 2, .val (.named 3) x_.2.Client.Out, .val (.int .i64) x_.2.Client.Bad, .val (.int .i64) x_.2.Client.Hits, .val (.int .i64) x_.2.Client.Asks], .nils]), .arr .live (.named 1) x_.2.Client.Files, .arr .live .str x_.2.Client.Names, .dead, .dead, .dead, .dead, .dead, .dead, .dead, .dead])) (fun x_ => some (.ret [.val (.named 5) (N.TAns.mk 5 0 [])], [.box false (.agg 8 [.agg 4 [.val (.int .i64) x_.Client.ID, .val (.int .i64) x_.Client.Now, .val (.int .i64) x_.Client.Epoch, .val (.int .i64) x_.Client.Seq, .own 1, .own 2, .val (.named 3) x_.Client.Out, .val (.int .i64) x_.Client.Bad, .val (.int .i64) x_.Client.Hits, .val (.int .i64) x_.Client.Asks], .own 10]), .arr .live (.named 1) x_.Client.Files, .arr .live .str x_.Client.Names, .dead, .dead, .dead, .dead, .dead, .dead, .dead, .arr .live (.named 2) x_.asked])) (fun x_ => some (.ret [.val (.named 5) (N.TAns.mk 5 0 [])], [.box false (.agg 8 [.agg 4 [.val (.int .i64) x_.Client.ID, .val (.int .i64) x_.Client.Now, .val (.int .i64) x_.Client.Epoch, .val (.int .i64) x_.Client.Seq, .own 1, .own 2, .val (.named 3) x_.Client.Out, .val (.int .i64) x_.Client.Bad, .val (.int .i64) x_.Client.Hits, .val (.int .i64) x_.Client.Asks], .own 11]), .arr .live (.named 1) x_.Client.Files, .arr .live .str x_.Client.Names, .dead, .dead, .dead, .dead, .dead, .dead, .dead, .dead, .arr .live (.named 2) x_.asked])) (fun x_ => some (.ret [.val (.named 5) (N.TAns.mk 5 0 [])], [.box false (.agg 8 [.agg 4 [.val (.int .i64) x_.Client.ID, .val (.int .i64) x_.Client.Now, .val (.int .i64) x_.Client.Epoch, .val (.int .i64) x_.Client.Seq, .own 1, .own 2, .val (.named 3) x_.Client.Out, .val (.int .i64) x_.Client.Bad, .val (.int .i64) x_.Client.Hits, .val (.int .i64) x_.Client.Asks], .own 12]), .arr .live (.named 1) x_.Client.Files, .arr .live .str x_.Client.Names, .dead, .dead, .dead, .dead, .dead, .dead, .dead, .dead, .dead, .arr .live (.named 2) x_.asked])) (fun x_ => some (.ret [.val (.named 5) (N.TAns.mk 5 0 [])], [.box false (.agg 8 [.agg 4 [.val (.int .i64) x_.Client.ID, .val (.int .i64) x_.Client.Now, .val (.int .i64) x_.Client.Epoch, .val (.int .i64) x_.Client.Seq, .own 1, .own 2, .val (.named 3) x_.Client.Out, .val (.int .i64) x_.Client.Bad, .val (.int .i64) x_.Client.Hits, .val (.int .i64) x_.Client.Asks], .own 13]), .arr .live (.named 1) x_.Client.Files, .arr .live .str x_.Client.Names, .dead, .dead, .dead, .dead, .dead, .dead, .dead, .dead, .dead, .dead, .arr .live (.named 2) x_.asked])) (fun x_ => some (.ret [.val (.named 5) (N.TAns.mk 5 0 [])], [.box false (.agg 8 [.agg 4 [.val (.int .i64) x_.Client.ID, .val (.int .i64) x_.Client.Now, .val (.int .i64) x_.Client.Epoch, .val (.int .i64) x_.Client.Seq, .own 1, .own 2, .val (.named 3) x_.Client.Out, .val (.int .i64) x_.Client.Bad, .val (.int .i64) x_.Client.Hits, .val (.int .i64) x_.Client.Asks], .own 7]), .arr .live (.named 1) x_.Client.Files, .arr .live .str x_.Client.Names, .dead, .dead, .dead, .dead, .arr .live (.named 2) x_.asked])) (fun x_ => some (.ret [.val (.named 5) (N.TAns.mk 5 0 [])], [.box false (.agg 8 [.agg 4 [.val (.int .i64) x_.Client.ID, .val (.int .i64) x_.Client.Now, .val (.int .i64) x_.Client.Epoch, .val (.int .i64) x_.Client.Seq, .own 1, .own 2, .val (.named 3) x_.Client.Out, .val (.int .i64) x_.Client.Bad, .val (.int .i64) x_.Client.Hits, .val (.int .i64) x_.Client.Asks], .own 8]), .arr .live (.named 1) x_.Client.Files, .arr .live .str x_.Client.Names, .dead, .dead, .dead, .dead, .dead, .arr .live (.named 2) x_.asked])) (fun x_ => some (.ret [.val (.named 5) (N.TAns.mk 5 0 [])], [.box false (.agg 8 [.agg 4 [.val (.int .i64) x_.Client.ID, .val (.int .i64) x_.Client.Now, .val (.int .i64) x_.Client.Epoch, .val (.int .i64) x_.Client.Seq, .own 1, .own 2, .val (.named 3) x_.Client.Out, .val (.int .i64) x_.Client.Bad, .val (.int .i64) x_.Client.Hits, .val (.int .i64) x_.Client.Asks], .own 9]), .arr .live (.named 1) x_.Client.Files, .arr .live .str x_.Client.Names, .dead, .dead, .dead, .dead, .dead, .dead, .arr .live (.named 2) x_.asked])) s (N.Tclient_work.mk (N.TClient.mk w_Client_ID w_Client_Now w_Client_Epoch w_Client_Seq a1_ a2_ w_Client_Out w_Client_Bad w_Client_Hits w_Client_Asks) []) := by kernel_rfl
noncomputable def i14 : Ins E (Res E.T × St E.T) := ⟨[.ptr 0 [], .v (.named 6)], [.box false (.agg 8 [.agg 4 [.v (.int .i64), .v (.int .i64), .v (.int .i64), .v (.int .i64), .own 1, .own 2, .v (.named 3), .v (.int .i64), .v (.int .i64), .v (.int .i64)], .nils]), .arr .live (.named 1), .arr .live .str], fun s w_Client_ID w_Client_Now w_Client_Epoch w_Client_Seq w_Client_Out w_Client_Bad w_Client_Hits w_Client_Asks a1_ a2_ => .opt (N.client_work_does N.fuel s (N.Tclient_work.mk (N.TClient.mk w_Client_ID w_Client_Now w_Client_Epoch w_Client_Seq a1_ a2_ w_Client_Out w_Client_Bad w_Client_Hits w_Client_Asks) [])) fun x_ => altT x_ (fun u0_ => .ret (.ret [.val (.named 5) u0_.1], [.box false (.agg 8 [.agg 4 [.val (.int .i64) u0_.2.Client.ID, .val (.int .i64) u0_.2.Client.Now, .val (.int .i64) u0_.2.Client.Epoch, .val (.int .i64) u0_.2.Client.Seq, .own 1, .own 2, .val (.named 3) u0_.2.Client.Out, .val (.int .i64) u0_.2.Client.Bad, .val (.int .i64) u0_.2.Client.Hits, .val (.int .i64) u0_.2.Client.Asks], .nils]), .arr .live (.named 1) u0_.2.Client.Files, .arr .live .str u0_.2.Client.Names, .dead, .dead, .dead])) (fun w0_ => altT w0_ (fun u1_ => .ret (.ret [.val (.named 5) u1_.1], [.box false (.agg 8 [.agg 4 [.val (.int .i64) u1_.2.Client.ID, .val (.int .i64) u1_.2.Client.Now, .val (.int .i64) u1_.2.Client.Epoch, .val (.int .i64) u1_.2.Client.Seq, .own 1, .own 2, .val (.named 3) u1_.2.Client.Out, .val (.int .i64) u1_.2.Client.Bad, .val (.int .i64) u1_.2.Client.Hits, .val (.int .i64) u1_.2.Client.Asks], .nils]), .arr .live (.named 1) u1_.2.Client.Files, .arr .live .str u1_.2.Client.Names, .dead, .dead, .dead, .dead])) (fun w1_ => altT w1_ (fun u2_ => .ret (.ret [.val (.named 5) u2_.1], [.box false (.agg 8 [.agg 4 [.val (.int .i64) u2_.2.Client.ID, .val (.int .i64) u2_.2.Client.Now, .val (.int .i64) u2_.2.Client.Epoch, .val (.int .i64) u2_.2.Client.Seq, .own 1, .own 2, .val (.named 3) u2_.2.Client.Out, .val (.int .i64) u2_.2.Client.Bad, .val (.int .i64) u2_.2.Client.Hits, .val (.int .i64) u2_.2.Client.Asks], .nils]), .arr .live (.named 1) u2_.2.Client.Files, .arr .live .str u2_.2.Client.Names, .dead, .dead, .dead, .dead, .dead])) (fun w2_ => altT w2_ (fun u3_ => .ret (.ret [.val (.named 5) u3_.1], [.box false (.agg 8 [.agg 4 [.val (.int .i64) u3_.2.Client.ID, .val (.int .i64) u3_.2.Client.Now, .val (.int .i64) u3_.2.Client.Epoch, .val (.int .i64) u3_.2.Client.Seq, .own 1, .own 2, .val (.named 3) u3_.2.Client.Out, .val (.int .i64) u3_.2.Client.Bad, .val (.int .i64) u3_.2.Client.Hits, .val (.int .i64) u3_.2.Client.Asks], .nils]), .arr .live (.named 1) u3_.2.Client.Files, .arr .live .str u3_.2.Client.Names, .dead, .dead, .dead, .dead, .dead, .dead])) (fun w3_ => altT w3_ (fun u4_ => .ret (.ret [.val (.named 5) u4_.1], [.box false (.agg 8 [.agg 4 [.val (.int .i64) u4_.2.Client.ID, .val (.int .i64) u4_.2.Client.Now, .val (.int .i64) u4_.2.Client.Epoch, .val (.int .i64) u4_.2.Client.Seq, .own 1, .own 2, .val (.named 3) u4_.2.Client.Out, .val (.int .i64) u4_.2.Client.Bad, .val (.int .i64) u4_.2.Client.Hits, .val (.int .i64) u4_.2.Client.Asks], .nils]), .arr .live (.named 1) u4_.2.Client.Files, .arr .live .str u4_.2.Client.Names, .dead, .dead, .dead, .dead, .dead, .dead, .dead])) (fun w4_ => altT w4_ (fun u5_ => .ret (.ret [.val (.named 5) u5_.1], [.box false (.agg 8 [.agg 4 [.val (.int .i64) u5_.2.Client.ID, .val (.int .i64) u5_.2.Client.Now, .val (.int .i64) u5_.2.Client.Epoch, .val (.int .i64) u5_.2.Client.Seq, .own 1, .own 2, .val (.named 3) u5_.2.Client.Out, .val (.int .i64) u5_.2.Client.Bad, .val (.int .i64) u5_.2.Client.Hits, .val (.int .i64) u5_.2.Client.Asks], .nils]), .arr .live (.named 1) u5_.2.Client.Files, .arr .live .str u5_.2.Client.Names, .dead, .dead, .dead, .dead, .dead, .dead, .dead, .dead])) (fun w5_ => altT w5_ (fun u6_ => .ret (.ret [.val (.named 5) (N.TAns.mk 5 0 [])], [.box false (.agg 8 [.agg 4 [.val (.int .i64) u6_.Client.ID, .val (.int .i64) u6_.Client.Now, .val (.int .i64) u6_.Client.Epoch, .val (.int .i64) u6_.Client.Seq, .own 1, .own 2, .val (.named 3) u6_.Client.Out, .val (.int .i64) u6_.Client.Bad, .val (.int .i64) u6_.Client.Hits, .val (.int .i64) u6_.Client.Asks], .own 10]), .arr .live (.named 1) u6_.Client.Files, .arr .live .str u6_.Client.Names, .dead, .dead, .dead, .dead, .dead, .dead, .dead, .arr .live (.named 2) u6_.asked])) (fun w6_ => altT w6_ (fun u7_ => .ret (.ret [.val (.named 5) (N.TAns.mk 5 0 [])], [.box false (.agg 8 [.agg 4 [.val (.int .i64) u7_.Client.ID, .val (.int .i64) u7_.Client.Now, .val (.int .i64) u7_.Client.Epoch, .val (.int .i64) u7_.Client.Seq, .own 1, .own 2, .val (.named 3) u7_.Client.Out, .val (.int .i64) u7_.Client.Bad, .val (.int .i64) u7_.Client.Hits, .val (.int .i64) u7_.Client.Asks], .own 11]), .arr .live (.named 1) u7_.Client.Files, .arr .live .str u7_.Client.Names, .dead, .dead, .dead, .dead, .dead, .dead, .dead, .dead, .arr .live (.named 2) u7_.asked])) (fun w7_ => altT w7_ (fun u8_ => .ret (.ret [.val (.named 5) (N.TAns.mk 5 0 [])], [.box false (.agg 8 [.agg 4 [.val (.int .i64) u8_.Client.ID, .val (.int .i64) u8_.Client.Now, .val (.int .i64) u8_.Client.Epoch, .val (.int .i64) u8_.Client.Seq, .own 1, .own 2, .val (.named 3) u8_.Client.Out, .val (.int .i64) u8_.Client.Bad, .val (.int .i64) u8_.Client.Hits, .val (.int .i64) u8_.Client.Asks], .own 12]), .arr .live (.named 1) u8_.Client.Files, .arr .live .str u8_.Client.Names, .dead, .dead, .dead, .dead, .dead, .dead, .dead, .dead, .dead, .arr .live (.named 2) u8_.asked])) (fun w8_ => altT w8_ (fun u9_ => .ret (.ret [.val (.named 5) (N.TAns.mk 5 0 [])], [.box false (.agg 8 [.agg 4 [.val (.int .i64) u9_.Client.ID, .val (.int .i64) u9_.Client.Now, .val (.int .i64) u9_.Client.Epoch, .val (.int .i64) u9_.Client.Seq, .own 1, .own 2, .val (.named 3) u9_.Client.Out, .val (.int .i64) u9_.Client.Bad, .val (.int .i64) u9_.Client.Hits, .val (.int .i64) u9_.Client.Asks], .own 13]), .arr .live (.named 1) u9_.Client.Files, .arr .live .str u9_.Client.Names, .dead, .dead, .dead, .dead, .dead, .dead, .dead, .dead, .dead, .dead, .arr .live (.named 2) u9_.asked])) (fun w9_ => altT w9_ (fun u10_ => .ret (.ret [.val (.named 5) (N.TAns.mk 5 0 [])], [.box false (.agg 8 [.agg 4 [.val (.int .i64) u10_.Client.ID, .val (.int .i64) u10_.Client.Now, .val (.int .i64) u10_.Client.Epoch, .val (.int .i64) u10_.Client.Seq, .own 1, .own 2, .val (.named 3) u10_.Client.Out, .val (.int .i64) u10_.Client.Bad, .val (.int .i64) u10_.Client.Hits, .val (.int .i64) u10_.Client.Asks], .own 7]), .arr .live (.named 1) u10_.Client.Files, .arr .live .str u10_.Client.Names, .dead, .dead, .dead, .dead, .arr .live (.named 2) u10_.asked])) (fun w10_ => altT w10_ (fun u11_ => .ret (.ret [.val (.named 5) (N.TAns.mk 5 0 [])], [.box false (.agg 8 [.agg 4 [.val (.int .i64) u11_.Client.ID, .val (.int .i64) u11_.Client.Now, .val (.int .i64) u11_.Client.Epoch, .val (.int .i64) u11_.Client.Seq, .own 1, .own 2, .val (.named 3) u11_.Client.Out, .val (.int .i64) u11_.Client.Bad, .val (.int .i64) u11_.Client.Hits, .val (.int .i64) u11_.Client.Asks], .own 8]), .arr .live (.named 1) u11_.Client.Files, .arr .live .str u11_.Client.Names, .dead, .dead, .dead, .dead, .dead, .arr .live (.named 2) u11_.asked])) (fun w11_ => .ret (.ret [.val (.named 5) (N.TAns.mk 5 0 [])], [.box false (.agg 8 [.agg 4 [.val (.int .i64) w11_.Client.ID, .val (.int .i64) w11_.Client.Now, .val (.int .i64) w11_.Client.Epoch, .val (.int .i64) w11_.Client.Seq, .own 1, .own 2, .val (.named 3) w11_.Client.Out, .val (.int .i64) w11_.Client.Bad, .val (.int .i64) w11_.Client.Hits, .val (.int .i64) w11_.Client.Asks], .own 9]), .arr .live (.named 1) w11_.Client.Files, .arr .live .str w11_.Client.Names, .dead, .dead, .dead, .dead, .dead, .dead, .arr .live (.named 2) w11_.asked])))))))))))))⟩
theorem i14_ok : InsOk Try.prog 14 i14 := ⟨B14, B14_ok, by intro s w_Client_ID w_Client_Now w_Client_Epoch w_Client_Seq w_Client_Out w_Client_Bad w_Client_Hits w_Client_Asks a1_ a2_ out_ h_; exact ((F14 s w_Client_ID w_Client_Now w_Client_Epoch w_Client_Seq w_Client_Out w_Client_Bad w_Client_Hits w_Client_Asks a1_ a2_).trans (N.client_work_does_bind N.fuel _ _ _ _ _ _ _ _ _ _ _ _ _ s (N.Tclient_work.mk (N.TClient.mk w_Client_ID w_Client_Now w_Client_Epoch w_Client_Seq a1_ a2_ w_Client_Out w_Client_Bad w_Client_Hits w_Client_Asks) []))).trans h_⟩
noncomputable def P14 : Nat × D.Spec E := (14, .full [.ptr, .data (.named 6)] false (fullF [i14]))
theorem p14 : SpecOk Try.prog E P14.1 P14.2 := fullI_ok ok Try.call14 ⟨i14_ok, trivial⟩

/-! tenancy/client.Do -/
noncomputable def S7 : List (Nat × D.Spec E) := [P13, P14]
theorem S7_ok : AllS Try.prog E S7 := ⟨p13, p14, trivial⟩
noncomputable def L7 : Nat → LoopInfo E := clL E 23 [] []
noncomputable def B7 : List (DVal E.T) → St E.T → Tree (Res E.T × St E.T) := dbody E (lookS S7) (lookD []) L7 0 false Try.f7
theorem B7_ok : FnOk Try.prog E 7 B7 := bodyC_ok sound mix S7_ok (SD := []) trivial (L := L7) (N := 0) (keep := false) Try.func7 rfl (by
  intro k g hg fr st out ho
  match k, hg with
  | _, hg => cases hg)
theorem F7 (c : N.TClient) (s : N.TStep) : (B7 [.val (.named 4) c, .val (.named 6) s] []).get = N.client_Do_k N.fuel (fun x_ => some (.ret [.val (.named 4) x_.1, .val (.named 5) x_.2.1, .val (.slice (.named 2)) x_.2.2], [])) c s := by kernel_rfl
noncomputable def i7 : Ins E (Res E.T × St E.T) := ⟨[.v (.named 4), .v (.named 6)], [], fun c s => .opt (N.client_Do N.fuel c s) fun x_ => .ret (.ret [.val (.named 4) x_.1, .val (.named 5) x_.2.1, .val (.slice (.named 2)) x_.2.2], [])⟩
theorem i7_ok : InsOk Try.prog 7 i7 := ⟨B7, B7_ok, by intro c s out_ h_; exact ((F7 c s).trans (N.client_Do_bind N.fuel _ c s)).trans h_⟩
noncomputable def P7 : Nat × D.Spec E := (7, .pure [(.named 4), (.named 6)] (pureF [i7]))
theorem p7 : SpecOk Try.prog E P7.1 P7.2 := pureI_ok Try.call7 ⟨i7_ok, trivial⟩

/-! tenancy/tenancyref13.num -/
noncomputable def S48 : List (Nat × D.Spec E) := []
theorem S48_ok : AllS Try.prog E S48 := trivial
noncomputable def L48 : Nat → LoopInfo E := clL E 12 [] []
noncomputable def B48 : List (DVal E.T) → St E.T → Tree (Res E.T × St E.T) := dbody E (lookS S48) (lookD []) L48 0 false Try.f48
theorem B48_ok : FnOk Try.prog E 48 B48 := bodyC_ok sound mix S48_ok (SD := []) trivial (L := L48) (N := 0) (keep := false) Try.func48 rfl (by
  intro k g hg fr st out ho
  match k, hg with
  | _, hg => cases hg)
theorem F48 (n : Int) (least : Int) : (B48 [.val (.int .i64) n, .val (.int .i64) least] []).get = N.ref13_num_k (fun x_ => some (.ret [.val .bool x_], [])) n least := by kernel_rfl
noncomputable def i48 : Ins E (Res E.T × St E.T) := ⟨[.v (.int .i64), .v (.int .i64)], [], fun n least => .ret (.ret [.val .bool (N.ref13_num n least)], [])⟩
theorem i48_ok : InsOk Try.prog 48 i48 := ⟨B48, B48_ok, by intro n least out_ h_; exact ((F48 n least).trans (N.ref13_num_bind _ n least)).trans h_⟩
noncomputable def P48 : Nat × D.Spec E := (48, .pure [(.int .i64), (.int .i64)] (pureF [i48]))
theorem p48 : SpecOk Try.prog E P48.1 P48.2 := pureI_ok Try.call48 ⟨i48_ok, trivial⟩

/-! tenancy/tenancyref13.MayTell -/
noncomputable def S19 : List (Nat × D.Spec E) := [P48]
theorem S19_ok : AllS Try.prog E S19 := ⟨p48, trivial⟩
noncomputable def L19 : Nat → LoopInfo E := clL E 107 [] []
noncomputable def B19 : List (DVal E.T) → St E.T → Tree (Res E.T × St E.T) := dbody E (lookS S19) (lookD []) L19 0 false Try.f19
theorem B19_ok : FnOk Try.prog E 19 B19 := bodyC_ok sound mix S19_ok (SD := []) trivial (L := L19) (N := 0) (keep := false) Try.func19 rfl (by
  intro k g hg fr st out ho
  match k, hg with
  | _, hg => cases hg)
theorem F19 (t : N.TTell) : (B19 [.val (.named 7) t] []).get = N.ref13_MayTell_k (fun x_ => some (.ret [.val .bool x_], [])) t := by kernel_rfl
noncomputable def i19 : Ins E (Res E.T × St E.T) := ⟨[.v (.named 7)], [], fun t => .ret (.ret [.val .bool (N.ref13_MayTell t)], [])⟩
theorem i19_ok : InsOk Try.prog 19 i19 := ⟨B19, B19_ok, by intro t out_ h_; exact ((F19 t).trans (N.ref13_MayTell_bind _ t)).trans h_⟩
noncomputable def P19 : Nat × D.Spec E := (19, .pure [(.named 7)] (pureF [i19]))
theorem p19 : SpecOk Try.prog E P19.1 P19.2 := pureI_ok Try.call19 ⟨i19_ok, trivial⟩

/-! tenancy/tenancyref1.Put -/
noncomputable def S20 : List (Nat × D.Spec E) := []
theorem S20_ok : AllS Try.prog E S20 := trivial
abbrev h20_s0 (v : Int) (i : Int) (out : List UInt8) : Fr E.T := ofSlots E 34 [] [1, 7, 8] [.val (.int .i64) v, .own 0, .val (.int .i64) i]
abbrev t20_s0 (v : Int) (i : Int) (out : List UInt8) : St E.T := [.arr .live (.int .u8) out]
def x20_s0 (v : Int) (x_ : List UInt8) : Tree (CodeOut E) := .ret (.exit 0, ofSlots E 34 [] [6, 7] [.undef, .own 0], [.arr .live (.int .u8) x_])
noncomputable def g20_s0 : Ins E (CodeOut E) := ⟨[.v (.int .i64), .own 0, .v (.int .i64)], [.arr .live (.int .u8)], fun v i out => .opt (N.ref1_Put_l0 N.fuel v i out) (x20_s0 v)⟩
noncomputable def L20 : Nat → LoopInfo E := clL E 34 [{ ks := [1, 7, 8], mvs := [], pro := [], d := [], g := some (insF [g20_s0]) }] []
theorem f20_s0 (v : Int) (i : Int) (out : List UInt8) : ((stepOf E S20 L20 0 0 Try.f20 (h20_s0 v i out) (t20_s0 v i out)).bind (nx E [1, 7, 8] [] [6, 7] 1)).get = N.ref1_Put_s0k v (fun v_ => some (.inl (h20_s0 v v_.1 v_.2, t20_s0 v v_.1 v_.2))) (fun x_ => some (.inr (.exit 0, ofSlots E 34 [] [6, 7] [.undef, .own 0], [.arr .live (.int .u8) x_]))) i out := by kernel_rfl
theorem q20_s0 : InsLp 34 [1, 7, 8] [] [] (stepOf E S20 L20 0 0 Try.f20) g20_s0 := by
  intro v i out out_ ho_
  obtain ⟨x_, h1_, h2_⟩ := Option.bind_eq_some_iff.1 ho_
  refine iter_loop (rs := [6, 7]) (step := N.ref1_Put_s0 v) (hd := fun v_ => h20_s0 v v_.1 v_.2) (sv := fun v_ => t20_s0 v v_.1 v_.2) (ex := x20_s0 v) (fun v_ => ?_) N.fuel (i, out) h1_ h2_
  refine (f20_s0 v v_.1 v_.2).trans ((N.ref1_Put_s0_bind v _ _ v_.1 v_.2).trans ?_)
  refine congrArg _ (funext fun s_ => ?_)
  rcases s_ with v_ | a <;> rfl
noncomputable def B20 : List (DVal E.T) → St E.T → Tree (Res E.T × St E.T) := dbody E (lookS S20) (lookD []) L20 0 false Try.f20
theorem B20_ok : FnOk Try.prog E 20 B20 := bodyC_ok sound mix S20_ok (SD := []) trivial (L := L20) (N := 0) (keep := false) Try.func20 rfl (by
  intro k g hg fr st out ho
  match k, hg with
  | 0, hg => cases hg; exact lp_ok (allLp_cons q20_s0 (allLp_nil)) fr st out ho
  | _ + 1, hg => cases hg)
theorem F20 (b : List UInt8) (v : Int) (n : Int) : (B20 [.val (.slice (.int .u8)) b, .val (.int .i64) v, .val (.int .i64) n] []).get = N.ref1_Put_k N.fuel (fun x_ => some (.ret [.val (.slice (.int .u8)) x_], [])) b v n := by kernel_rfl
noncomputable def i20 : Ins E (Res E.T × St E.T) := ⟨[.v (.slice (.int .u8)), .v (.int .i64), .v (.int .i64)], [], fun b v n => .opt (N.ref1_Put N.fuel b v n) fun x_ => .ret (.ret [.val (.slice (.int .u8)) x_], [])⟩
theorem i20_ok : InsOk Try.prog 20 i20 := ⟨B20, B20_ok, by intro b v n out_ h_; exact ((F20 b v n).trans (N.ref1_Put_bind N.fuel _ b v n)).trans h_⟩
noncomputable def P20 : Nat × D.Spec E := (20, .pure [(.slice (.int .u8)), (.int .i64), (.int .i64)] (pureF [i20]))
theorem p20 : SpecOk Try.prog E P20.1 P20.2 := pureI_ok Try.call20 ⟨i20_ok, trivial⟩

/-! tenancy/tenancyref1.Text -/
noncomputable def S22 : List (Nat × D.Spec E) := []
theorem S22_ok : AllS Try.prog E S22 := trivial
noncomputable def L22 : Nat → LoopInfo E := clL E 21 [] []
noncomputable def B22 : List (DVal E.T) → St E.T → Tree (Res E.T × St E.T) := dbody E (lookS S22) (lookD []) L22 0 false Try.f22
theorem B22_ok : FnOk Try.prog E 22 B22 := bodyC_ok sound mix S22_ok (SD := []) trivial (L := L22) (N := 0) (keep := false) Try.func22 rfl (by
  intro k g hg fr st out ho
  match k, hg with
  | _, hg => cases hg)
theorem F22 (b : List UInt8) (s : List UInt8) : (B22 [.val (.slice (.int .u8)) b, .val .str s] []).get = N.ref1_Text_k (fun x_ => some (.ret [.val (.slice (.int .u8)) x_], [])) b s := by kernel_rfl
noncomputable def i22 : Ins E (Res E.T × St E.T) := ⟨[.v (.slice (.int .u8)), .v .str], [], fun b s => .opt (N.ref1_Text b s) fun x_ => .ret (.ret [.val (.slice (.int .u8)) x_], [])⟩
theorem i22_ok : InsOk Try.prog 22 i22 := ⟨B22, B22_ok, by intro b s out_ h_; exact ((F22 b s).trans (N.ref1_Text_bind _ b s)).trans h_⟩
noncomputable def P22 : Nat × D.Spec E := (22, .pure [(.slice (.int .u8)), .str] (pureF [i22]))
theorem p22 : SpecOk Try.prog E P22.1 P22.2 := pureI_ok Try.call22 ⟨i22_ok, trivial⟩

/-! tenancy/tenancyref1.Crc -/
noncomputable def S49 : List (Nat × D.Spec E) := []
theorem S49_ok : AllS Try.prog E S49 := trivial
abbrev h49_s0 (b : List UInt8) (i : Int) (c : Int) (k : Int) : Fr E.T := ofSlots E 33 [] [0, 3, 4, 5] [.val (.slice (.int .u8)) b, .val (.int .i64) c, .val (.int .i64) i, .val (.int .i64) k]
abbrev t49_s0 (b : List UInt8) (i : Int) (c : Int) (k : Int) : St E.T := []
def x49_s0 (b : List UInt8) (i : Int) (x_ : Int) : Tree (CodeOut E) := .ret (.exit 2, ofSlots E 33 [] [0, 2, 3, 4] [.val (.slice (.int .u8)) b, .undef, .val (.int .i64) x_, .val (.int .i64) i], [])
noncomputable def g49_s0 : Ins E (CodeOut E) := ⟨[.v (.slice (.int .u8)), .v (.int .i64), .v (.int .i64), .v (.int .i64)], [], fun b c i k => .opt (N.ref1_Crc_l0 N.fuel b i c k) (x49_s0 b i)⟩
abbrev h49_s1 (b : List UInt8) (c : Int) (i : Int) : Fr E.T := ofSlots E 33 [] [0, 3, 4] [.val (.slice (.int .u8)) b, .val (.int .i64) c, .val (.int .i64) i]
abbrev t49_s1 (b : List UInt8) (c : Int) (i : Int) : St E.T := []
def x49_s1 (b : List UInt8) (x_ : Int) : Tree (CodeOut E) := .ret (.exit 0, ofSlots E 33 [] [2, 3] [.undef, .val (.int .i64) x_], [])
noncomputable def g49_s1 : Ins E (CodeOut E) := ⟨[.v (.slice (.int .u8)), .v (.int .i64), .v (.int .i64)], [], fun b c i => .opt (N.ref1_Crc_l1 N.fuel b c i) (x49_s1 b)⟩
noncomputable def L49 : Nat → LoopInfo E := clL E 33 [{ ks := [0, 3, 4], mvs := [], pro := [], d := [], g := some (insF [g49_s1]) }, { ks := [0, 3, 4, 5], mvs := [], pro := [], d := [], g := some (insF [g49_s0]) }] []
theorem f49_s0 (b : List UInt8) (i : Int) (c : Int) (k : Int) : ((stepOf E S49 L49 0 1 Try.f49 (h49_s0 b i c k) (t49_s0 b i c k)).bind (nx E [0, 3, 4, 5] [] [0, 2, 3, 4] 0)).get = N.ref1_Crc_s0k b i (fun v_ => some (.inl (h49_s0 b i v_.1 v_.2, t49_s0 b i v_.1 v_.2))) (fun x_ => some (.inr (.exit 2, ofSlots E 33 [] [0, 2, 3, 4] [.val (.slice (.int .u8)) b, .undef, .val (.int .i64) x_, .val (.int .i64) i], []))) c k := by kernel_rfl
theorem q49_s0 : InsLp 33 [0, 3, 4, 5] [] [] (stepOf E S49 L49 0 1 Try.f49) g49_s0 := by
  intro b c i k out_ ho_
  obtain ⟨x_, h1_, h2_⟩ := Option.bind_eq_some_iff.1 ho_
  refine iter_loop (rs := [0, 2, 3, 4]) (step := N.ref1_Crc_s0 b i) (hd := fun v_ => h49_s0 b i v_.1 v_.2) (sv := fun v_ => t49_s0 b i v_.1 v_.2) (ex := x49_s0 b i) (fun v_ => ?_) N.fuel (c, k) h1_ h2_
  refine (f49_s0 b i v_.1 v_.2).trans ((N.ref1_Crc_s0_bind b i _ _ v_.1 v_.2).trans ?_)
  refine congrArg _ (funext fun s_ => ?_)
  rcases s_ with v_ | a <;> rfl
theorem f49_s1 (b : List UInt8) (c : Int) (i : Int) : ((stepOf E S49 L49 0 0 Try.f49 (h49_s1 b c i) (t49_s1 b c i)).bind (nx E [0, 3, 4] [] [2, 3] 0)).get = N.ref1_Crc_s1k N.fuel b (fun v_ => some (.inl (h49_s1 b v_.1 v_.2, t49_s1 b v_.1 v_.2))) (fun x_ => some (.inr (.exit 0, ofSlots E 33 [] [2, 3] [.undef, .val (.int .i64) x_], []))) c i := by kernel_rfl
theorem q49_s1 : InsLp 33 [0, 3, 4] [] [] (stepOf E S49 L49 0 0 Try.f49) g49_s1 := by
  intro b c i out_ ho_
  obtain ⟨x_, h1_, h2_⟩ := Option.bind_eq_some_iff.1 ho_
  refine iter_loop (rs := [2, 3]) (step := N.ref1_Crc_s1 N.fuel b) (hd := fun v_ => h49_s1 b v_.1 v_.2) (sv := fun v_ => t49_s1 b v_.1 v_.2) (ex := x49_s1 b) (fun v_ => ?_) N.fuel (c, i) h1_ h2_
  refine (f49_s1 b v_.1 v_.2).trans ((N.ref1_Crc_s1_bind N.fuel b _ _ v_.1 v_.2).trans ?_)
  refine congrArg _ (funext fun s_ => ?_)
  rcases s_ with v_ | a <;> rfl
noncomputable def B49 : List (DVal E.T) → St E.T → Tree (Res E.T × St E.T) := dbody E (lookS S49) (lookD []) L49 0 false Try.f49
theorem B49_ok : FnOk Try.prog E 49 B49 := bodyC_ok sound mix S49_ok (SD := []) trivial (L := L49) (N := 0) (keep := false) Try.func49 rfl (by
  intro k g hg fr st out ho
  match k, hg with
  | 0, hg => cases hg; exact lp_ok (allLp_cons q49_s1 (allLp_nil)) fr st out ho
  | 1, hg => cases hg; exact lp_ok (allLp_cons q49_s0 (allLp_nil)) fr st out ho
  | _ + 2, hg => cases hg)
theorem F49 (b : List UInt8) : (B49 [.val (.slice (.int .u8)) b] []).get = N.ref1_Crc_k N.fuel (fun x_ => some (.ret [.val (.int .u16) x_], [])) b := by kernel_rfl
noncomputable def i49 : Ins E (Res E.T × St E.T) := ⟨[.v (.slice (.int .u8))], [], fun b => .opt (N.ref1_Crc N.fuel b) fun x_ => .ret (.ret [.val (.int .u16) x_], [])⟩
theorem i49_ok : InsOk Try.prog 49 i49 := ⟨B49, B49_ok, by intro b out_ h_; exact ((F49 b).trans (N.ref1_Crc_bind N.fuel _ b)).trans h_⟩
noncomputable def P49 : Nat × D.Spec E := (49, .pure [(.slice (.int .u8))] (pureF [i49]))
theorem p49 : SpecOk Try.prog E P49.1 P49.2 := pureI_ok Try.call49 ⟨i49_ok, trivial⟩

/-! tenancy/tenancyref13.sealed -/
noncomputable def S21 : List (Nat × D.Spec E) := [P20, P49]
theorem S21_ok : AllS Try.prog E S21 := ⟨p20, p49, trivial⟩
noncomputable def L21 : Nat → LoopInfo E := clL E 8 [] []
noncomputable def B21 : List (DVal E.T) → St E.T → Tree (Res E.T × St E.T) := dbody E (lookS S21) (lookD []) L21 0 false Try.f21
theorem B21_ok : FnOk Try.prog E 21 B21 := bodyC_ok sound mix S21_ok (SD := []) trivial (L := L21) (N := 0) (keep := false) Try.func21 rfl (by
  intro k g hg fr st out ho
  match k, hg with
  | _, hg => cases hg)
theorem F21 (b : List UInt8) : (B21 [.val (.slice (.int .u8)) b] []).get = N.ref13_sealed_k N.fuel (fun x_ => some (.ret [.val (.slice (.int .u8)) x_], [])) b := by kernel_rfl
noncomputable def i21 : Ins E (Res E.T × St E.T) := ⟨[.v (.slice (.int .u8))], [], fun b => .opt (N.ref13_sealed N.fuel b) fun x_ => .ret (.ret [.val (.slice (.int .u8)) x_], [])⟩
theorem i21_ok : InsOk Try.prog 21 i21 := ⟨B21, B21_ok, by intro b out_ h_; exact ((F21 b).trans (N.ref13_sealed_bind N.fuel _ b)).trans h_⟩
noncomputable def P21 : Nat × D.Spec E := (21, .pure [(.slice (.int .u8))] (pureF [i21]))
theorem p21 : SpecOk Try.prog E P21.1 P21.2 := pureI_ok Try.call21 ⟨i21_ok, trivial⟩

/-! tenancy/tenancyref13.PutTell -/
noncomputable def S9 : List (Nat × D.Spec E) := [P19, P20, P21, P22]
theorem S9_ok : AllS Try.prog E S9 := ⟨p19, p20, p21, p22, trivial⟩
noncomputable def L9 : Nat → LoopInfo E := clL E 37 [] []
noncomputable def B9 : List (DVal E.T) → St E.T → Tree (Res E.T × St E.T) := dbody E (lookS S9) (lookD []) L9 0 false Try.f9
theorem B9_ok : FnOk Try.prog E 9 B9 := bodyC_ok sound mix S9_ok (SD := []) trivial (L := L9) (N := 0) (keep := false) Try.func9 rfl (by
  intro k g hg fr st out ho
  match k, hg with
  | _, hg => cases hg)
theorem F9 (t : N.TTell) : (B9 [.val (.named 7) t] []).get = N.ref13_PutTell_k N.fuel (fun x_ => some (.ret [.val (.slice (.int .u8)) x_], [])) t := by kernel_rfl
noncomputable def i9 : Ins E (Res E.T × St E.T) := ⟨[.v (.named 7)], [], fun t => .opt (N.ref13_PutTell N.fuel t) fun x_ => .ret (.ret [.val (.slice (.int .u8)) x_], [])⟩
theorem i9_ok : InsOk Try.prog 9 i9 := ⟨B9, B9_ok, by intro t out_ h_; exact ((F9 t).trans (N.ref13_PutTell_bind N.fuel _ t)).trans h_⟩
noncomputable def P9 : Nat × D.Spec E := (9, .pure [(.named 7)] (pureF [i9]))
theorem p9 : SpecOk Try.prog E P9.1 P9.2 := pureI_ok Try.call9 ⟨i9_ok, trivial⟩

/-! tenancy/bits.front -/
noncomputable def S88 : List (Nat × D.Spec E) := []
theorem S88_ok : AllS Try.prog E S88 := trivial
noncomputable def L88 : Nat → LoopInfo E := clL E 14 [] []
noncomputable def B88 : List (DVal E.T) → St E.T → Tree (Res E.T × St E.T) := dbody E (lookS S88) (lookD []) L88 0 false Try.f88
theorem B88_ok : FnOk Try.prog E 88 B88 := bodyC_ok sound mix S88_ok (SD := []) trivial (L := L88) (N := 0) (keep := false) Try.func88 rfl (by
  intro k g hg fr st out ho
  match k, hg with
  | _, hg => cases hg)
theorem F88 (b : List UInt8) (n : Int) : (B88 [.val (.slice (.int .u8)) b, .val (.int .i64) n] []).get = N.bits_front_k (fun x_ => some (.ret [.val (.slice (.int .u8)) x_], [])) (fun x_ => some (.panic (.ifc 143 (.val (.named 10) N.TNil0.mk)), [])) b n := by kernel_rfl
noncomputable def i88 : Ins E (Res E.T × St E.T) := ⟨[.v (.slice (.int .u8)), .v (.int .i64)], [], fun b n => .opt (N.bits_front b n) fun x_ => altT x_ (fun u0_ => .ret (.ret [.val (.slice (.int .u8)) u0_], [])) (fun w0_ => .ret (.panic (.ifc 143 (.val (.named 10) N.TNil0.mk)), []))⟩
theorem i88_ok : InsOk Try.prog 88 i88 := ⟨B88, B88_ok, by intro b n out_ h_; exact ((F88 b n).trans (N.bits_front_bind _ _ b n)).trans h_⟩
noncomputable def P88 : Nat × D.Spec E := (88, .pure [(.slice (.int .u8)), (.int .i64)] (pureF [i88]))
theorem p88 : SpecOk Try.prog E P88.1 P88.2 := pureI_ok Try.call88 ⟨i88_ok, trivial⟩

/-! tenancy/bits.caught -/
noncomputable def S87 : List (Nat × D.Spec E) := []
theorem S87_ok : AllS Try.prog E S87 := trivial
noncomputable def L87 : Nat → LoopInfo E := clL E 18 [] []
noncomputable def B87 : DSpec E := dbodyD E (lookS S87) L87 0 Try.f87
theorem p87 : DSpecOk Try.prog E 87 B87 := dfullD_ok sound mix S87_ok (L := L87) (fun _ => rfl) Try.call87 Try.func87 rfl

/-! tenancy/bits.Take -/
noncomputable def S80 : List (Nat × D.Spec E) := [P88]
theorem S80_ok : AllS Try.prog E S80 := ⟨p88, trivial⟩
noncomputable def D80 : List (Nat × DSpec E) := [(87, B87)]
theorem D80_ok : AllD Try.prog E D80 := ⟨p87, trivial⟩
abbrev h80_s0 (t16 : List UInt8) (t17 : Int) (ok : Bool) (v : Int) (t18 : Int) : Fr E.T := ofSlots E 29 [(87, [.ptr 0 []])] [4, 5, 16, 17, 18] [.val (.int .i64) v, .ptr 0 [], .val (.slice (.int .u8)) t16, .val (.int .i64) t17, .val (.int .i64) t18]
abbrev t80_s0 (t16 : List UInt8) (t17 : Int) (ok : Bool) (v : Int) (t18 : Int) : St E.T := [.box false (.val .bool ok)]
def x80_s0 (t16 : List UInt8) (t17 : Int) (ok : Bool) (x_ : Int) : Tree (CodeOut E) := .ret (.exit 0, ofSlots E 29 [(87, [.ptr 0 []])] [4, 5] [.val (.int .i64) x_, .ptr 0 []], [.box false (.val .bool ok)])
noncomputable def g80_s0 : Ins E (CodeOut E) := ⟨[.v (.int .i64), .ptr 0 [], .v (.slice (.int .u8)), .v (.int .i64), .v (.int .i64)], [.box false (.v .bool)], fun v t16 t17 t18 ok => .opt (N.bits_Take_l0 N.fuel t16 t17 ok v t18) (x80_s0 t16 t17 ok)⟩
noncomputable def L80 : Nat → LoopInfo E := clL E 29 [{ ks := [4, 5, 16, 17, 18], mvs := [], pro := [], d := [(87, [.ptr 0 []])], g := some (insF [g80_s0]) }] []
theorem f80_s0 (t16 : List UInt8) (t17 : Int) (ok : Bool) (v : Int) (t18 : Int) : ((stepOf E S80 L80 0 0 Try.f80 (h80_s0 t16 t17 ok v t18) (t80_s0 t16 t17 ok v t18)).bind (nx E [4, 5, 16, 17, 18] [] [4, 5] 1)).get = N.bits_Take_s0k t16 t17 ok (fun v_ => some (.inl (h80_s0 t16 t17 ok v_.1 v_.2, t80_s0 t16 t17 ok v_.1 v_.2))) (fun x_ => some (.inr (.exit 0, ofSlots E 29 [(87, [.ptr 0 []])] [4, 5] [.val (.int .i64) x_, .ptr 0 []], [.box false (.val .bool ok)]))) v t18 := by kernel_rfl
theorem q80_s0 : InsLp 29 [4, 5, 16, 17, 18] [] [(87, [.ptr 0 []])] (stepOf E S80 L80 0 0 Try.f80) g80_s0 := by
  intro v t16 t17 t18 ok out_ ho_
  obtain ⟨x_, h1_, h2_⟩ := Option.bind_eq_some_iff.1 ho_
  refine iter_loop (rs := [4, 5]) (step := N.bits_Take_s0 t16 t17 ok) (hd := fun v_ => h80_s0 t16 t17 ok v_.1 v_.2) (sv := fun v_ => t80_s0 t16 t17 ok v_.1 v_.2) (ex := x80_s0 t16 t17 ok) (fun v_ => ?_) N.fuel (v, t18) h1_ h2_
  refine (f80_s0 t16 t17 ok v_.1 v_.2).trans ((N.bits_Take_s0_bind t16 t17 ok _ _ v_.1 v_.2).trans ?_)
  refine congrArg _ (funext fun s_ => ?_)
  rcases s_ with v_ | a <;> rfl
noncomputable def B80 : List (DVal E.T) → St E.T → Tree (Res E.T × St E.T) := dbody E (lookS S80) (lookD D80) L80 0 false Try.f80
theorem B80_ok : FnOk Try.prog E 80 B80 := bodyC_ok sound mix S80_ok (SD := D80) D80_ok (L := L80) (N := 0) (keep := false) Try.func80 rfl (by
  intro k g hg fr st out ho
  match k, hg with
  | 0, hg => cases hg; exact lp_ok (allLp_cons q80_s0 (allLp_nil)) fr st out ho
  | _ + 1, hg => cases hg)
theorem F80 (b : List UInt8) (n : Int) : (B80 [.val (.slice (.int .u8)) b, .val (.int .i64) n] []).get = N.bits_Take_k N.fuel (fun x_ => some (.ret [.val (.int .i64) x_.1, .val .bool x_.2], [])) b n := by kernel_rfl
noncomputable def i80 : Ins E (Res E.T × St E.T) := ⟨[.v (.slice (.int .u8)), .v (.int .i64)], [], fun b n => .opt (N.bits_Take N.fuel b n) fun x_ => .ret (.ret [.val (.int .i64) x_.1, .val .bool x_.2], [])⟩
theorem i80_ok : InsOk Try.prog 80 i80 := ⟨B80, B80_ok, by intro b n out_ h_; exact ((F80 b n).trans (N.bits_Take_bind N.fuel _ b n)).trans h_⟩
noncomputable def P80 : Nat × D.Spec E := (80, .pure [(.slice (.int .u8)), (.int .i64)] (pureF [i80]))
theorem p80 : SpecOk Try.prog E P80.1 P80.2 := pureI_ok Try.call80 ⟨i80_ok, trivial⟩

/-! (*tenancy/msg.reader).num -/
noncomputable def S65 : List (Nat × D.Spec E) := [P80]
theorem S65_ok : AllS Try.prog E S65 := ⟨p80, trivial⟩
noncomputable def L65 : Nat → LoopInfo E := clL E 30 [] []
noncomputable def B65 : List (DVal E.T) → St E.T → Tree (Res E.T × St E.T) := tidyF (dbody E (lookS S65) (lookD []) L65 0 false Try.f65)
theorem B65_ok : FnOk Try.prog E 65 B65 := tidy_fn ok (bodyC_ok sound mix S65_ok (SD := []) trivial (L := L65) (N := 0) (keep := false) Try.func65 rfl (by
  intro k g hg fr st out ho
  match k, hg with
  | _, hg => cases hg))
theorem F65 (n : Int) (r : N.Tmsg_reader) : (B65 [.ptr 0 [], .val (.int .i64) n] [.box false (.val (.named 11) r)]).get = N.msg_reader_num_k N.fuel (fun x_ => some (.ret [.val (.int .i64) x_.1], [.box false (.val (.named 11) x_.2)])) (fun x_ => some (.panic (.ifc 109 (.val (.named 10) N.TNil0.mk)), [.box false (.val (.named 11) r)])) n r := by kernel_rfl
noncomputable def i65 : Ins E (Res E.T × St E.T) := ⟨[.ptr 0 [], .v (.int .i64)], [.box false (.v (.named 11))], fun n r => .opt (N.msg_reader_num N.fuel n r) fun x_ => altT x_ (fun u0_ => .ret (.ret [.val (.int .i64) u0_.1], [.box false (.val (.named 11) u0_.2)])) (fun w0_ => .ret (.panic (.ifc 109 (.val (.named 10) N.TNil0.mk)), [.box false (.val (.named 11) r)]))⟩
theorem i65_ok : InsOk Try.prog 65 i65 := ⟨B65, B65_ok, by intro n r out_ h_; exact ((F65 n r).trans (N.msg_reader_num_bind N.fuel _ _ n r)).trans h_⟩
noncomputable def P65 : Nat × D.Spec E := (65, .full [.ptr, .data (.int .i64)] false (fullF [i65]))
theorem p65 : SpecOk Try.prog E P65.1 P65.2 := fullI_ok ok Try.call65 ⟨i65_ok, trivial⟩

/-! tenancy/bits.TakeText -/
noncomputable def S81 : List (Nat × D.Spec E) := [P88]
theorem S81_ok : AllS Try.prog E S81 := ⟨p88, trivial⟩
noncomputable def D81 : List (Nat × DSpec E) := [(87, B87)]
theorem D81_ok : AllD Try.prog E D81 := ⟨p87, trivial⟩
noncomputable def L81 : Nat → LoopInfo E := clL E 20 [] []
noncomputable def B81 : List (DVal E.T) → St E.T → Tree (Res E.T × St E.T) := dbody E (lookS S81) (lookD D81) L81 0 false Try.f81
theorem B81_ok : FnOk Try.prog E 81 B81 := bodyC_ok sound mix S81_ok (SD := D81) D81_ok (L := L81) (N := 0) (keep := false) Try.func81 rfl (by
  intro k g hg fr st out ho
  match k, hg with
  | _, hg => cases hg)
theorem F81 (b : List UInt8) : (B81 [.val (.slice (.int .u8)) b] []).get = N.bits_TakeText_k (fun x_ => some (.ret [.val .str x_.1, .val (.int .i64) x_.2.1, .val .bool x_.2.2], [])) b := by kernel_rfl
noncomputable def i81 : Ins E (Res E.T × St E.T) := ⟨[.v (.slice (.int .u8))], [], fun b => .opt (N.bits_TakeText b) fun x_ => .ret (.ret [.val .str x_.1, .val (.int .i64) x_.2.1, .val .bool x_.2.2], [])⟩
theorem i81_ok : InsOk Try.prog 81 i81 := ⟨B81, B81_ok, by intro b out_ h_; exact ((F81 b).trans (N.bits_TakeText_bind _ b)).trans h_⟩
noncomputable def P81 : Nat × D.Spec E := (81, .pure [(.slice (.int .u8))] (pureF [i81]))
theorem p81 : SpecOk Try.prog E P81.1 P81.2 := pureI_ok Try.call81 ⟨i81_ok, trivial⟩

/-! (*tenancy/msg.reader).text -/
noncomputable def S66 : List (Nat × D.Spec E) := [P81]
theorem S66_ok : AllS Try.prog E S66 := ⟨p81, trivial⟩
noncomputable def L66 : Nat → LoopInfo E := clL E 29 [] []
noncomputable def B66 : List (DVal E.T) → St E.T → Tree (Res E.T × St E.T) := tidyF (dbody E (lookS S66) (lookD []) L66 0 false Try.f66)
theorem B66_ok : FnOk Try.prog E 66 B66 := tidy_fn ok (bodyC_ok sound mix S66_ok (SD := []) trivial (L := L66) (N := 0) (keep := false) Try.func66 rfl (by
  intro k g hg fr st out ho
  match k, hg with
  | _, hg => cases hg))
theorem F66 (r : N.Tmsg_reader) : (B66 [.ptr 0 []] [.box false (.val (.named 11) r)]).get = N.msg_reader_text_k (fun x_ => some (.ret [.val .str x_.1], [.box false (.val (.named 11) x_.2)])) (fun x_ => some (.panic (.ifc 109 (.val (.named 10) N.TNil0.mk)), [.box false (.val (.named 11) r)])) r := by kernel_rfl
noncomputable def i66 : Ins E (Res E.T × St E.T) := ⟨[.ptr 0 []], [.box false (.v (.named 11))], fun r => .opt (N.msg_reader_text r) fun x_ => altT x_ (fun u0_ => .ret (.ret [.val .str u0_.1], [.box false (.val (.named 11) u0_.2)])) (fun w0_ => .ret (.panic (.ifc 109 (.val (.named 10) N.TNil0.mk)), [.box false (.val (.named 11) r)]))⟩
theorem i66_ok : InsOk Try.prog 66 i66 := ⟨B66, B66_ok, by intro r out_ h_; exact ((F66 r).trans (N.msg_reader_text_bind _ _ r)).trans h_⟩
noncomputable def P66 : Nat × D.Spec E := (66, .full [.ptr] false (fullF [i66]))
theorem p66 : SpecOk Try.prog E P66.1 P66.2 := fullI_ok ok Try.call66 ⟨i66_ok, trivial⟩

/-! (*tenancy/msg.reader).tell -/
noncomputable def S39 : List (Nat × D.Spec E) := [P65, P66]
theorem S39_ok : AllS Try.prog E S39 := ⟨p65, p66, trivial⟩
noncomputable def L39 : Nat → LoopInfo E := clL E 31 [] []
noncomputable def B39 : List (DVal E.T) → St E.T → Tree (Res E.T × St E.T) := tidyF (dbody E (lookS S39) (lookD []) L39 0 false Try.f39)
theorem B39_ok : FnOk Try.prog E 39 B39 := tidy_fn ok (bodyC_ok sound mix S39_ok (SD := []) trivial (L := L39) (N := 0) (keep := false) Try.func39 rfl (by
  intro k g hg fr st out ho
  match k, hg with
  | _, hg => cases hg))
theorem F39 (r : N.Tmsg_reader) : (B39 [.ptr 0 []] [.box false (.val (.named 11) r)]).get = N.msg_reader_tell_k N.fuel (fun x_ => some (.ret [.val (.named 7) x_.1], [.box false (.val (.named 11) x_.2)])) (fun x_ => some (.panic (.ifc 109 (.val (.named 10) N.TNil0.mk)), [.box false (.val (.named 11) x_)])) r := by kernel_rfl
noncomputable def i39 : Ins E (Res E.T × St E.T) := ⟨[.ptr 0 []], [.box false (.v (.named 11))], fun r => .opt (N.msg_reader_tell N.fuel r) fun x_ => altT x_ (fun u0_ => .ret (.ret [.val (.named 7) u0_.1], [.box false (.val (.named 11) u0_.2)])) (fun w0_ => .ret (.panic (.ifc 109 (.val (.named 10) N.TNil0.mk)), [.box false (.val (.named 11) w0_)]))⟩
theorem i39_ok : InsOk Try.prog 39 i39 := ⟨B39, B39_ok, by intro r out_ h_; exact ((F39 r).trans (N.msg_reader_tell_bind N.fuel _ _ r)).trans h_⟩
noncomputable def P39 : Nat × D.Spec E := (39, .full [.ptr] false (fullF [i39]))
theorem p39 : SpecOk Try.prog E P39.1 P39.2 := fullI_ok ok Try.call39 ⟨i39_ok, trivial⟩

/-! tenancy/msg.from -/
noncomputable def S82 : List (Nat × D.Spec E) := []
theorem S82_ok : AllS Try.prog E S82 := trivial
noncomputable def L82 : Nat → LoopInfo E := clL E 15 [] []
noncomputable def B82 : List (DVal E.T) → St E.T → Tree (Res E.T × St E.T) := dbody E (lookS S82) (lookD []) L82 0 false Try.f82
theorem B82_ok : FnOk Try.prog E 82 B82 := bodyC_ok sound mix S82_ok (SD := []) trivial (L := L82) (N := 0) (keep := false) Try.func82 rfl (by
  intro k g hg fr st out ho
  match k, hg with
  | _, hg => cases hg)
theorem F82 (lo : Int) (hi : Int) (v : Int) : (B82 [.val (.int .i64) lo, .val (.int .i64) hi, .val (.int .i64) v] []).get = N.msg_from_k (fun x_ => some (.ret [.val .bool x_], [])) lo hi v := by kernel_rfl
noncomputable def i82 : Ins E (Res E.T × St E.T) := ⟨[.v (.int .i64), .v (.int .i64), .v (.int .i64)], [], fun lo hi v => .ret (.ret [.val .bool (N.msg_from lo hi v)], [])⟩
theorem i82_ok : InsOk Try.prog 82 i82 := ⟨B82, B82_ok, by intro lo hi v out_ h_; exact ((F82 lo hi v).trans (N.msg_from_bind _ lo hi v)).trans h_⟩
noncomputable def P82 : Nat × D.Spec E := (82, .pure [(.int .i64), (.int .i64), (.int .i64)] (pureF [i82]))
theorem p82 : SpecOk Try.prog E P82.1 P82.2 := pureI_ok Try.call82 ⟨i82_ok, trivial⟩

/-! tenancy/msg.MayTell -/
noncomputable def S67 : List (Nat × D.Spec E) := [P82]
theorem S67_ok : AllS Try.prog E S67 := ⟨p82, trivial⟩
noncomputable def L67 : Nat → LoopInfo E := clL E 81 [] []
noncomputable def B67 : List (DVal E.T) → St E.T → Tree (Res E.T × St E.T) := dbody E (lookS S67) (lookD []) L67 0 false Try.f67
theorem B67_ok : FnOk Try.prog E 67 B67 := bodyC_ok sound mix S67_ok (SD := []) trivial (L := L67) (N := 0) (keep := false) Try.func67 rfl (by
  intro k g hg fr st out ho
  match k, hg with
  | _, hg => cases hg)
theorem F67 (t : N.TTell) : (B67 [.val (.named 7) t] []).get = N.msg_MayTell_k (fun x_ => some (.ret [.val .bool x_], [])) t := by kernel_rfl
noncomputable def i67 : Ins E (Res E.T × St E.T) := ⟨[.v (.named 7)], [], fun t => .ret (.ret [.val .bool (N.msg_MayTell t)], [])⟩
theorem i67_ok : InsOk Try.prog 67 i67 := ⟨B67, B67_ok, by intro t out_ h_; exact ((F67 t).trans (N.msg_MayTell_bind _ t)).trans h_⟩
noncomputable def P67 : Nat × D.Spec E := (67, .pure [(.named 7)] (pureF [i67]))
theorem p67 : SpecOk Try.prog E P67.1 P67.2 := pureI_ok Try.call67 ⟨i67_ok, trivial⟩

/-! slices.Clone[[]byte,byte] -/
def B83 : List (DVal E.T) → St E.T → Tree (Res E.T × St E.T) := cloneF E (.int .u8)
noncomputable def P83 : Nat × D.Spec E := (83, .full [.data (.slice (.int .u8))] false B83)
theorem cf83 : ∃ R0 C R id o1 o2, Try.f83.body = some (.seq R0 (.seq (.seq (.region id #[o1, o2] false) C) R)) ∧ (o1.op = .move (.tmp 0) ∧ o1.dst = some 3 ∧ o1.guard = none) ∧ (o2.op = .binOp .eql 45 (.tmp 3) (.const (.slice none 0 0)) 45 ∧ o2.dst = some 4 ∧ o2.guard = none) ∧
    CloneFacts E Try.f83 (.int .u8) R0 C R (fun xs => put E (frame E Try.f83 [.val (.slice (.int .u8)) xs]) (some 2) .nils) (fun xs => put E (put E (put E (put E (frame E Try.f83 [.val (.slice (.int .u8)) xs]) (some 2) .nils) (some 3) (.val (.slice (.int .u8)) xs)) (some 4) (.val .bool true)) (some 2) .nils) (fun xs n => put E (put E (put E (put E (put E (put E (put E (frame E Try.f83 [.val (.slice (.int .u8)) xs]) (some 2) .nils) (some 3) (.val (.slice (.int .u8)) xs)) (some 4) (.val .bool false)) (some 5) .nils) (some 6) (.val (.slice (.int .u8)) xs)) (some 7) (.own n)) (some 2) (.own n)) :=
  ⟨_, _, _, _, _, _, rfl, ⟨rfl, rfl, rfl⟩, ⟨rfl, rfl, rfl⟩, by
    constructor
    all_goals intros
    all_goals kernel_rfl⟩
theorem p83 : SpecOk Try.prog E P83.1 P83.2 := by
  obtain ⟨R0, C, R, id, o1, o2, hb, h1, h2, hF⟩ := cf83
  exact ⟨Try.call83, clone_fn sound mix Try.func83 hb h1 h2 ⟨_, Try.underlying45⟩ hF⟩

/-! tenancy/bits.Put -/
noncomputable def S68 : List (Nat × D.Spec E) := [P83]
theorem S68_ok : AllS Try.prog E S68 := ⟨p83, trivial⟩
abbrev h68_s0 (v : Int) (n : Int) (b : List UInt8) : Fr E.T := ofSlots E 31 [] [0, 1, 2] [.own 0, .val (.int .i64) v, .val (.int .i64) n]
abbrev t68_s0 (v : Int) (n : Int) (b : List UInt8) : St E.T := [.arr .live (.int .u8) b]
def x68_s0 (v : Int) (x_ : List UInt8) : Tree (CodeOut E) := .ret (.exit 0, ofSlots E 31 [] [0, 6] [.own 0, .undef], [.arr .live (.int .u8) x_])
noncomputable def g68_s0 : Ins E (CodeOut E) := ⟨[.own 0, .v (.int .i64), .v (.int .i64)], [.arr .live (.int .u8)], fun v n b => .opt (N.bits_Put_l0 N.fuel v n b) (x68_s0 v)⟩
noncomputable def L68 : Nat → LoopInfo E := clL E 31 [{ ks := [0, 1, 2], mvs := [], pro := [], d := [], g := some (insF [g68_s0]) }] []
theorem f68_s0 (v : Int) (n : Int) (b : List UInt8) : ((stepOf E S68 L68 0 0 Try.f68 (h68_s0 v n b) (t68_s0 v n b)).bind (nx E [0, 1, 2] [] [0, 6] 1)).get = N.bits_Put_s0k v (fun v_ => some (.inl (h68_s0 v v_.1 v_.2, t68_s0 v v_.1 v_.2))) (fun x_ => some (.inr (.exit 0, ofSlots E 31 [] [0, 6] [.own 0, .undef], [.arr .live (.int .u8) x_]))) n b := by kernel_rfl
theorem q68_s0 : InsLp 31 [0, 1, 2] [] [] (stepOf E S68 L68 0 0 Try.f68) g68_s0 := by
  intro v n b out_ ho_
  obtain ⟨x_, h1_, h2_⟩ := Option.bind_eq_some_iff.1 ho_
  refine iter_loop (rs := [0, 6]) (step := N.bits_Put_s0 v) (hd := fun v_ => h68_s0 v v_.1 v_.2) (sv := fun v_ => t68_s0 v v_.1 v_.2) (ex := x68_s0 v) (fun v_ => ?_) N.fuel (n, b) h1_ h2_
  refine (f68_s0 v v_.1 v_.2).trans ((N.bits_Put_s0_bind v _ _ v_.1 v_.2).trans ?_)
  refine congrArg _ (funext fun s_ => ?_)
  rcases s_ with v_ | a <;> rfl
noncomputable def B68 : List (DVal E.T) → St E.T → Tree (Res E.T × St E.T) := dbody E (lookS S68) (lookD []) L68 0 false Try.f68
theorem B68_ok : FnOk Try.prog E 68 B68 := bodyC_ok sound mix S68_ok (SD := []) trivial (L := L68) (N := 0) (keep := false) Try.func68 rfl (by
  intro k g hg fr st out ho
  match k, hg with
  | 0, hg => cases hg; exact lp_ok (allLp_cons q68_s0 (allLp_nil)) fr st out ho
  | _ + 1, hg => cases hg)
theorem F68 (b : List UInt8) (v : Int) (n : Int) : (B68 [.val (.slice (.int .u8)) b, .val (.int .i64) v, .val (.int .i64) n] []).get = N.bits_Put_k N.fuel (fun x_ => some (.ret [.val (.slice (.int .u8)) x_], [])) b v n := by kernel_rfl
noncomputable def i68 : Ins E (Res E.T × St E.T) := ⟨[.v (.slice (.int .u8)), .v (.int .i64), .v (.int .i64)], [], fun b v n => .opt (N.bits_Put N.fuel b v n) fun x_ => .ret (.ret [.val (.slice (.int .u8)) x_], [])⟩
theorem i68_ok : InsOk Try.prog 68 i68 := ⟨B68, B68_ok, by intro b v n out_ h_; exact ((F68 b v n).trans (N.bits_Put_bind N.fuel _ b v n)).trans h_⟩
noncomputable def P68 : Nat × D.Spec E := (68, .pure [(.slice (.int .u8)), (.int .i64), (.int .i64)] (pureF [i68]))
theorem p68 : SpecOk Try.prog E P68.1 P68.2 := pureI_ok Try.call68 ⟨i68_ok, trivial⟩

/-! tenancy/bits.Text -/
noncomputable def S70 : List (Nat × D.Spec E) := [P83]
theorem S70_ok : AllS Try.prog E S70 := ⟨p83, trivial⟩
noncomputable def L70 : Nat → LoopInfo E := clL E 19 [] []
noncomputable def B70 : List (DVal E.T) → St E.T → Tree (Res E.T × St E.T) := dbody E (lookS S70) (lookD []) L70 0 false Try.f70
theorem B70_ok : FnOk Try.prog E 70 B70 := bodyC_ok sound mix S70_ok (SD := []) trivial (L := L70) (N := 0) (keep := false) Try.func70 rfl (by
  intro k g hg fr st out ho
  match k, hg with
  | _, hg => cases hg)
theorem F70 (b : List UInt8) (s : List UInt8) : (B70 [.val (.slice (.int .u8)) b, .val .str s] []).get = N.bits_Text_k (fun x_ => some (.ret [.val (.slice (.int .u8)) x_], [])) b s := by kernel_rfl
noncomputable def i70 : Ins E (Res E.T × St E.T) := ⟨[.v (.slice (.int .u8)), .v .str], [], fun b s => .opt (N.bits_Text b s) fun x_ => .ret (.ret [.val (.slice (.int .u8)) x_], [])⟩
theorem i70_ok : InsOk Try.prog 70 i70 := ⟨B70, B70_ok, by intro b s out_ h_; exact ((F70 b s).trans (N.bits_Text_bind _ b s)).trans h_⟩
noncomputable def P70 : Nat × D.Spec E := (70, .pure [(.slice (.int .u8)), .str] (pureF [i70]))
theorem p70 : SpecOk Try.prog E P70.1 P70.2 := pureI_ok Try.call70 ⟨i70_ok, trivial⟩

/-! tenancy/crc.Sum -/
noncomputable def S84 : List (Nat × D.Spec E) := []
theorem S84_ok : AllS Try.prog E S84 := trivial
abbrev h84_s0 (t6 : List UInt8) (t7 : Int) (t8 : Int) (c : Int) (t16 : Int) : Fr E.T := ofSlots E 29 [] [2, 6, 7, 8, 16] [.val (.int .u16) c, .val (.slice (.int .u8)) t6, .val (.int .i64) t7, .val (.int .i64) t8, .val (.int .i64) t16]
abbrev t84_s0 (t6 : List UInt8) (t7 : Int) (t8 : Int) (c : Int) (t16 : Int) : St E.T := []
def x84_s0 (t6 : List UInt8) (t7 : Int) (t8 : Int) (x_ : Int) : Tree (CodeOut E) := .ret (.exit 2, ofSlots E 29 [] [2, 6, 7, 8] [.val (.int .u16) x_, .val (.slice (.int .u8)) t6, .val (.int .i64) t7, .val (.int .i64) t8], [])
noncomputable def g84_s0 : Ins E (CodeOut E) := ⟨[.v (.int .u16), .v (.slice (.int .u8)), .v (.int .i64), .v (.int .i64), .v (.int .i64)], [], fun c t6 t7 t8 t16 => .opt (N.crc_Sum_l0 N.fuel t6 t7 t8 c t16) (x84_s0 t6 t7 t8)⟩
abbrev h84_s1 (t6 : List UInt8) (t7 : Int) (c : Int) (t8 : Int) : Fr E.T := ofSlots E 29 [] [2, 6, 7, 8] [.val (.int .u16) c, .val (.slice (.int .u8)) t6, .val (.int .i64) t7, .val (.int .i64) t8]
abbrev t84_s1 (t6 : List UInt8) (t7 : Int) (c : Int) (t8 : Int) : St E.T := []
def x84_s1 (t6 : List UInt8) (t7 : Int) (x_ : Int) : Tree (CodeOut E) := .ret (.exit 0, ofSlots E 29 [] [2] [.val (.int .u16) x_], [])
noncomputable def g84_s1 : Ins E (CodeOut E) := ⟨[.v (.int .u16), .v (.slice (.int .u8)), .v (.int .i64), .v (.int .i64)], [], fun c t6 t7 t8 => .opt (N.crc_Sum_l1 N.fuel t6 t7 c t8) (x84_s1 t6 t7)⟩
noncomputable def L84 : Nat → LoopInfo E := clL E 29 [{ ks := [2, 6, 7, 8], mvs := [], pro := [], d := [], g := some (insF [g84_s1]) }, { ks := [2, 6, 7, 8, 16], mvs := [], pro := [], d := [], g := some (insF [g84_s0]) }] []
theorem f84_s0 (t6 : List UInt8) (t7 : Int) (t8 : Int) (c : Int) (t16 : Int) : ((stepOf E S84 L84 0 1 Try.f84 (h84_s0 t6 t7 t8 c t16) (t84_s0 t6 t7 t8 c t16)).bind (nx E [2, 6, 7, 8, 16] [] [2, 6, 7, 8] 0)).get = N.crc_Sum_s0k t6 t7 t8 (fun v_ => some (.inl (h84_s0 t6 t7 t8 v_.1 v_.2, t84_s0 t6 t7 t8 v_.1 v_.2))) (fun x_ => some (.inr (.exit 2, ofSlots E 29 [] [2, 6, 7, 8] [.val (.int .u16) x_, .val (.slice (.int .u8)) t6, .val (.int .i64) t7, .val (.int .i64) t8], []))) c t16 := by kernel_rfl
theorem q84_s0 : InsLp 29 [2, 6, 7, 8, 16] [] [] (stepOf E S84 L84 0 1 Try.f84) g84_s0 := by
  intro c t6 t7 t8 t16 out_ ho_
  obtain ⟨x_, h1_, h2_⟩ := Option.bind_eq_some_iff.1 ho_
  refine iter_loop (rs := [2, 6, 7, 8]) (step := N.crc_Sum_s0 t6 t7 t8) (hd := fun v_ => h84_s0 t6 t7 t8 v_.1 v_.2) (sv := fun v_ => t84_s0 t6 t7 t8 v_.1 v_.2) (ex := x84_s0 t6 t7 t8) (fun v_ => ?_) N.fuel (c, t16) h1_ h2_
  refine (f84_s0 t6 t7 t8 v_.1 v_.2).trans ((N.crc_Sum_s0_bind t6 t7 t8 _ _ v_.1 v_.2).trans ?_)
  refine congrArg _ (funext fun s_ => ?_)
  rcases s_ with v_ | a <;> rfl
theorem f84_s1 (t6 : List UInt8) (t7 : Int) (c : Int) (t8 : Int) : ((stepOf E S84 L84 0 0 Try.f84 (h84_s1 t6 t7 c t8) (t84_s1 t6 t7 c t8)).bind (nx E [2, 6, 7, 8] [] [2] 0)).get = N.crc_Sum_s1k N.fuel t6 t7 (fun v_ => some (.inl (h84_s1 t6 t7 v_.1 v_.2, t84_s1 t6 t7 v_.1 v_.2))) (fun x_ => some (.inr (.exit 0, ofSlots E 29 [] [2] [.val (.int .u16) x_], []))) c t8 := by kernel_rfl
theorem q84_s1 : InsLp 29 [2, 6, 7, 8] [] [] (stepOf E S84 L84 0 0 Try.f84) g84_s1 := by
  intro c t6 t7 t8 out_ ho_
  obtain ⟨x_, h1_, h2_⟩ := Option.bind_eq_some_iff.1 ho_
  refine iter_loop (rs := [2]) (step := N.crc_Sum_s1 N.fuel t6 t7) (hd := fun v_ => h84_s1 t6 t7 v_.1 v_.2) (sv := fun v_ => t84_s1 t6 t7 v_.1 v_.2) (ex := x84_s1 t6 t7) (fun v_ => ?_) N.fuel (c, t8) h1_ h2_
  refine (f84_s1 t6 t7 v_.1 v_.2).trans ((N.crc_Sum_s1_bind N.fuel t6 t7 _ _ v_.1 v_.2).trans ?_)
  refine congrArg _ (funext fun s_ => ?_)
  rcases s_ with v_ | a <;> rfl
noncomputable def B84 : List (DVal E.T) → St E.T → Tree (Res E.T × St E.T) := dbody E (lookS S84) (lookD []) L84 0 false Try.f84
theorem B84_ok : FnOk Try.prog E 84 B84 := bodyC_ok sound mix S84_ok (SD := []) trivial (L := L84) (N := 0) (keep := false) Try.func84 rfl (by
  intro k g hg fr st out ho
  match k, hg with
  | 0, hg => cases hg; exact lp_ok (allLp_cons q84_s1 (allLp_nil)) fr st out ho
  | 1, hg => cases hg; exact lp_ok (allLp_cons q84_s0 (allLp_nil)) fr st out ho
  | _ + 2, hg => cases hg)
theorem F84 (b : List UInt8) : (B84 [.val (.slice (.int .u8)) b] []).get = N.crc_Sum_k N.fuel (fun x_ => some (.ret [.val (.int .u16) x_], [])) b := by kernel_rfl
noncomputable def i84 : Ins E (Res E.T × St E.T) := ⟨[.v (.slice (.int .u8))], [], fun b => .opt (N.crc_Sum N.fuel b) fun x_ => .ret (.ret [.val (.int .u16) x_], [])⟩
theorem i84_ok : InsOk Try.prog 84 i84 := ⟨B84, B84_ok, by intro b out_ h_; exact ((F84 b).trans (N.crc_Sum_bind N.fuel _ b)).trans h_⟩
noncomputable def P84 : Nat × D.Spec E := (84, .pure [(.slice (.int .u8))] (pureF [i84]))
theorem p84 : SpecOk Try.prog E P84.1 P84.2 := pureI_ok Try.call84 ⟨i84_ok, trivial⟩

/-! tenancy/msg.sealed -/
noncomputable def S69 : List (Nat × D.Spec E) := [P68, P84]
theorem S69_ok : AllS Try.prog E S69 := ⟨p68, p84, trivial⟩
noncomputable def L69 : Nat → LoopInfo E := clL E 8 [] []
noncomputable def B69 : List (DVal E.T) → St E.T → Tree (Res E.T × St E.T) := dbody E (lookS S69) (lookD []) L69 0 false Try.f69
theorem B69_ok : FnOk Try.prog E 69 B69 := bodyC_ok sound mix S69_ok (SD := []) trivial (L := L69) (N := 0) (keep := false) Try.func69 rfl (by
  intro k g hg fr st out ho
  match k, hg with
  | _, hg => cases hg)
theorem F69 (b : List UInt8) : (B69 [.val (.slice (.int .u8)) b] []).get = N.msg_sealed_k N.fuel (fun x_ => some (.ret [.val (.slice (.int .u8)) x_], [])) b := by kernel_rfl
noncomputable def i69 : Ins E (Res E.T × St E.T) := ⟨[.v (.slice (.int .u8))], [], fun b => .opt (N.msg_sealed N.fuel b) fun x_ => .ret (.ret [.val (.slice (.int .u8)) x_], [])⟩
theorem i69_ok : InsOk Try.prog 69 i69 := ⟨B69, B69_ok, by intro b out_ h_; exact ((F69 b).trans (N.msg_sealed_bind N.fuel _ b)).trans h_⟩
noncomputable def P69 : Nat × D.Spec E := (69, .pure [(.slice (.int .u8))] (pureF [i69]))
theorem p69 : SpecOk Try.prog E P69.1 P69.2 := pureI_ok Try.call69 ⟨i69_ok, trivial⟩

/-! tenancy/msg.PutTell -/
noncomputable def S40 : List (Nat × D.Spec E) := [P67, P68, P69, P70]
theorem S40_ok : AllS Try.prog E S40 := ⟨p67, p68, p69, p70, trivial⟩
noncomputable def L40 : Nat → LoopInfo E := clL E 38 [] []
noncomputable def B40 : List (DVal E.T) → St E.T → Tree (Res E.T × St E.T) := dbody E (lookS S40) (lookD []) L40 0 false Try.f40
theorem B40_ok : FnOk Try.prog E 40 B40 := bodyC_ok sound mix S40_ok (SD := []) trivial (L := L40) (N := 0) (keep := false) Try.func40 rfl (by
  intro k g hg fr st out ho
  match k, hg with
  | _, hg => cases hg)
theorem F40 (t : N.TTell) : (B40 [.val (.named 7) t] []).get = N.msg_PutTell_k N.fuel (fun x_ => some (.ret [.val (.slice (.int .u8)) x_], [])) t := by kernel_rfl
noncomputable def i40 : Ins E (Res E.T × St E.T) := ⟨[.v (.named 7)], [], fun t => .opt (N.msg_PutTell N.fuel t) fun x_ => .ret (.ret [.val (.slice (.int .u8)) x_], [])⟩
theorem i40_ok : InsOk Try.prog 40 i40 := ⟨B40, B40_ok, by intro t out_ h_; exact ((F40 t).trans (N.msg_PutTell_bind N.fuel _ t)).trans h_⟩
noncomputable def P40 : Nat × D.Spec E := (40, .pure [(.named 7)] (pureF [i40]))
theorem p40 : SpecOk Try.prog E P40.1 P40.2 := pureI_ok Try.call40 ⟨i40_ok, trivial⟩

/-! slices.Equal[[]byte,byte] -/
noncomputable def S64 : List (Nat × D.Spec E) := []
theorem S64_ok : AllS Try.prog E S64 := trivial
abbrev h64_s0 (s1 : List UInt8) (s2 : List UInt8) (t12 : Int) (t13 : Int) : Fr E.T := ofSlots E 26 [] [0, 1, 12, 13] [.val (.slice (.int .u8)) s1, .val (.slice (.int .u8)) s2, .val (.int .i64) t12, .val (.int .i64) t13]
abbrev t64_s0 (s1 : List UInt8) (s2 : List UInt8) (t12 : Int) (t13 : Int) : St E.T := []
def x64_s0 (s1 : List UInt8) (s2 : List UInt8) (t12 : Int) (x_ : Unit ⊕ Unit) : Tree (CodeOut E) := altT x_ (fun u0_ => .ret (.ret, ofSlots E 26 [] [4] [.val .bool false], [])) (fun w0_ => .ret (.exit 0, ofSlots E 26 [] [4] [.undef], []))
noncomputable def g64_s0 : Ins E (CodeOut E) := ⟨[.v (.slice (.int .u8)), .v (.slice (.int .u8)), .v (.int .i64), .v (.int .i64)], [], fun s1 s2 t12 t13 => .opt (N.slices_Equal_byte_l0 N.fuel s1 s2 t12 t13) (x64_s0 s1 s2 t12)⟩
noncomputable def L64 : Nat → LoopInfo E := clL E 26 [{ ks := [0, 1, 12, 13], mvs := [], pro := [], d := [], g := some (insF [g64_s0]) }] []
theorem f64_s0 (s1 : List UInt8) (s2 : List UInt8) (t12 : Int) (t13 : Int) : ((stepOf E S64 L64 0 0 Try.f64 (h64_s0 s1 s2 t12 t13) (t64_s0 s1 s2 t12 t13)).bind (nx E [0, 1, 12, 13] [] [4] 0)).get = N.slices_Equal_byte_s0k s1 s2 t12 (fun v_ => some (.inl (h64_s0 s1 s2 t12 v_, t64_s0 s1 s2 t12 v_))) (fun x_ => some (.inr (.ret, ofSlots E 26 [] [4] [.val .bool false], []))) (fun x_ => some (.inr (.exit 0, ofSlots E 26 [] [4] [.undef], []))) t13 := by kernel_rfl
theorem q64_s0 : InsLp 26 [0, 1, 12, 13] [] [] (stepOf E S64 L64 0 0 Try.f64) g64_s0 := by
  intro s1 s2 t12 t13 out_ ho_
  obtain ⟨x_, h1_, h2_⟩ := Option.bind_eq_some_iff.1 ho_
  refine iter_loop (rs := [4]) (step := N.slices_Equal_byte_s0 s1 s2 t12) (hd := fun v_ => h64_s0 s1 s2 t12 v_) (sv := fun v_ => t64_s0 s1 s2 t12 v_) (ex := x64_s0 s1 s2 t12) (fun v_ => ?_) N.fuel t13 h1_ h2_
  refine (f64_s0 s1 s2 t12 v_).trans ((N.slices_Equal_byte_s0_bind s1 s2 t12 _ _ _ v_).trans ?_)
  refine congrArg _ (funext fun s_ => ?_)
  rcases s_ with v_ | a | a <;> rfl
noncomputable def B64 : List (DVal E.T) → St E.T → Tree (Res E.T × St E.T) := dbody E (lookS S64) (lookD []) L64 0 false Try.f64
theorem B64_ok : FnOk Try.prog E 64 B64 := bodyC_ok sound mix S64_ok (SD := []) trivial (L := L64) (N := 0) (keep := false) Try.func64 rfl (by
  intro k g hg fr st out ho
  match k, hg with
  | 0, hg => cases hg; exact lp_ok (allLp_cons q64_s0 (allLp_nil)) fr st out ho
  | _ + 1, hg => cases hg)
theorem F64 (s1 : List UInt8) (s2 : List UInt8) : (B64 [.val (.slice (.int .u8)) s1, .val (.slice (.int .u8)) s2] []).get = N.slices_Equal_byte_k N.fuel (fun x_ => some (.ret [.val .bool x_], [])) s1 s2 := by kernel_rfl
noncomputable def i64 : Ins E (Res E.T × St E.T) := ⟨[.v (.slice (.int .u8)), .v (.slice (.int .u8))], [], fun s1 s2 => .opt (N.slices_Equal_byte N.fuel s1 s2) fun x_ => .ret (.ret [.val .bool x_], [])⟩
theorem i64_ok : InsOk Try.prog 64 i64 := ⟨B64, B64_ok, by intro s1 s2 out_ h_; exact ((F64 s1 s2).trans (N.slices_Equal_byte_bind N.fuel _ s1 s2)).trans h_⟩
noncomputable def P64 : Nat × D.Spec E := (64, .pure [(.slice (.int .u8)), (.slice (.int .u8))] (pureF [i64]))
theorem p64 : SpecOk Try.prog E P64.1 P64.2 := pureI_ok Try.call64 ⟨i64_ok, trivial⟩

/-! tenancy/msg.takes[tenancy/api.Tell]$1 -/
noncomputable def S63 : List (Nat × D.Spec E) := []
theorem S63_ok : AllS Try.prog E S63 := trivial
noncomputable def L63 : Nat → LoopInfo E := clL E 18 [] []
noncomputable def B63 : DSpec E := dbodyD E (lookS S63) L63 0 Try.f63
theorem p63 : DSpecOk Try.prog E 63 B63 := dfullD_ok sound mix S63_ok (L := L63) (fun _ => rfl) Try.call63 Try.func63 rfl

/-! tenancy/msg.takes[tenancy/api.Tell] -/
noncomputable def S38 : List (Nat × D.Spec E) := [P39, P40, P64]
theorem S38_ok : AllS Try.prog E S38 := ⟨p39, p40, p64, trivial⟩
noncomputable def D38 : List (Nat × DSpec E) := [(63, B63)]
theorem D38_ok : AllD Try.prog E D38 := ⟨p63, trivial⟩
noncomputable def L38 : Nat → LoopInfo E := clL E 28 [] []
noncomputable def B38 : List (DVal E.T) → St E.T → Tree (Res E.T × St E.T) := dbody E (lookS S38) (lookD D38) L38 0 false Try.f38
theorem B38_ok : FnOk Try.prog E 38 B38 := bodyC_ok sound mix S38_ok (SD := D38) D38_ok (L := L38) (N := 0) (keep := false) Try.func38 rfl (by
  intro k g hg fr st out ho
  match k, hg with
  | _, hg => cases hg)
theorem F38 (b : List UInt8) : (B38 [.val (.slice (.int .u8)) b, .fn 39 [], .fn 40 []] []).get = N.msg_takes_Tell_k N.fuel (fun x_ => some (.ret [.val (.named 7) x_.1, .val .bool x_.2], [])) b := by kernel_rfl
noncomputable def i38 : Ins E (Res E.T × St E.T) := ⟨[.v (.slice (.int .u8)), .fn 39 [], .fn 40 []], [], fun b => .opt (N.msg_takes_Tell N.fuel b) fun x_ => .ret (.ret [.val (.named 7) x_.1, .val .bool x_.2], [])⟩
theorem i38_ok : InsOk Try.prog 38 i38 := ⟨B38, B38_ok, by intro b out_ h_; exact ((F38 b).trans (N.msg_takes_Tell_bind N.fuel _ b)).trans h_⟩
noncomputable def P38 : Nat × D.Spec E := (38, .full [.data (.slice (.int .u8)), .func, .func] true (fullF [i38]))
theorem p38 : SpecOk Try.prog E P38.1 P38.2 := fullI_ok ok Try.call38 ⟨i38_ok, trivial⟩

/-! tenancy/msg.TakeTell -/
noncomputable def S15 : List (Nat × D.Spec E) := [P38]
theorem S15_ok : AllS Try.prog E S15 := ⟨p38, trivial⟩
noncomputable def L15 : Nat → LoopInfo E := clL E 8 [] []
noncomputable def B15 : List (DVal E.T) → St E.T → Tree (Res E.T × St E.T) := dbody E (lookS S15) (lookD []) L15 0 false Try.f15
theorem B15_ok : FnOk Try.prog E 15 B15 := bodyC_ok sound mix S15_ok (SD := []) trivial (L := L15) (N := 0) (keep := false) Try.func15 rfl (by
  intro k g hg fr st out ho
  match k, hg with
  | _, hg => cases hg)
theorem F15 (b : List UInt8) : (B15 [.val (.slice (.int .u8)) b] []).get = N.msg_TakeTell_k N.fuel (fun x_ => some (.ret [.val (.named 7) x_.1, .val .bool x_.2], [])) b := by kernel_rfl
noncomputable def i15 : Ins E (Res E.T × St E.T) := ⟨[.v (.slice (.int .u8))], [], fun b => .opt (N.msg_TakeTell N.fuel b) fun x_ => .ret (.ret [.val (.named 7) x_.1, .val .bool x_.2], [])⟩
theorem i15_ok : InsOk Try.prog 15 i15 := ⟨B15, B15_ok, by intro b out_ h_; exact ((F15 b).trans (N.msg_TakeTell_bind N.fuel _ b)).trans h_⟩
noncomputable def P15 : Nat × D.Spec E := (15, .pure [(.slice (.int .u8))] (pureF [i15]))
theorem p15 : SpecOk Try.prog E P15.1 P15.2 := pureI_ok Try.call15 ⟨i15_ok, trivial⟩

/-! (*tenancy/client.work).epoch -/
noncomputable def S16 : List (Nat × D.Spec E) := [P24, P41]
theorem S16_ok : AllS Try.prog E S16 := ⟨p24, p41, trivial⟩
abbrev h16_s0 (t25 : Int) (t : N.TTell) (t26 : Int) (w : N.Tclient_work) : Fr E.T := ofSlots E 57 [] [0, 3, 24, 25, 26] [.ptr 0 [], .ptr 3 [], .own 1, .val (.int .i64) t25, .val (.int .i64) t26]
abbrev t16_s0 (t25 : Int) (t : N.TTell) (t26 : Int) (w : N.Tclient_work) : St E.T := [.box false (.agg 8 [.agg 4 [.val (.int .i64) w.Client.ID, .val (.int .i64) w.Client.Now, .val (.int .i64) w.Client.Epoch, .val (.int .i64) w.Client.Seq, .own 1, .own 2, .val (.named 3) w.Client.Out, .val (.int .i64) w.Client.Bad, .val (.int .i64) w.Client.Hits, .val (.int .i64) w.Client.Asks], .nils]), .arr .live (.named 1) w.Client.Files, .arr .live .str w.Client.Names, .box false (.val (.named 7) t)]
def x16_s0 (t25 : Int) (t : N.TTell) (x_ : N.Tclient_work) : Tree (CodeOut E) := .ret (.exit 0, ofSlots E 57 [] [0, 3] [.ptr 0 [], .ptr 3 []], [.box false (.agg 8 [.agg 4 [.val (.int .i64) x_.Client.ID, .val (.int .i64) x_.Client.Now, .val (.int .i64) x_.Client.Epoch, .val (.int .i64) x_.Client.Seq, .own 1, .own 2, .val (.named 3) x_.Client.Out, .val (.int .i64) x_.Client.Bad, .val (.int .i64) x_.Client.Hits, .val (.int .i64) x_.Client.Asks], .nils]), .arr .live (.named 1) x_.Client.Files, .arr .live .str x_.Client.Names, .box false (.val (.named 7) t)])
noncomputable def g16_s0 : Ins E (CodeOut E) := ⟨[.ptr 0 [], .ptr 3 [], .own 1, .v (.int .i64), .v (.int .i64)], [.box false (.agg 8 [.agg 4 [.v (.int .i64), .v (.int .i64), .v (.int .i64), .v (.int .i64), .own 1, .own 2, .v (.named 3), .v (.int .i64), .v (.int .i64), .v (.int .i64)], .nils]), .arr .live (.named 1), .arr .live .str, .box false (.v (.named 7))], fun t25 t26 w_Client_ID w_Client_Now w_Client_Epoch w_Client_Seq w_Client_Out w_Client_Bad w_Client_Hits w_Client_Asks a1_ a2_ t => .opt (N.client_work_epoch_l0 N.fuel t25 t t26 (N.Tclient_work.mk (N.TClient.mk w_Client_ID w_Client_Now w_Client_Epoch w_Client_Seq a1_ a2_ w_Client_Out w_Client_Bad w_Client_Hits w_Client_Asks) [])) (x16_s0 t25 t)⟩
noncomputable def L16 : Nat → LoopInfo E := clL E 57 [{ ks := [0, 3, 24, 25, 26], mvs := [], pro := [], d := [], g := some (insF [g16_s0]) }] []
theorem f16_s0 (t25 : Int) (t : N.TTell) (t26 : Int) (w : N.Tclient_work) : ((stepOf E S16 L16 0 0 Try.f16 (h16_s0 t25 t t26 w) (t16_s0 t25 t t26 w)).bind (nx E [0, 3, 24, 25, 26] [] [0, 3] 4)).get = N.client_work_epoch_s0k t25 t (fun v_ => some (.inl (h16_s0 t25 t v_.1 v_.2, t16_s0 t25 t v_.1 v_.2))) (fun x_ => some (.inr (.exit 0, ofSlots E 57 [] [0, 3] [.ptr 0 [], .ptr 3 []], [.box false (.agg 8 [.agg 4 [.val (.int .i64) x_.Client.ID, .val (.int .i64) x_.Client.Now, .val (.int .i64) x_.Client.Epoch, .val (.int .i64) x_.Client.Seq, .own 1, .own 2, .val (.named 3) x_.Client.Out, .val (.int .i64) x_.Client.Bad, .val (.int .i64) x_.Client.Hits, .val (.int .i64) x_.Client.Asks], .nils]), .arr .live (.named 1) x_.Client.Files, .arr .live .str x_.Client.Names, .box false (.val (.named 7) t)]))) t26 w := by kernel_rfl
theorem q16_s0 : InsLp 57 [0, 3, 24, 25, 26] [] [] (stepOf E S16 L16 0 0 Try.f16) g16_s0 := by
  intro t25 t26 w_Client_ID w_Client_Now w_Client_Epoch w_Client_Seq w_Client_Out w_Client_Bad w_Client_Hits w_Client_Asks a1_ a2_ t out_ ho_
  obtain ⟨x_, h1_, h2_⟩ := Option.bind_eq_some_iff.1 ho_
  refine iter_loop (rs := [0, 3]) (step := N.client_work_epoch_s0 t25 t) (hd := fun v_ => h16_s0 t25 t v_.1 v_.2) (sv := fun v_ => t16_s0 t25 t v_.1 v_.2) (ex := x16_s0 t25 t) (fun v_ => ?_) N.fuel (t26, (N.Tclient_work.mk (N.TClient.mk w_Client_ID w_Client_Now w_Client_Epoch w_Client_Seq a1_ a2_ w_Client_Out w_Client_Bad w_Client_Hits w_Client_Asks) [])) h1_ h2_
  refine (f16_s0 t25 t v_.1 v_.2).trans ((N.client_work_epoch_s0_bind t25 t _ _ v_.1 v_.2).trans ?_)
  refine congrArg _ (funext fun s_ => ?_)
  rcases s_ with v_ | a <;> rfl
noncomputable def B16 : List (DVal E.T) → St E.T → Tree (Res E.T × St E.T) := tidyF (dbody E (lookS S16) (lookD []) L16 0 true Try.f16)
theorem B16_ok : FnOk Try.prog E 16 B16 := tidy_fn ok (bodyC_ok sound mix S16_ok (SD := []) trivial (L := L16) (N := 0) (keep := true) Try.func16 rfl (by
  intro k g hg fr st out ho
  match k, hg with
  | 0, hg => cases hg; exact lp_ok (allLp_cons q16_s0 (allLp_nil)) fr st out ho
  | _ + 1, hg => cases hg))
theorem F16 (t : N.TTell) (w_Client_ID : Int) (w_Client_Now : Int) (w_Client_Epoch : Int) (w_Client_Seq : Int) (w_Client_Out : N.TOut) (w_Client_Bad : Int) (w_Client_Hits : Int) (w_Client_Asks : Int) (a1_ : List N.TCache) (a2_ : List (List UInt8)) : (B16 [.ptr 0 [], .val (.named 7) t] [.box false (.agg 8 [.agg 4 [.val (.int .i64) w_Client_ID, .val (.int .i64) w_Client_Now, .val (.int .i64) w_Client_Epoch, .val (.int .i64) w_Client_Seq, .own 1, .own 2, .val (.named 3) w_Client_Out, .val (.int .i64) w_Client_Bad, .val (.int .i64) w_Client_Hits, .val (.int .i64) w_Client_Asks], .nils]), .arr .live (.named 1) a1_, .arr .live .str a2_]).get = N.client_work_epoch_k N.fuel (fun x_ => some (.ret [], [.box false (.agg 8 [.agg 4 [.val (.int .i64) x_.Client.ID, .val (.int .i64) x_.Client.Now, .val (.int .i64) x_.Client.Epoch, .val (.int .i64) x_.Client.Seq, .own 1, .own 2, .val (.named 3) x_.Client.Out, .val (.int .i64) x_.Client.Bad, .val (.int .i64) x_.Client.Hits, .val (.int .i64) x_.Client.Asks], .nils]), .arr .live (.named 1) x_.Client.Files, .arr .live .str x_.Client.Names, .dead])) (fun x_ => some (.ret [], [.box false (.agg 8 [.agg 4 [.val (.int .i64) x_.Client.ID, .val (.int .i64) x_.Client.Now, .val (.int .i64) x_.Client.Epoch, .val (.int .i64) x_.Client.Seq, .own 1, .own 2, .val (.named 3) x_.Client.Out, .val (.int .i64) x_.Client.Bad, .val (.int .i64) x_.Client.Hits, .val (.int .i64) x_.Client.Asks], .own 4]), .arr .live (.named 1) x_.Client.Files, .arr .live .str x_.Client.Names, .dead, .arr .live (.named 2) x_.asked])) t (N.Tclient_work.mk (N.TClient.mk w_Client_ID w_Client_Now w_Client_Epoch w_Client_Seq a1_ a2_ w_Client_Out w_Client_Bad w_Client_Hits w_Client_Asks) []) := by kernel_rfl
noncomputable def i16 : Ins E (Res E.T × St E.T) := ⟨[.ptr 0 [], .v (.named 7)], [.box false (.agg 8 [.agg 4 [.v (.int .i64), .v (.int .i64), .v (.int .i64), .v (.int .i64), .own 1, .own 2, .v (.named 3), .v (.int .i64), .v (.int .i64), .v (.int .i64)], .nils]), .arr .live (.named 1), .arr .live .str], fun t w_Client_ID w_Client_Now w_Client_Epoch w_Client_Seq w_Client_Out w_Client_Bad w_Client_Hits w_Client_Asks a1_ a2_ => .opt (N.client_work_epoch N.fuel t (N.Tclient_work.mk (N.TClient.mk w_Client_ID w_Client_Now w_Client_Epoch w_Client_Seq a1_ a2_ w_Client_Out w_Client_Bad w_Client_Hits w_Client_Asks) [])) fun x_ => altT x_ (fun u0_ => .ret (.ret [], [.box false (.agg 8 [.agg 4 [.val (.int .i64) u0_.Client.ID, .val (.int .i64) u0_.Client.Now, .val (.int .i64) u0_.Client.Epoch, .val (.int .i64) u0_.Client.Seq, .own 1, .own 2, .val (.named 3) u0_.Client.Out, .val (.int .i64) u0_.Client.Bad, .val (.int .i64) u0_.Client.Hits, .val (.int .i64) u0_.Client.Asks], .nils]), .arr .live (.named 1) u0_.Client.Files, .arr .live .str u0_.Client.Names, .dead])) (fun w0_ => .ret (.ret [], [.box false (.agg 8 [.agg 4 [.val (.int .i64) w0_.Client.ID, .val (.int .i64) w0_.Client.Now, .val (.int .i64) w0_.Client.Epoch, .val (.int .i64) w0_.Client.Seq, .own 1, .own 2, .val (.named 3) w0_.Client.Out, .val (.int .i64) w0_.Client.Bad, .val (.int .i64) w0_.Client.Hits, .val (.int .i64) w0_.Client.Asks], .own 4]), .arr .live (.named 1) w0_.Client.Files, .arr .live .str w0_.Client.Names, .dead, .arr .live (.named 2) w0_.asked]))⟩
theorem i16_ok : InsOk Try.prog 16 i16 := ⟨B16, B16_ok, by intro t w_Client_ID w_Client_Now w_Client_Epoch w_Client_Seq w_Client_Out w_Client_Bad w_Client_Hits w_Client_Asks a1_ a2_ out_ h_; exact ((F16 t w_Client_ID w_Client_Now w_Client_Epoch w_Client_Seq w_Client_Out w_Client_Bad w_Client_Hits w_Client_Asks a1_ a2_).trans (N.client_work_epoch_bind N.fuel _ _ t (N.Tclient_work.mk (N.TClient.mk w_Client_ID w_Client_Now w_Client_Epoch w_Client_Seq a1_ a2_ w_Client_Out w_Client_Bad w_Client_Hits w_Client_Asks) []))).trans h_⟩
noncomputable def P16 : Nat × D.Spec E := (16, .full [.ptr, .data (.named 7)] false (fullF [i16]))
theorem p16 : SpecOk Try.prog E P16.1 P16.2 := fullI_ok ok Try.call16 ⟨i16_ok, trivial⟩

end Go.Proofs.Ythabbcjjecpbmaa.C
