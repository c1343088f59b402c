/- The nice functions: what the program's functions come to. -/
import Derived.Test.YthgefhjknifehaaGreatDoorBase5
set_option linter.unusedVariables false
set_option maxRecDepth 10000
namespace Go.Proofs.YthgefhjknifehaaGreatDoor.N
open Go.Proofs.YthgefhjknifehaaGreatDoor.D (Tree TT altT)
noncomputable section
variable (n_ : Nat)
def mark_New_t (n : Int) : Tree (List TMark) :=
 .ite (decide (n < 1)) (.ret ([]))
 (.ite (mkOk n n) (.ret (List.replicate n.toNat (TMark.mk 0 0 0 0))) .fail)
def mark_New := fun n => (mark_New_t n).get
def state_New_t : Tree TState :=
 .opt (mark_New 3) fun r_1 =>
 .ret (TState.mk [(TFile.mk [] 0 []), (TFile.mk [] 0 []), (TFile.mk [] 0 []), (TFile.mk [] 0 []), (TFile.mk [] 0 []), (TFile.mk [] 0 [])] r_1 0)
def state_New := (state_New_t).get
def state_number_t (v : Int) : TT Bool :=
 .ite (decide (v ≥ 0)) (.ret (decide (v ≤ 1073741824)))
 (.ret false)
def state_number := fun v => (state_number_t v).val
def dir_May_s0t (name : List UInt8) (t7 : Int) (r0 : List UInt8) (v_ : Int) : Tree (Int ⊕ (Unit ⊕ Unit)) :=
 .ite (decide (v_ < t7)) (.ite (inR v_ r0.length) (.opt (r0[v_.toNat]?) fun y_1 =>
  .ite (decide ((i8 y_1) < 33)) (.ret (.inr (.inl ())))
  (.ite (decide ((i8 y_1) > 126)) (.ret (.inr (.inl ())))
  (.ret (.inl (wi64 (v_ + 1)))))) .fail)
 (.ret (.inr (.inr ())))
def dir_May_s0 := fun name t7 r0 v_ => (dir_May_s0t name t7 r0 v_).get
def dir_May_l0 := fun name t7 r0 t8 => iter (dir_May_s0 name t7 r0) n_ t8
def dir_May_t (name : List UInt8) : Tree Bool :=
 .opt (dir_May_l0 n_ name (name.length : Int) name 0) fun r_1 =>
 altT r_1 (fun a_2 =>
 .ret false) fun b_3 =>
 .ite (decide ((name.length : Int) ≥ 1)) (.ret (decide ((name.length : Int) ≤ 8)))
 (.ret false)
def dir_May := fun name => (dir_May_t n_ name).get
def state_mayFile_t (f : TFile) : Tree Bool :=
 .ite (f.Name == []) (.ret (TFile.eqb f (TFile.mk [] 0 [])))
 (.opt (dir_May n_ f.Name) fun r_1 =>
 .ite r_1 (.ite (decide (f.Ver ≥ 1)) (.ite (state_number f.Ver) (.ret (decide ((f.Body.length : Int) ≤ 24)))
  (.ret false))
 (.ret false))
 (.ret false))
def state_mayFile := fun f => (state_mayFile_t n_ f).get
def state_May_c1_t (g : TFile) (o0 : TFile) : TT Bool :=
 .ite (!(o0.Name == [])) (.ret (g.Name == o0.Name))
 (.ret false)
def state_May_c1 := fun g o0 => (state_May_c1_t g o0).val
def slices_IndexFunc_File_s0t (s : List TFile) (t7 : Int) (o0 : TFile) (v_ : Int) : Tree (Int ⊕ (Int ⊕ Unit)) :=
 .ite (decide (v_ < t7)) (.ite (inR v_ s.length) (.opt (s[v_.toNat]?) fun y_1 =>
  .ite (state_May_c1 y_1 o0) (.ret (.inr (.inl v_)))
  (.ret (.inl (wi64 (v_ + 1))))) .fail)
 (.ret (.inr (.inr ())))
def slices_IndexFunc_File_s0 := fun s t7 o0 v_ => (slices_IndexFunc_File_s0t s t7 o0 v_).get
def slices_IndexFunc_File_l0 := fun s t7 o0 t8 => iter (slices_IndexFunc_File_s0 s t7 o0) n_ t8
def slices_IndexFunc_File_t (s : List TFile) (o0 : TFile) : Tree Int :=
 .opt (slices_IndexFunc_File_l0 n_ s (s.length : Int) o0 0) fun r_1 =>
 altT r_1 (fun a_2 =>
 .ret a_2) fun b_3 =>
 .ret (-1)
def slices_IndexFunc_File := fun s o0 => (slices_IndexFunc_File_t n_ s o0).get
def slices_ContainsFunc_File_t (s : List TFile) (o0 : TFile) : Tree Bool :=
 .opt (slices_IndexFunc_File n_ s o0) fun r_1 =>
 .ret (decide (r_1 ≥ 0))
def slices_ContainsFunc_File := fun s o0 => (slices_ContainsFunc_File_t n_ s o0).get
def state_mayMark_t (m : TMark) : TT Bool :=
 .ite (state_number m.Seq) (.ite (decide (m.File ≥ 0)) (.ite (decide (m.File ≤ 6)) (.ite (state_number m.Ver) (.ite (decide (m.Err ≥ 0)) (.ret (decide (m.Err ≤ 3)))
   (.ret false))
  (.ret false))
  (.ret false))
 (.ret false))
 (.ret false)
def state_mayMark := fun m => (state_mayMark_t m).val
def state_May_c2 (m : TMark) : Bool := (!(state_mayMark m))
def slices_IndexFunc_Mark_s0t (s : List TMark) (t7 : Int) (v_ : Int) : Tree (Int ⊕ (Int ⊕ Unit)) :=
 .ite (decide (v_ < t7)) (.ite (inR v_ s.length) (.opt (s[v_.toNat]?) fun y_1 =>
  .ite (state_May_c2 y_1) (.ret (.inr (.inl v_)))
  (.ret (.inl (wi64 (v_ + 1))))) .fail)
 (.ret (.inr (.inr ())))
def slices_IndexFunc_Mark_s0 := fun s t7 v_ => (slices_IndexFunc_Mark_s0t s t7 v_).get
def slices_IndexFunc_Mark_l0 := fun s t7 t8 => iter (slices_IndexFunc_Mark_s0 s t7) n_ t8
def slices_IndexFunc_Mark_t (s : List TMark) : Tree Int :=
 .opt (slices_IndexFunc_Mark_l0 n_ s (s.length : Int) 0) fun r_1 =>
 altT r_1 (fun a_2 =>
 .ret a_2) fun b_3 =>
 .ret (-1)
def slices_IndexFunc_Mark := fun s => (slices_IndexFunc_Mark_t n_ s).get
def slices_ContainsFunc_Mark_t (s : List TMark) : Tree Bool :=
 .opt (slices_IndexFunc_Mark n_ s) fun r_1 =>
 .ret (decide (r_1 ≥ 0))
def slices_ContainsFunc_Mark := fun s => (slices_ContainsFunc_Mark_t n_ s).get
def state_May_s0t (t23 : List TFile) (t24 : Int) (s : TState) (v_ : Int) : Tree (Int ⊕ (TFile ⊕ Unit)) :=
 .ite (decide (v_ < t24)) (.ite (inR v_ t23.length) (.opt (t23[v_.toNat]?) fun y_1 =>
  .opt (state_mayFile n_ y_1) fun r_2 =>
  .ite (!r_2) (.ret (.inr (.inl y_1)))
  (.ite (cutOk 0 v_ s.Files.length) (.opt (slices_ContainsFunc_File n_ (cutL s.Files 0 v_) y_1) fun r_3 =>
  .ite r_3 (.ret (.inr (.inl y_1)))
  (.ret (.inl (wi64 (v_ + 1))))) .fail)) .fail)
 (.ret (.inr (.inr ())))
def state_May_s0 := fun t23 t24 s v_ => (state_May_s0t n_ t23 t24 s v_).get
def state_May_l0 := fun t23 t24 s t25 => iter (state_May_s0 n_ t23 t24 s) n_ t25
def state_May_t (s : TState) : Tree Bool :=
 .ite ((s.Files.length : Int) != 6) (.ret false)
 (.ite ((s.Marks.length : Int) != 3) (.ret false)
 (.ite (!(state_number s.Epoch)) (.ret false)
 (.opt (state_May_l0 n_ s.Files (s.Files.length : Int) s 0) fun r_1 =>
 altT r_1 (fun a_2 =>
 .ret false) fun b_3 =>
 .opt (slices_ContainsFunc_Mark n_ s.Marks) fun r_4 =>
 .ret (!r_4))))
def state_May := fun s => (state_May_t n_ s).get
def bits_Put_s0t (v : Int) (v_ : Int × List UInt8) : Tree ((Int × List UInt8) ⊕ (List UInt8)) :=
 .ite (decide (v_.1 ≥ 0)) (.ite (decide ((wi64 (8 * v_.1)) < 0)) .fail
 (.ite (decide ((v_.2.length + 1) ≤ lim)) (.ret (.inl ((wi64 (v_.1 - 1)), (v_.2 ++ [(b8 (wu8 (shrI .i64 v (wi64 (8 * v_.1)))))])))) .fail))
 (.ret (.inr v_.2))
def bits_Put_s0 := fun v v_ => (bits_Put_s0t v v_).get
def bits_Put_l0 := fun v n b => iter (bits_Put_s0 v) n_ (n, b)
def bits_Put_t (b : List UInt8) (v : Int) (n : Int) : Tree (List UInt8) :=
 .ite (decide (n < 1)) (.ret b)
 (.ite (decide (n > 8)) (.ret b)
 (.opt (bits_Put_l0 n_ v (wi64 (n - 1)) b) fun r_1 =>
 .ret r_1))
def bits_Put := fun b v n => (bits_Put_t n_ b v n).get
def bits_Text_t (b : List UInt8) (s : List UInt8) : Tree (List UInt8) :=
 .ite (decide ((s.length : Int) > 255)) (.ret b)
 (.ite (decide ((b.length + 1) ≤ lim)) (.ite (decide (((b ++ [(b8 (wu8 (s.length : Int)))]).length + s.length) ≤ lim)) (.ret ((b ++ [(b8 (wu8 (s.length : Int)))]) ++ s)) .fail) .fail)
def bits_Text := fun b s => (bits_Text_t b s).get
def image_padded_t (b : List UInt8) (s : List UInt8) (n : Int) : Tree (List UInt8) :=
 .opt (bits_Text b s) fun r_1 =>
 .ite (natOk (wi64 ((wi64 (n - 1)) - (s.length : Int)))) (.ite (decide ((r_1.length + (List.replicate (wi64 ((wi64 (n - 1)) - (s.length : Int))).toNat (0 : UInt8)).length) ≤ lim)) (.ret (r_1 ++ (List.replicate (wi64 ((wi64 (n - 1)) - (s.length : Int))).toNat (0 : UInt8)))) .fail) .fail
def image_padded := fun b s n => (image_padded_t b s n).get
def image_Put_s0t (t18 : List TMark) (t19 : Int) (s : TState) (v_ : Int × List UInt8) : Tree ((Int × List UInt8) ⊕ (List UInt8)) :=
 .ite (decide (v_.1 < t19)) (.ite (inR v_.1 t18.length) (.opt (t18[v_.1.toNat]?) fun y_1 =>
  .opt (bits_Put n_ v_.2 y_1.Seq 4) fun r_2 =>
  .opt (bits_Put n_ r_2 y_1.Err 1) fun r_3 =>
  .opt (bits_Put n_ r_3 y_1.File 1) fun r_4 =>
  .opt (bits_Put n_ r_4 y_1.Ver 4) fun r_5 =>
  .ret (.inl ((wi64 (v_.1 + 1)), r_5))) .fail)
 (.ret (.inr v_.2))
def image_Put_s0 := fun t18 t19 s v_ => (image_Put_s0t n_ t18 t19 s v_).get
def image_Put_l0 := fun t18 t19 s t20 b => iter (image_Put_s0 n_ t18 t19 s) n_ (t20, b)
def image_Put_s1t (t39 : List TFile) (t40 : Int) (o0 : TState) (v_ : Int × List UInt8) : Tree ((Int × List UInt8) ⊕ (List UInt8)) :=
 .ite (decide (v_.1 < t40)) (.ite (inR v_.1 t39.length) (.opt (t39[v_.1.toNat]?) fun y_1 =>
  .opt (image_padded v_.2 y_1.Name 9) fun r_2 =>
  .opt (bits_Put n_ r_2 y_1.Ver 4) fun r_3 =>
  .opt (image_padded r_3 y_1.Body 25) fun r_4 =>
  .ret (.inl ((wi64 (v_.1 + 1)), r_4))) .fail)
 (.ret (.inr v_.2))
def image_Put_s1 := fun t39 t40 o0 v_ => (image_Put_s1t n_ t39 t40 o0 v_).get
def image_Put_l1 := fun t39 t40 o0 t41 b => iter (image_Put_s1 n_ t39 t40 o0) n_ (t41, b)
def image_Put_t (s : TState) : Tree (List (List UInt8)) :=
 .opt (state_May n_ s) fun r_1 =>
 .ite (!r_1) (.ret ([]))
 (.opt (bits_Put n_ [] s.Epoch 4) fun r_2 =>
 .opt (image_Put_l0 n_ s.Marks (s.Marks.length : Int) s 0 r_2) fun r_3 =>
 .opt (image_Put_l1 n_ s.Files (s.Files.length : Int) s 0 r_3) fun r_4 =>
 .ite (decide (((r_4.length : Int).tmod 32) > 0)) (.ite (natOk (wi64 (32 - ((r_4.length : Int).tmod 32)))) (.ite (decide ((r_4.length + (List.replicate (wi64 (32 - ((r_4.length : Int).tmod 32))).toNat (0 : UInt8)).length) ≤ lim)) (.ret (chunkL (r_4 ++ (List.replicate (wi64 (32 - ((r_4.length : Int).tmod 32))).toNat (0 : UInt8))))) .fail) .fail)
 (.ret (chunkL r_4)))
def image_Put := fun s => (image_Put_t n_ s).get
def store_home_t : Tree Int :=
 .opt state_New fun r_1 =>
 .opt (image_Put n_ r_1) fun r_2 =>
 .ret (r_2.length : Int)
def store_home := (store_home_t n_).get
def store_size_t : Tree Int :=
 .opt (store_home n_) fun r_1 =>
 .ret (wi64 ((wi64 (2 * r_1)) + 1))
def store_size := (store_size_t n_).get
def bits64_Mul64 (x : Int) (y : Int) : Int × Int := ((wu64 ((wu64 ((wu64 ((shrI .u64 x 32) * (shrI .u64 y 32))) + (shrI .u64 (wu64 ((wu64 ((shrI .u64 x 32) * (band .u64 y 4294967295))) + (shrI .u64 (wu64 ((band .u64 x 4294967295) * (band .u64 y 4294967295))) 32))) 32))) + (shrI .u64 (wu64 ((band .u64 (wu64 ((wu64 ((shrI .u64 x 32) * (band .u64 y 4294967295))) + (shrI .u64 (wu64 ((band .u64 x 4294967295) * (band .u64 y 4294967295))) 32))) 4294967295) + (wu64 ((band .u64 x 4294967295) * (shrI .u64 y 32))))) 32))), (wu64 (x * y)))
def disk_New_t (n : Int) : Tree TDisk :=
 .ite (decide (n < 1)) (.ret (TDisk.mk [] [] 0 false))
 (.ite (decide (n > 64)) (.ret (TDisk.mk [] [] 0 false))
 (.ite (repOk ([0] : List UInt8) 32) (.ite (repOk1 [(repL ([0] : List UInt8) 32)] n) (.ret (TDisk.mk (repL [(repL ([0] : List UInt8) 32)] n) [] 0 false)) .fail) .fail))
def disk_New := fun n => (disk_New_t n).get
def disk_twin (d : TDisk) : Unit := ()
def disk_there_t (d : TDisk) (i : Int) : TT Bool :=
 .ite (!d.Down) (.ite (decide (i ≥ 0)) (.ret (decide (i < (d.Last.length : Int))))
 (.ret false))
 (.ret false)
def disk_there := fun d i => (disk_there_t d i).val
def disk_Write_t (d : TDisk) (i : Int) (b : List UInt8) : Tree (TDisk × Bool) :=
 .ite (!(disk_there d i)) (.ret (d, false))
 (.ite ((b.length : Int) != 32) (.ret (d, false))
 (.ite (decide ((d.Wait.length + 1) ≤ lim)) (.ite (decide (d.Arm > 0)) (.ret ((TDisk.mk d.Last (d.Wait ++ [(TPut.mk i b)]) (wi64 (d.Arm - 1)) ((wi64 (d.Arm - 1)) == 0)), (!((wi64 (d.Arm - 1)) == 0))))
 (.ret ({ d with Wait := (d.Wait ++ [(TPut.mk i b)]) }, (!d.Down)))) .fail))
def disk_Write := fun d i b => (disk_Write_t d i b).get
def disk_lasting_lasts_t (p : TPut) (n : Int) (f : Tdisk_lasting) : Tree Tdisk_lasting :=
 .ite (decide (p.At < 0)) (.ret f)
 (.ite (decide (p.At ≥ (f.d.Last.length : Int))) (.ret f)
 (.ite (inR p.At f.d.Last.length) (.opt (f.d.Last[p.At.toNat]?) fun y_1 =>
 .ite (cutOk 0 (imax (imin (imin n (p.B.length : Int)) (y_1.length : Int)) 0) p.B.length) (.ite (inR p.At f.d.Last.length) (.opt (f.d.Last[p.At.toNat]?) fun y_2 =>
  .ite (cutOk (imax (imin (imin n (p.B.length : Int)) (y_1.length : Int)) 0) (y_2.length : Int) y_2.length) (.ite (decide (((cutL p.B 0 (imax (imin (imin n (p.B.length : Int)) (y_1.length : Int)) 0)).length + (cutL y_2 (imax (imin (imin n (p.B.length : Int)) (y_1.length : Int)) 0) (y_2.length : Int)).length) ≤ lim)) (.ite (inR p.At f.d.Last.length) (.opt (f.d.Last[p.At.toNat]?) fun y_3 =>
    .ret (Tdisk_lasting.mk { f.d with Last := (f.d.Last.set p.At.toNat ((cutL p.B 0 (imax (imin (imin n (p.B.length : Int)) (y_1.length : Int)) 0)) ++ (cutL y_2 (imax (imin (imin n (p.B.length : Int)) (y_1.length : Int)) 0) (y_2.length : Int)))) })) .fail) .fail) .fail) .fail) .fail) .fail))
def disk_lasting_lasts := fun p n f => (disk_lasting_lasts_t p n f).get
def disk_Flush_s0t (t18 : List TPut) (t19 : Int) (o0 : TDisk) (v_ : Int × TDisk × Tdisk_lasting) : Tree ((Int × TDisk × Tdisk_lasting) ⊕ (TDisk × Tdisk_lasting)) :=
 .ite (decide (v_.1 < t19)) (.ite (inR v_.1 t18.length) (.opt (t18[v_.1.toNat]?) fun y_1 =>
  .opt (disk_lasting_lasts y_1 32 v_.2.2) fun r_2 =>
  .ret (.inl ((wi64 (v_.1 + 1)), { v_.2.1 with Last := [], Wait := [] }, r_2))) .fail)
 (.ret (.inr ({ v_.2.1 with Last := [], Wait := [] }, v_.2.2)))
def disk_Flush_s0 := fun t18 t19 o0 v_ => (disk_Flush_s0t t18 t19 o0 v_).get
def disk_Flush_l0 := fun t18 t19 o0 t20 o1 f => iter (disk_Flush_s0 t18 t19 o0) n_ (t20, o1, f)
def disk_Flush_t (d : TDisk) : Tree (TDisk × Bool) :=
 .ite d.Down (.ret (d, false))
 (.opt (disk_Flush_l0 n_ d.Wait (d.Wait.length : Int) d 0 (TDisk.mk [] [] 0 false) (Tdisk_lasting.mk d)) fun r_1 =>
 .ret ({ r_1.2.d with Wait := [] }, true))
def disk_Flush := fun d => (disk_Flush_t n_ d).get
def store_Make_s0t (t9 : List (List UInt8)) (t10 : Int) (s : TState) (v_ : Int × TStore × TDisk) : Tree ((Int × TStore × TDisk) ⊕ (TStore × TDisk)) :=
 .ite (decide (v_.1 < t10)) (.ite (inR v_.1 t9.length) (.opt (t9[v_.1.toNat]?) fun y_1 =>
  .opt (disk_Write v_.2.2 v_.1 y_1) fun r_2 =>
  .ret (.inl ((wi64 (v_.1 + 1)), (TStore.mk { v_.2.1.D with Last := [], Wait := [] } (TState.mk [] [] v_.2.1.S.Epoch)), r_2.1))) .fail)
 (.ret (.inr ((TStore.mk { v_.2.1.D with Last := [], Wait := [] } (TState.mk [] [] v_.2.1.S.Epoch)), v_.2.2)))
def store_Make_s0 := fun t9 t10 s v_ => (store_Make_s0t t9 t10 s v_).get
def store_Make_l0 := fun t9 t10 s t11 o0 d => iter (store_Make_s0 t9 t10 s) n_ (t11, o0, d)
def store_Make_t : Tree TStore :=
 .opt state_New fun r_1 =>
 .opt (store_size n_) fun r_2 =>
 .opt (disk_New r_2) fun r_3 =>
 .opt (image_Put n_ r_1) fun r_4 =>
 .opt (store_Make_l0 n_ r_4 (r_4.length : Int) r_1 0 (TStore.mk (TDisk.mk [] [] 0 false) (TState.mk [] [] 0)) r_3) fun r_5 =>
 .opt (disk_Flush n_ r_5.2) fun r_6 =>
 .ret (TStore.mk r_6.1 r_1)
def store_Make := (store_Make_t n_).get
def server_fresh_s0t (t13 : List TMark) (t14 : Int) (st : TStore) (v_ : Int × TServer × TServer) : Tree ((Int × TServer × TServer) ⊕ (TServer × TServer)) :=
 .ite (decide (v_.1 < t14)) (.ite (inR v_.1 t13.length) (.opt (t13[v_.1.toNat]?) fun y_1 =>
  .ite (decide ((v_.2.2.Seen.length + 1) ≤ lim)) (.ret (.inl ((wi64 (v_.1 + 1)), { v_.2.1 with Store := (TStore.mk { v_.2.1.Store.D with Last := [], Wait := [] } (TState.mk [] [] v_.2.1.Store.S.Epoch)), Desk := (TDesk.mk [] []), Seen := [], Told := [] }, { v_.2.2 with Desk := (TDesk.mk [] []), Seen := (v_.2.2.Seen ++ [y_1.Seq]), Told := [] }))) .fail) .fail)
 (.ret (.inr ({ v_.2.1 with Store := (TStore.mk { v_.2.1.Store.D with Last := [], Wait := [] } (TState.mk [] [] v_.2.1.Store.S.Epoch)), Desk := (TDesk.mk [] []), Seen := [], Told := [] }, { v_.2.2 with Desk := (TDesk.mk [] []), Told := [] })))
def server_fresh_s0 := fun t13 t14 st v_ => (server_fresh_s0t t13 t14 st v_).get
def server_fresh_l0 := fun t13 t14 st t15 o1 s => iter (server_fresh_s0 t13 t14 st) n_ (t15, o1, s)
def server_fresh_t (st : TStore) (now : Int) : Tree TServer :=
 .opt (server_fresh_l0 n_ st.S.Marks (st.S.Marks.length : Int) st 0 (TServer.mk (TStore.mk (TDisk.mk [] [] 0 false) (TState.mk [] [] 0)) (TDesk.mk [] []) [] [] 0 0 0 false 0) (TServer.mk st (TDesk.mk [] []) [] [] now 0 0 true 0)) fun r_1 =>
 .ite (mkOk (st.S.Marks.length : Int) (st.S.Marks.length : Int)) (.ret ({ r_1.2 with Desk := (TDesk.mk [] []), Told := (List.replicate (st.S.Marks.length : Int).toNat (TTell.mk 0 0 0 0 0 0 0 0 [])) })) .fail
def server_fresh := fun st now => (server_fresh_t n_ st now).get
def server_Start_t (now : Int) : Tree TServer :=
 .opt (store_Make n_) fun r_1 =>
 .opt (server_fresh n_ r_1 now) fun r_2 =>
 .ret r_2
def server_Start := fun now => (server_Start_t n_ now).get
def client_New (id_ : Int) : TClient := (TClient.mk id_ 0 0 0 [(TCache.mk 0 0 0 [] [] 0 false false), (TCache.mk 0 0 0 [] [] 0 false false), (TCache.mk 0 0 0 [] [] 0 false false), (TCache.mk 0 0 0 [] [] 0 false false), (TCache.mk 0 0 0 [] [] 0 false false), (TCache.mk 0 0 0 [] [] 0 false false)] [[], [], [], [], [], []] (TOut.mk false (TAsk.mk 0 0 0 0 [] 0 0 []) 0 0) 0 0 0)
def world_New_s0t (v_ : Int × TWorld × TWorld) : Tree ((Int × TWorld × TWorld) ⊕ (TWorld × TWorld)) :=
 .ite (decide (v_.1 < 3)) (.ite (decide ((v_.2.2.Clients.length + 1) ≤ lim)) (.ret (.inl ((wi64 (v_.1 + 1)), (TWorld.mk v_.2.1.Real { v_.2.1.S with Store := (TStore.mk { v_.2.1.S.Store.D with Last := [], Wait := [] } (TState.mk [] [] v_.2.1.S.Store.S.Epoch)), Desk := (TDesk.mk [] []), Seen := [], Told := [] } [] []), (TWorld.mk v_.2.2.Real v_.2.2.S (v_.2.2.Clients ++ [(client_New (wi64 (v_.1 + 1)))]) [])))) .fail)
 (.ret (.inr ((TWorld.mk v_.2.1.Real { v_.2.1.S with Store := (TStore.mk { v_.2.1.S.Store.D with Last := [], Wait := [] } (TState.mk [] [] v_.2.1.S.Store.S.Epoch)), Desk := (TDesk.mk [] []), Seen := [], Told := [] } [] []), { v_.2.2 with Fly := [] })))
def world_New_s0 := fun v_ => (world_New_s0t v_).get
def world_New_l0 := fun t5 o0 w => iter (world_New_s0) n_ (t5, o0, w)
def world_New_t : Tree TWorld :=
 .opt (server_Start n_ 0) fun r_1 =>
 .opt (world_New_l0 n_ 0 (TWorld.mk 0 (TServer.mk (TStore.mk (TDisk.mk [] [] 0 false) (TState.mk [] [] 0)) (TDesk.mk [] []) [] [] 0 0 0 false 0) [] []) (TWorld.mk 0 r_1 [] [])) fun r_2 =>
 .ret ({ r_2.2 with Fly := [] })
def world_New := (world_New_t n_).get
def world_twin_s0t (t15 : Int) (v_ : Int × TClient × TClient) : Tree ((Int × TClient × TClient) ⊕ (TClient × TClient)) :=
 .ite (decide (v_.1 < t15)) (.ite (inR v_.1 v_.2.1.Files.length) (.opt (v_.2.1.Files[v_.1.toNat]?) fun y_1 =>
  .ite (inR v_.1 v_.2.1.Files.length) (.opt (v_.2.1.Files[v_.1.toNat]?) fun y_2 =>
  .ret (.inl ((wi64 (v_.1 + 1)), { v_.2.1 with Files := (v_.2.1.Files.set v_.1.toNat { y_2 with Dirty := y_1.Dirty }) }, { v_.2.2 with Files := [], Names := [], Out := { v_.2.2.Out with Ask := { v_.2.2.Out.Ask with Writes := [] } } }))) .fail) .fail)
 (.ret (.inr (v_.2.1, { v_.2.2 with Files := [], Names := [], Out := { v_.2.2.Out with Ask := { v_.2.2.Out.Ask with Writes := [] } } })))
def world_twin_s0 := fun t15 v_ => (world_twin_s0t t15 v_).get
def world_twin_l0 := fun t15 t16 c o1 => iter (world_twin_s0 t15) n_ (t16, c, o1)
def world_twin_t (c : TClient) : Tree TClient :=
 .opt (world_twin_l0 n_ (c.Files.length : Int) 0 c (TClient.mk 0 0 0 0 [] [] (TOut.mk false (TAsk.mk 0 0 0 0 [] 0 0 []) 0 0) 0 0 0)) fun r_1 =>
 .ret r_1.1
def world_twin := fun c => (world_twin_t n_ c).get
def world_served (s : TServer) : Unit := ()
def world_of_s0t (t15 : Int) (v_ : Int × TWorld) : Tree ((Int × TWorld) ⊕ TWorld) :=
 .ite (decide (v_.1 < t15)) (.ite (inR v_.1 v_.2.Clients.length) (.opt (v_.2.Clients[v_.1.toNat]?) fun y_1 =>
  .opt (world_twin n_ y_1) fun r_2 =>
  .ite (inR v_.1 v_.2.Clients.length) (.opt (v_.2.Clients[v_.1.toNat]?) fun y_3 =>
  .ret (.inl ((wi64 (v_.1 + 1)), { v_.2 with Clients := (v_.2.Clients.set v_.1.toNat r_2) }))) .fail) .fail)
 (.ret (.inr v_.2))
def world_of_s0 := fun t15 v_ => (world_of_s0t n_ t15 v_).get
def world_of_l0 := fun t15 t16 w => iter (world_of_s0 n_ t15) n_ (t16, w)
def world_of_t (w : TWorld) : Tree Tworld_host :=
 .opt (world_of_l0 n_ (w.Clients.length : Int) 0 w) fun r_1 =>
 .ret (Tworld_host.mk r_1 (TAns.mk 0 0 []))
def world_of := fun w => (world_of_t n_ w).get
def world_no_t (is : Bool) (e : Int) : Tree (Unit ⊕ Tworld_refused) :=
 .ite is (.ret (.inr (Tworld_refused.mk e)))
 (.ret (.inl ()))
def world_no := fun is e => (world_no_t is e).get
def clock_Fits_t (by_ : Int) (gain : Int) (eps : Int) : TT Bool :=
 .ite (decide (by_ < 0)) (.ret false)
 (.ite (decide (by_ > 1099511627776)) (.ret false)
 (.ite (decide (gain < 0)) (.ret false)
 (.ite (decide (eps < 0)) (.ret false)
 (.ite (decide (eps > 500)) (.ret false)
 (.ite ((bits64_Mul64 (wu64 gain) 1000).1 == 0) (.ite (decide ((bits64_Mul64 (wu64 gain) 1000).2 ≥ (wu64 (wi64 (by_ * (wi64 (1000 - eps))))))) (.ret (decide ((bits64_Mul64 (wu64 gain) 1000).2 ≤ (wu64 (wi64 (by_ * (wi64 (1000 + eps))))))))
 (.ret false))
 (.ret false))))))
def clock_Fits := fun by_ gain eps => (clock_Fits_t by_ gain eps).val
def clock_Add_t (a : Int) (b : Int) : TT Int :=
 .ite (decide (a > 0)) (.ite (decide (b > (wi64 (9223372036854775807 - a)))) (.ret 9223372036854775807)
 (.ret (wi64 (a + b))))
 (.ret (wi64 (a + b)))
def clock_Add := fun a b => (clock_Add_t a b).val
def world_host_time_s0t (t30 : List Int) (t31 : Int) (h : Tworld_host) (s : TStep) (v_ : Int) : Tree (Int ⊕ (Tworld_refused ⊕ Unit)) :=
 .ite (decide (v_ < t31)) (.ite (inR v_ t30.length) (.opt (t30[v_.toNat]?) fun y_1 =>
  .opt (world_no (!(clock_Fits s.By y_1 100)) 1) fun r_2 =>
  altT r_2 (fun a_3 =>
  .ret (.inl (wi64 (v_ + 1)))) fun b_4 =>
  .ret (.inr (.inl b_4))) .fail)
 (.ret (.inr (.inr ())))
def world_host_time_s0 := fun t30 t31 h s v_ => (world_host_time_s0t t30 t31 h s v_).get
def world_host_time_l0 := fun t30 t31 h s t32 => iter (world_host_time_s0 t30 t31 h s) n_ t32
def world_host_time_s1t (t76 : Int) (s : TStep) (v_ : Int × Tworld_host) : Tree ((Int × Tworld_host) ⊕ Tworld_host) :=
 .ite (decide (v_.1 < t76)) (.ite (inR v_.1 v_.2.World.Clients.length) (.opt (v_.2.World.Clients[v_.1.toNat]?) fun y_1 =>
  .ite (inR (wi64 (v_.1 + 1)) s.Gains.length) (.opt (s.Gains[(wi64 (v_.1 + 1)).toNat]?) fun y_2 =>
  .ite (inR v_.1 v_.2.World.Clients.length) (.opt (v_.2.World.Clients[v_.1.toNat]?) fun y_3 =>
   .ret (.inl ((wi64 (v_.1 + 1)), { v_.2 with World := { v_.2.World with Clients := (v_.2.World.Clients.set v_.1.toNat { y_3 with Now := (clock_Add y_1.Now y_2) }) } }))) .fail) .fail) .fail)
 (.ret (.inr v_.2))
def world_host_time_s1 := fun t76 s v_ => (world_host_time_s1t t76 s v_).get
def world_host_time_l1 := fun t76 s t77 h => iter (world_host_time_s1 t76 s) n_ (t77, h)
def world_host_time_t (s : TStep) (h : Tworld_host) : Tree (Tworld_host ⊕ Tworld_refused) :=
 .ite (decide (s.By < 1)) (.opt (world_no true 1) fun r_1 =>
 altT r_1 (fun a_2 =>
  .opt (world_host_time_l0 n_ s.Gains (s.Gains.length : Int) h s 0) fun r_3 =>
  altT r_3 (fun a_4 =>
  .ret (.inr a_4)) fun b_5 =>
  .ite (inR 0 s.Gains.length) (.opt (s.Gains[0]?) fun y_6 =>
  .opt (world_host_time_l1 n_ (h.World.Clients.length : Int) s 0 { h with World := { h.World with Real := (clock_Add h.World.Real s.By), S := { h.World.S with Now := (clock_Add h.World.S.Now y_6) } } }) fun r_7 =>
  .ret (.inl r_7)) .fail) fun b_8 =>
 .ret (.inr b_8))
 (.ite (decide (s.By > 1099511627776)) (.opt (world_no true 1) fun r_9 =>
 altT r_9 (fun a_10 =>
  .opt (world_host_time_l0 n_ s.Gains (s.Gains.length : Int) h s 0) fun r_11 =>
  altT r_11 (fun a_12 =>
  .ret (.inr a_12)) fun b_13 =>
  .ite (inR 0 s.Gains.length) (.opt (s.Gains[0]?) fun y_14 =>
  .opt (world_host_time_l1 n_ (h.World.Clients.length : Int) s 0 { h with World := { h.World with Real := (clock_Add h.World.Real s.By), S := { h.World.S with Now := (clock_Add h.World.S.Now y_14) } } }) fun r_15 =>
  .ret (.inl r_15)) .fail) fun b_16 =>
 .ret (.inr b_16))
 (.opt (world_no ((s.Gains.length : Int) != (wi64 (1 + (h.World.Clients.length : Int)))) 1) fun r_17 =>
 altT r_17 (fun a_18 =>
 .opt (world_host_time_l0 n_ s.Gains (s.Gains.length : Int) h s 0) fun r_19 =>
 altT r_19 (fun a_20 =>
  .ret (.inr a_20)) fun b_21 =>
 .ite (inR 0 s.Gains.length) (.opt (s.Gains[0]?) fun y_22 =>
  .opt (world_host_time_l1 n_ (h.World.Clients.length : Int) s 0 { h with World := { h.World with Real := (clock_Add h.World.Real s.By), S := { h.World.S with Now := (clock_Add h.World.S.Now y_22) } } }) fun r_23 =>
  .ret (.inl r_23)) .fail) fun b_24 =>
 .ret (.inr b_24)))
def world_host_time := fun s h => (world_host_time_t n_ s h).get
def server_of (s : TServer) : Tserver_host := (Tserver_host.mk s [])
def lease_Prune_c1 (x : TLease) (o0 : Int) : Bool := (decide (x.Until ≤ o0))
def slices_IndexFunc_Lease_s0t (s : List TLease) (t7 : Int) (o0 : Int) (v_ : Int) : Tree (Int ⊕ (Int ⊕ Unit)) :=
 .ite (decide (v_ < t7)) (.ite (inR v_ s.length) (.opt (s[v_.toNat]?) fun y_1 =>
  .ite (lease_Prune_c1 y_1 o0) (.ret (.inr (.inl v_)))
  (.ret (.inl (wi64 (v_ + 1))))) .fail)
 (.ret (.inr (.inr ())))
def slices_IndexFunc_Lease_s0 := fun s t7 o0 v_ => (slices_IndexFunc_Lease_s0t s t7 o0 v_).get
def slices_IndexFunc_Lease_l0 := fun s t7 o0 t8 => iter (slices_IndexFunc_Lease_s0 s t7 o0) n_ t8
def slices_IndexFunc_Lease_t (s : List TLease) (o0 : Int) : Tree Int :=
 .opt (slices_IndexFunc_Lease_l0 n_ s (s.length : Int) o0 0) fun r_1 =>
 altT r_1 (fun a_2 =>
 .ret a_2) fun b_3 =>
 .ret (-1)
def slices_IndexFunc_Lease := fun s o0 => (slices_IndexFunc_Lease_t n_ s o0).get
def slices_DeleteFunc_Lease_s0t (o1 : Int) (v_ : Int × Int × List TLease) : Tree ((Int × Int × List TLease) ⊕ (Int × List TLease)) :=
 .ite (decide (v_.2.1 < (v_.2.2.length : Int))) (.ite (inR v_.2.1 v_.2.2.length) (.opt (v_.2.2[v_.2.1.toNat]?) fun y_1 =>
  .ite (!(lease_Prune_c1 y_1 o1)) (.ite (inR v_.1 v_.2.2.length) (.opt (v_.2.2[v_.1.toNat]?) fun y_2 =>
   .ret (.inl ((wi64 (v_.1 + 1)), (wi64 (v_.2.1 + 1)), (v_.2.2.set v_.1.toNat y_1)))) .fail)
  (.ret (.inl (v_.1, (wi64 (v_.2.1 + 1)), v_.2.2)))) .fail)
 (.ret (.inr (v_.1, v_.2.2)))
def slices_DeleteFunc_Lease_s0 := fun o1 v_ => (slices_DeleteFunc_Lease_s0t o1 v_).get
def slices_DeleteFunc_Lease_l0 := fun o1 i j s => iter (slices_DeleteFunc_Lease_s0 o1) n_ (i, j, s)
def slices_DeleteFunc_Lease_t (o1 : Int) (r0 : List TLease) : Tree (List TLease) :=
 .opt (slices_IndexFunc_Lease n_ r0 o1) fun r_1 =>
 .ite (r_1 == (-1)) (.ret r0)
 (.opt (slices_DeleteFunc_Lease_l0 n_ o1 r_1 (wi64 (r_1 + 1)) r0) fun r_2 =>
 .ite (inR r_2.1 r_2.2.length) (.ret (cutL r_2.2 0 r_2.1)) .fail)
def slices_DeleteFunc_Lease := fun o1 r0 => (slices_DeleteFunc_Lease_t n_ o1 r0).get
def lease_Prune_t (l : List TLease) (now : Int) : Tree (List TLease) :=
 .opt (slices_DeleteFunc_Lease n_ now l) fun r_1 =>
 .ret r_1
def lease_Prune := fun l now => (lease_Prune_t n_ l now).get
def desk_pruned_t (d : TDesk) (now : Int) : Tree TDesk :=
 .opt (lease_Prune n_ d.Leases now) fun r_1 =>
 .ret (TDesk.mk r_1 d.Line)
def desk_pruned := fun d now => (desk_pruned_t n_ d now).get
def cmp_isNaN_int (x : Int) : Bool := (x != x)
def cmp_Compare_int_t (x : Int) (y : Int) : TT Int :=
 .ite (cmp_isNaN_int x) (.ite (cmp_isNaN_int y) (.ret 0)
 (.ret (-1)))
 (.ite (cmp_isNaN_int y) (.ret 1)
 (.ite (decide (x < y)) (.ret (-1))
 (.ite (decide (x > y)) (.ret 1)
 (.ret 0))))
def cmp_Compare_int := fun x y => (cmp_Compare_int_t x y).val
def cmp_Or_int_s0t (zero : Int) (t6 : List Int) (t7 : Int) (v_ : Int) : Tree (Int ⊕ (Int ⊕ Unit)) :=
 .ite (decide (v_ < t7)) (.ite (inR v_ t6.length) (.opt (t6[v_.toNat]?) fun y_1 =>
  .ite (y_1 != zero) (.ret (.inr (.inl y_1)))
  (.ret (.inl (wi64 (v_ + 1))))) .fail)
 (.ret (.inr (.inr ())))
def cmp_Or_int_s0 := fun zero t6 t7 v_ => (cmp_Or_int_s0t zero t6 t7 v_).get
def cmp_Or_int_l0 := fun zero t6 t7 t8 => iter (cmp_Or_int_s0 zero t6 t7) n_ t8
def cmp_Or_int_t (vals : List Int) : Tree Int :=
 .opt (cmp_Or_int_l0 n_ 0 vals (vals.length : Int) 0) fun r_1 =>
 altT r_1 (fun a_2 =>
 .ret a_2) fun b_3 =>
 .ret 0
def cmp_Or_int := fun vals => (cmp_Or_int_t n_ vals).get
def lease_order_t (a : TLease) (b : TLease) : Tree Int :=
 .opt (cmp_Or_int n_ [(cmp_Compare_int a.File b.File), (cmp_Compare_int a.Client b.Client)]) fun r_1 =>
 .ret r_1
def lease_order := fun a b => (lease_order_t n_ a b).get
def slices_BinarySearchFunc_Lease_s0t (x : List TLease) (n : Int) (target : TLease) (v_ : Int × Int) : Tree ((Int × Int) ⊕ Int) :=
 .ite (decide (v_.1 < v_.2)) (.ite (inR (wi64 (shrI .u64 (wu64 (wi64 (v_.1 + v_.2))) 1)) x.length) (.opt (x[(wi64 (shrI .u64 (wu64 (wi64 (v_.1 + v_.2))) 1)).toNat]?) fun y_1 =>
  .opt (lease_order n_ y_1 target) fun r_2 =>
  .ite (decide (r_2 < 0)) (.ret (.inl ((wi64 ((wi64 (shrI .u64 (wu64 (wi64 (v_.1 + v_.2))) 1)) + 1)), v_.2)))
  (.ret (.inl (v_.1, (wi64 (shrI .u64 (wu64 (wi64 (v_.1 + v_.2))) 1)))))) .fail)
 (.ret (.inr v_.1))
def slices_BinarySearchFunc_Lease_s0 := fun x n target v_ => (slices_BinarySearchFunc_Lease_s0t n_ x n target v_).get
def slices_BinarySearchFunc_Lease_l0 := fun x n target i j => iter (slices_BinarySearchFunc_Lease_s0 n_ x n target) n_ (i, j)
def slices_BinarySearchFunc_Lease_t (x : List TLease) (target : TLease) : Tree (Int × Bool) :=
 .opt (slices_BinarySearchFunc_Lease_l0 n_ x (x.length : Int) target 0 (x.length : Int)) fun r_1 =>
 .ite (decide (r_1 < (x.length : Int))) (.ite (inR r_1 x.length) (.opt (x[r_1.toNat]?) fun y_2 =>
  .opt (lease_order n_ y_2 target) fun r_3 =>
  .ret (r_1, (r_3 == 0))) .fail)
 (.ret (r_1, false))
def slices_BinarySearchFunc_Lease := fun x target => (slices_BinarySearchFunc_Lease_t n_ x target).get
def lease_Holds_t (l : List TLease) (now : Int) (client : Int) (file : Int) : Tree Int :=
 .opt (slices_BinarySearchFunc_Lease n_ l (TLease.mk client file 0 0)) fun r_1 =>
 .ite (!r_1.2) (.ret 0)
 (.ite (inR r_1.1 l.length) (.opt (l[r_1.1.toNat]?) fun y_2 =>
 .ite (decide (now ≥ y_2.Until)) (.ret 0)
 (.ite (inR r_1.1 l.length) (.opt (l[r_1.1.toNat]?) fun y_3 =>
  .ret y_3.Mode) .fail)) .fail)
def lease_Holds := fun l now client file => (lease_Holds_t n_ l now client file).get
def lease_Clash_s0t (l : List TLease) (now : Int) (client : Int) (file : Int) (mode : Int) (t14 : List TLease) (t15 : Int) (v_ : Int × List Int) : Tree ((Int × List Int) ⊕ (List Int)) :=
 .ite (decide (v_.1 < t15)) (.ite (inR v_.1 t14.length) (.opt (t14[v_.1.toNat]?) fun y_1 =>
  .ite (y_1.File != file) (.ret (.inl ((wi64 (v_.1 + 1)), v_.2)))
  (.ite (y_1.Client == client) (.ret (.inl ((wi64 (v_.1 + 1)), v_.2)))
  (.opt (lease_Holds n_ l now y_1.Client file) fun r_2 =>
  .ite (r_2 != 0) (.ite (mode == 2) (.ite (decide ((v_.2.length + 1) ≤ lim)) (.ret (.inl ((wi64 (v_.1 + 1)), (v_.2 ++ [y_1.Client])))) .fail)
  (.ite (r_2 == 2) (.ite (decide ((v_.2.length + 1) ≤ lim)) (.ret (.inl ((wi64 (v_.1 + 1)), (v_.2 ++ [y_1.Client])))) .fail)
  (.ret (.inl ((wi64 (v_.1 + 1)), v_.2)))))
  (.ret (.inl ((wi64 (v_.1 + 1)), v_.2)))))) .fail)
 (.ret (.inr v_.2))
def lease_Clash_s0 := fun l now client file mode t14 t15 v_ => (lease_Clash_s0t n_ l now client file mode t14 t15 v_).get
def lease_Clash_l0 := fun l now client file mode t14 t15 t16 out => iter (lease_Clash_s0 n_ l now client file mode t14 t15) n_ (t16, out)
def lease_Clash_t (l : List TLease) (now : Int) (client : Int) (file : Int) (mode : Int) : Tree (List Int) :=
 .opt (lease_Clash_l0 n_ l now client file mode l (l.length : Int) 0 []) fun r_1 =>
 .ret r_1
def lease_Clash := fun l now client file mode => (lease_Clash_t n_ l now client file mode).get
def desk_clash_t (d : TDesk) (now : Int) (w : TWait) : Tree (List Int) :=
 .opt (lease_Clash n_ d.Leases now w.Client w.File w.Mode) fun r_1 =>
 .ret r_1
def desk_clash := fun d now w => (desk_clash_t n_ d now w).get
def line_Ahead_s0t (client : Int) (file : Int) (t9 : List TWait) (t10 : Int) (v_ : Int) : Tree (Int ⊕ ((Bool × TWait) ⊕ Unit)) :=
 .ite (decide (v_ < t10)) (.ite (inR v_ t9.length) (.opt (t9[v_.toNat]?) fun y_1 =>
  .ite (y_1.File != file) (.ret (.inl (wi64 (v_ + 1))))
  (.ret (.inr (.inl ((y_1.Client != client), y_1))))) .fail)
 (.ret (.inr (.inr ())))
def line_Ahead_s0 := fun client file t9 t10 v_ => (line_Ahead_s0t client file t9 t10 v_).get
def line_Ahead_l0 := fun client file t9 t10 t11 => iter (line_Ahead_s0 client file t9 t10) n_ t11
def line_Ahead_t (l : List TWait) (client : Int) (file : Int) : Tree Bool :=
 .opt (line_Ahead_l0 n_ client file l (l.length : Int) 0) fun r_1 =>
 altT r_1 (fun a_2 =>
 .ret a_2.1) fun b_3 =>
 .ret false
def line_Ahead := fun l client file => (line_Ahead_t n_ l client file).get
def desk_may_t (d : TDesk) (now : Int) (w : TWait) : Tree Bool :=
 .opt (desk_clash n_ d now w) fun r_1 =>
 .ite ((r_1.length : Int) == 0) (.opt (line_Ahead n_ d.Line w.Client w.File) fun r_2 =>
 .ret (!r_2))
 (.ret false)
def desk_may := fun d now w => (desk_may_t n_ d now w).get
def desk_Run_c1_t (w : TWait) (o0 : TDesk) (o1 : Int) : Tree Bool :=
 .opt (desk_may n_ o0 o1 w) fun r_1 =>
 .ret r_1
def desk_Run_c1 := fun w o0 o1 => (desk_Run_c1_t n_ w o0 o1).get
def slices_IndexFunc_Wait_s0t (s : List TWait) (t7 : Int) (o0 : TDesk) (o1 : Int) (v_ : Int) : Tree (Int ⊕ (Int ⊕ Unit)) :=
 .ite (decide (v_ < t7)) (.ite (inR v_ s.length) (.opt (s[v_.toNat]?) fun y_1 =>
  .opt (desk_Run_c1 n_ y_1 o0 o1) fun r_2 =>
  .ite r_2 (.ret (.inr (.inl v_)))
  (.ret (.inl (wi64 (v_ + 1))))) .fail)
 (.ret (.inr (.inr ())))
def slices_IndexFunc_Wait_s0 := fun s t7 o0 o1 v_ => (slices_IndexFunc_Wait_s0t n_ s t7 o0 o1 v_).get
def slices_IndexFunc_Wait_l0 := fun s t7 o0 o1 t8 => iter (slices_IndexFunc_Wait_s0 n_ s t7 o0 o1) n_ t8
def slices_IndexFunc_Wait_t (s : List TWait) (o0 : TDesk) (o1 : Int) : Tree Int :=
 .opt (slices_IndexFunc_Wait_l0 n_ s (s.length : Int) o0 o1 0) fun r_1 =>
 altT r_1 (fun a_2 =>
 .ret a_2) fun b_3 =>
 .ret (-1)
def slices_IndexFunc_Wait := fun s o0 o1 => (slices_IndexFunc_Wait_t n_ s o0 o1).get
def lease_Grant_t (l : List TLease) (x : TLease) : Tree (List TLease) :=
 .opt (slices_BinarySearchFunc_Lease n_ l x) fun r_1 =>
 .ite (!r_1.2) (.ite (insOk l r_1.1 [x]) (.ret (insL l r_1.1 [x])) .fail)
 (.ite (inR r_1.1 l.length) (.opt (l[r_1.1.toNat]?) fun y_2 =>
 .ite (inR r_1.1 l.length) (.opt (l[r_1.1.toNat]?) fun y_3 =>
  .ite (inR r_1.1 l.length) (.opt (l[r_1.1.toNat]?) fun y_4 =>
  .ite (inR r_1.1 (l.set r_1.1.toNat { y_4 with Mode := (imax y_2.Mode x.Mode) }).length) (.opt ((l.set r_1.1.toNat { y_4 with Mode := (imax y_2.Mode x.Mode) })[r_1.1.toNat]?) fun y_5 =>
   .ret ((l.set r_1.1.toNat { y_4 with Mode := (imax y_2.Mode x.Mode) }).set r_1.1.toNat { y_5 with Until := (imax y_3.Until x.Until) })) .fail) .fail) .fail) .fail)
def lease_Grant := fun l x => (lease_Grant_t n_ l x).get
def line_Drop_c1 (w : TWait) (o0 : Int) : Bool := (w.Client == o0)
def slices_IndexFunc_Wait_2_s0t (s : List TWait) (t7 : Int) (o0 : Int) (v_ : Int) : Tree (Int ⊕ (Int ⊕ Unit)) :=
 .ite (decide (v_ < t7)) (.ite (inR v_ s.length) (.opt (s[v_.toNat]?) fun y_1 =>
  .ite (line_Drop_c1 y_1 o0) (.ret (.inr (.inl v_)))
  (.ret (.inl (wi64 (v_ + 1))))) .fail)
 (.ret (.inr (.inr ())))
def slices_IndexFunc_Wait_2_s0 := fun s t7 o0 v_ => (slices_IndexFunc_Wait_2_s0t s t7 o0 v_).get
def slices_IndexFunc_Wait_2_l0 := fun s t7 o0 t8 => iter (slices_IndexFunc_Wait_2_s0 s t7 o0) n_ t8
def slices_IndexFunc_Wait_2_t (s : List TWait) (o0 : Int) : Tree Int :=
 .opt (slices_IndexFunc_Wait_2_l0 n_ s (s.length : Int) o0 0) fun r_1 =>
 altT r_1 (fun a_2 =>
 .ret a_2) fun b_3 =>
 .ret (-1)
def slices_IndexFunc_Wait_2 := fun s o0 => (slices_IndexFunc_Wait_2_t n_ s o0).get
def slices_DeleteFunc_Wait_s0t (o1 : Int) (v_ : Int × Int × List TWait) : Tree ((Int × Int × List TWait) ⊕ (Int × List TWait)) :=
 .ite (decide (v_.2.1 < (v_.2.2.length : Int))) (.ite (inR v_.2.1 v_.2.2.length) (.opt (v_.2.2[v_.2.1.toNat]?) fun y_1 =>
  .ite (!(line_Drop_c1 y_1 o1)) (.ite (inR v_.1 v_.2.2.length) (.opt (v_.2.2[v_.1.toNat]?) fun y_2 =>
   .ret (.inl ((wi64 (v_.1 + 1)), (wi64 (v_.2.1 + 1)), (v_.2.2.set v_.1.toNat y_1)))) .fail)
  (.ret (.inl (v_.1, (wi64 (v_.2.1 + 1)), v_.2.2)))) .fail)
 (.ret (.inr (v_.1, v_.2.2)))
def slices_DeleteFunc_Wait_s0 := fun o1 v_ => (slices_DeleteFunc_Wait_s0t o1 v_).get
def slices_DeleteFunc_Wait_l0 := fun o1 i j s => iter (slices_DeleteFunc_Wait_s0 o1) n_ (i, j, s)
def slices_DeleteFunc_Wait_t (o1 : Int) (r0 : List TWait) : Tree (List TWait) :=
 .opt (slices_IndexFunc_Wait_2 n_ r0 o1) fun r_1 =>
 .ite (r_1 == (-1)) (.ret r0)
 (.opt (slices_DeleteFunc_Wait_l0 n_ o1 r_1 (wi64 (r_1 + 1)) r0) fun r_2 =>
 .ite (inR r_2.1 r_2.2.length) (.ret (cutL r_2.2 0 r_2.1)) .fail)
def slices_DeleteFunc_Wait := fun o1 r0 => (slices_DeleteFunc_Wait_t n_ o1 r0).get
def line_Drop_t (l : List TWait) (client : Int) : Tree (List TWait) :=
 .opt (slices_DeleteFunc_Wait n_ client l) fun r_1 =>
 .ret r_1
def line_Drop := fun l client => (line_Drop_t n_ l client).get
def desk_lets_t (d : TDesk) (now : Int) (w : TWait) : Tree TDesk :=
 .opt (lease_Grant n_ d.Leases (TLease.mk w.Client w.File w.Mode (clock_Add now 60))) fun r_1 =>
 .opt (line_Drop n_ d.Line w.Client) fun r_2 =>
 .ret (TDesk.mk r_1 r_2)
def desk_lets := fun d now w => (desk_lets_t n_ d now w).get
def slices_Index__2_int_s0t (s : List (List Int)) (t7 : Int) (v : List Int) (v_ : Int) : Tree (Int ⊕ (Int ⊕ Unit)) :=
 .ite (decide (v_ < t7)) (.ite (inR v_ s.length) (.opt (s[v_.toNat]?) fun y_1 =>
  .ite (eqL (fun a b => a == b) v y_1) (.ret (.inr (.inl v_)))
  (.ret (.inl (wi64 (v_ + 1))))) .fail)
 (.ret (.inr (.inr ())))
def slices_Index__2_int_s0 := fun s t7 v v_ => (slices_Index__2_int_s0t s t7 v v_).get
def slices_Index__2_int_l0 := fun s t7 v t8 => iter (slices_Index__2_int_s0 s t7 v) n_ t8
def slices_Index__2_int_t (s : List (List Int)) (v : List Int) : Tree Int :=
 .opt (slices_Index__2_int_l0 n_ s (s.length : Int) v 0) fun r_1 =>
 altT r_1 (fun a_2 =>
 .ret a_2) fun b_3 =>
 .ret (-1)
def slices_Index__2_int := fun s v => (slices_Index__2_int_t n_ s v).get
def slices_Contains__2_int_t (s : List (List Int)) (v : List Int) : Tree Bool :=
 .opt (slices_Index__2_int n_ s v) fun r_1 =>
 .ret (decide (r_1 ≥ 0))
def slices_Contains__2_int := fun s v => (slices_Contains__2_int_t n_ s v).get
def desk_Run_s0t (o0 : TDesk) (now : Int) (v_ : TDesk × List TWait) : Tree ((TDesk × List TWait) ⊕ (TDesk × List TWait)) :=
 .opt (slices_IndexFunc_Wait n_ v_.1.Line v_.1 now) fun r_1 =>
 .ite (decide (r_1 < 0)) (.ret (.inr (v_.1, v_.2)))
 (.ite (inR r_1 v_.1.Line.length) (.opt (v_.1.Line[r_1.toNat]?) fun y_2 =>
 .opt (desk_lets n_ v_.1 now y_2) fun r_3 =>
 .ite (decide ((v_.2.length + 1) ≤ lim)) (.ret (.inl (r_3, (v_.2 ++ [y_2])))) .fail) .fail)
def desk_Run_s0 := fun o0 now v_ => (desk_Run_s0t n_ o0 now v_).get
def desk_Run_l0 := fun o0 now x let_ => iter (desk_Run_s0 n_ o0 now) n_ (x, let_)
def desk_Run_s1t (t37 : List TWait) (t38 : Int) (t39 : Int) (t46 : List Int) (t47 : Int) (o0 : TDesk) (now : Int) (x : TDesk) (w : TWait) (let_ : List TWait) (v_ : Int × List (List Int)) : Tree ((Int × List (List Int)) ⊕ (List (List Int))) :=
 .ite (decide (v_.1 < t47)) (.ite (inR v_.1 t46.length) (.opt (t46[v_.1.toNat]?) fun y_1 =>
  .opt (slices_Contains__2_int n_ v_.2 [w.File, y_1]) fun r_2 =>
  .ite (!r_2) (.ite (decide ((v_.2.length + 1) ≤ lim)) (.ret (.inl ((wi64 (v_.1 + 1)), (v_.2 ++ [[w.File, y_1]])))) .fail)
  (.ret (.inl ((wi64 (v_.1 + 1)), v_.2)))) .fail)
 (.ret (.inr v_.2))
def desk_Run_s1 := fun t37 t38 t39 t46 t47 o0 now x w let_ v_ => (desk_Run_s1t n_ t37 t38 t39 t46 t47 o0 now x w let_ v_).get
def desk_Run_l1 := fun t37 t38 t39 t46 t47 o0 now x w let_ t48 calls => iter (desk_Run_s1 n_ t37 t38 t39 t46 t47 o0 now x w let_) n_ (t48, calls)
def desk_Run_s2t (t37 : List TWait) (t38 : Int) (o0 : TDesk) (now : Int) (x : TDesk) (let_ : List TWait) (v_ : Int × List (List Int)) : Tree ((Int × List (List Int)) ⊕ (List (List Int))) :=
 .ite (decide (v_.1 < t38)) (.ite (inR v_.1 t37.length) (.opt (t37[v_.1.toNat]?) fun y_1 =>
  .opt (desk_clash n_ x now y_1) fun r_2 =>
  .opt (desk_Run_l1 n_ t37 t38 v_.1 r_2 (r_2.length : Int) o0 now x y_1 let_ 0 v_.2) fun r_3 =>
  .ret (.inl ((wi64 (v_.1 + 1)), r_3))) .fail)
 (.ret (.inr v_.2))
def desk_Run_s2 := fun t37 t38 o0 now x let_ v_ => (desk_Run_s2t n_ t37 t38 o0 now x let_ v_).get
def desk_Run_l2 := fun t37 t38 o0 now x let_ t39 calls => iter (desk_Run_s2 n_ t37 t38 o0 now x let_) n_ (t39, calls)
def desk_Run_t (d : TDesk) (now : Int) : Tree (TDesk × List TWait × List (List Int)) :=
 .opt (desk_pruned n_ d now) fun r_1 =>
 .opt (desk_Run_l0 n_ d now r_1 []) fun r_2 =>
 .opt (desk_Run_l2 n_ r_2.1.Line (r_2.1.Line.length : Int) d now r_2.1 r_2.2 0 []) fun r_3 =>
 .ret (r_2.1, r_2.2, r_3)
def desk_Run := fun d now => (desk_Run_t n_ d now).get
def server_host_there_t (n : Int) (h : Tserver_host) : Tree Bool :=
 .ite (decide (n ≥ 1)) (.ite (decide (n ≤ (h.Server.Store.S.Files.length : Int))) (.ite (inR (wi64 (n - 1)) h.Server.Store.S.Files.length) (.opt (h.Server.Store.S.Files[(wi64 (n - 1)).toNat]?) fun y_1 =>
  .ret (!(y_1.Name == []))) .fail)
 (.ret false))
 (.ret false)
def server_host_there := fun n h => (server_host_there_t n h).get
def server_host_done_t (client : Int) (t : TTell) (h : Tserver_host) : Tree Tserver_host :=
 .ite (decide (client ≥ 1)) (.ite (decide (client ≤ (h.Server.Told.length : Int))) (.ite (inR (wi64 (client - 1)) h.Server.Told.length) (.opt (h.Server.Told[(wi64 (client - 1)).toNat]?) fun y_1 =>
  .ite (decide (y_1.Seq ≤ t.Seq)) (.ite (inR (wi64 (client - 1)) h.Server.Told.length) (.opt (h.Server.Told[(wi64 (client - 1)).toNat]?) fun y_2 =>
   .ret (Tserver_host.mk { h.Server with Told := (h.Server.Told.set (wi64 (client - 1)).toNat { t with Kind := 1, To := client, Epoch := h.Server.Store.S.Epoch }) } [{ t with Kind := 1, To := client, Epoch := h.Server.Store.S.Epoch }])) .fail)
  (.ret ({ h with told := [{ t with Kind := 1, To := client, Epoch := h.Server.Store.S.Epoch }] }))) .fail)
 (.ret ({ h with told := [{ t with Kind := 1, To := client, Epoch := h.Server.Store.S.Epoch }] })))
 (.ret ({ h with told := [{ t with Kind := 1, To := client, Epoch := h.Server.Store.S.Epoch }] }))
def server_host_done := fun client t h => (server_host_done_t client t h).get
def server_host_done_2_t (client : Int) (t : TTell) (h : Tserver_host) : Tree Tserver_host :=
 .ite (decide (client ≥ 1)) (.ite (decide (client ≤ (h.Server.Told.length : Int))) (.ite (inR (wi64 (client - 1)) h.Server.Told.length) (.opt (h.Server.Told[(wi64 (client - 1)).toNat]?) fun y_1 =>
  .ite (decide (y_1.Seq ≤ t.Seq)) (.ite (inR (wi64 (client - 1)) h.Server.Told.length) (.opt (h.Server.Told[(wi64 (client - 1)).toNat]?) fun y_2 =>
   .ret (Tserver_host.mk { h.Server with Told := (h.Server.Told.set (wi64 (client - 1)).toNat { t with Kind := 1, To := client, Epoch := h.Server.Store.S.Epoch }) } [{ t with Kind := 1, To := client, Epoch := h.Server.Store.S.Epoch }])) .fail)
  (.ret ({ h with told := [{ t with Kind := 1, To := client, Epoch := h.Server.Store.S.Epoch }] }))) .fail)
 (.ret ({ h with told := [{ t with Kind := 1, To := client, Epoch := h.Server.Store.S.Epoch }] })))
 (.ret ({ h with told := [{ t with Kind := 1, To := client, Epoch := h.Server.Store.S.Epoch }] }))
def server_host_done_2 := fun client t h => (server_host_done_2_t client t h).get
def server_host_lent_t (w : TWait) (h : Tserver_host) : Tree (Tserver_host ⊕ Tserver_host) :=
 .opt (lease_Holds n_ h.Server.Desk.Leases h.Server.Now w.Client w.File) fun r_1 =>
 .opt (server_host_there w.File { h with told := [] }) fun r_2 =>
 .ite r_2 (.ite (inR (wi64 (w.File - 1)) h.Server.Store.S.Files.length) (.opt (h.Server.Store.S.Files[(wi64 (w.File - 1)).toNat]?) fun y_3 =>
  .opt (server_host_done w.Client (TTell.mk 0 0 0 w.Seq 0 w.File r_1 y_3.Ver y_3.Body) { h with told := [] }) fun r_4 =>
  .ret (.inr r_4)) .fail)
 (.opt (server_host_done_2 w.Client (TTell.mk 0 0 0 w.Seq 0 w.File r_1 0 []) { h with told := [] }) fun r_5 =>
 .ret (.inl r_5))
def server_host_there_2_t (n : Int) (h : Tserver_host) : Tree Bool :=
 .ite (decide (n ≥ 1)) (.ite (decide (n ≤ (h.Server.Store.S.Files.length : Int))) (.ite (inR (wi64 (n - 1)) h.Server.Store.S.Files.length) (.opt (h.Server.Store.S.Files[(wi64 (n - 1)).toNat]?) fun y_1 =>
  .ret (!(y_1.Name == []))) .fail)
 (.ret false))
 (.ret false)
def server_host_there_2 := fun n h => (server_host_there_2_t n h).get
def server_host_done_3_t (client : Int) (t : TTell) (h : Tserver_host) : Tree Tserver_host :=
 .ite (decide (client ≥ 1)) (.ite (decide (client ≤ (h.Server.Told.length : Int))) (.ite (inR (wi64 (client - 1)) h.Server.Told.length) (.opt (h.Server.Told[(wi64 (client - 1)).toNat]?) fun y_1 =>
  .ite (decide (y_1.Seq ≤ t.Seq)) (.ite (inR (wi64 (client - 1)) h.Server.Told.length) (.opt (h.Server.Told[(wi64 (client - 1)).toNat]?) fun y_2 =>
   .ite (decide ((h.told.length + 1) ≤ lim)) (.ret (Tserver_host.mk { h.Server with Told := (h.Server.Told.set (wi64 (client - 1)).toNat { t with Kind := 1, To := client, Epoch := h.Server.Store.S.Epoch }) } (h.told ++ [{ t with Kind := 1, To := client, Epoch := h.Server.Store.S.Epoch }]))) .fail) .fail)
  (.ite (decide ((h.told.length + 1) ≤ lim)) (.ret ({ h with told := (h.told ++ [{ t with Kind := 1, To := client, Epoch := h.Server.Store.S.Epoch }]) })) .fail)) .fail)
 (.ite (decide ((h.told.length + 1) ≤ lim)) (.ret ({ h with told := (h.told ++ [{ t with Kind := 1, To := client, Epoch := h.Server.Store.S.Epoch }]) })) .fail))
 (.ite (decide ((h.told.length + 1) ≤ lim)) (.ret ({ h with told := (h.told ++ [{ t with Kind := 1, To := client, Epoch := h.Server.Store.S.Epoch }]) })) .fail)
def server_host_done_3 := fun client t h => (server_host_done_3_t client t h).get
def server_host_done_4_t (client : Int) (t : TTell) (h : Tserver_host) : Tree Tserver_host :=
 .ite (decide (client ≥ 1)) (.ite (decide (client ≤ (h.Server.Told.length : Int))) (.ite (inR (wi64 (client - 1)) h.Server.Told.length) (.opt (h.Server.Told[(wi64 (client - 1)).toNat]?) fun y_1 =>
  .ite (decide (y_1.Seq ≤ t.Seq)) (.ite (inR (wi64 (client - 1)) h.Server.Told.length) (.opt (h.Server.Told[(wi64 (client - 1)).toNat]?) fun y_2 =>
   .ite (decide ((h.told.length + 1) ≤ lim)) (.ret (Tserver_host.mk { h.Server with Told := (h.Server.Told.set (wi64 (client - 1)).toNat { t with Kind := 1, To := client, Epoch := h.Server.Store.S.Epoch }) } (h.told ++ [{ t with Kind := 1, To := client, Epoch := h.Server.Store.S.Epoch }]))) .fail) .fail)
  (.ite (decide ((h.told.length + 1) ≤ lim)) (.ret ({ h with told := (h.told ++ [{ t with Kind := 1, To := client, Epoch := h.Server.Store.S.Epoch }]) })) .fail)) .fail)
 (.ite (decide ((h.told.length + 1) ≤ lim)) (.ret ({ h with told := (h.told ++ [{ t with Kind := 1, To := client, Epoch := h.Server.Store.S.Epoch }]) })) .fail))
 (.ite (decide ((h.told.length + 1) ≤ lim)) (.ret ({ h with told := (h.told ++ [{ t with Kind := 1, To := client, Epoch := h.Server.Store.S.Epoch }]) })) .fail)
def server_host_done_4 := fun client t h => (server_host_done_4_t client t h).get
def server_host_lent_2_t (w : TWait) (h : Tserver_host) : Tree Tserver_host :=
 .opt (lease_Holds n_ h.Server.Desk.Leases h.Server.Now w.Client w.File) fun r_1 =>
 .opt (server_host_there_2 w.File h) fun r_2 =>
 .ite r_2 (.ite (inR (wi64 (w.File - 1)) h.Server.Store.S.Files.length) (.opt (h.Server.Store.S.Files[(wi64 (w.File - 1)).toNat]?) fun y_3 =>
  .opt (server_host_done_3 w.Client (TTell.mk 0 0 0 w.Seq 0 w.File r_1 y_3.Ver y_3.Body) h) fun r_4 =>
  .ret r_4) .fail)
 (.opt (server_host_done_4 w.Client (TTell.mk 0 0 0 w.Seq 0 w.File r_1 0 []) h) fun r_5 =>
 .ret r_5)
def server_host_lent_2 := fun w h => (server_host_lent_2_t n_ w h).get
def server_host_calls_t (client : Int) (file : Int) (h : Tserver_host) : Tree Tserver_host :=
 .ite (decide ((h.told.length + 1) ≤ lim)) (.ret ({ h with told := (h.told ++ [(TTell.mk 2 client h.Server.Store.S.Epoch 0 0 file 0 0 [])]) })) .fail
def server_host_calls := fun client file h => (server_host_calls_t client file h).get
def server_Run_s0t (calls : List (List Int)) (t42 : List TWait) (t43 : Int) (o0 : TServer) (o12 : TDesk) (r7 : List TLease) (r8 : List TWait) (v_ : Int × TServer × Tserver_host) : Tree ((Int × TServer × Tserver_host) ⊕ (TServer × Tserver_host)) :=
 .ite (decide (v_.1 < t43)) (.ite (inR v_.1 t42.length) (.opt (t42[v_.1.toNat]?) fun y_1 =>
  .opt (server_host_lent_2 n_ y_1 v_.2.2) fun r_2 =>
  .ret (.inl ((wi64 (v_.1 + 1)), { v_.2.1 with Store := (TStore.mk { v_.2.1.Store.D with Last := [], Wait := [] } (TState.mk [] [] v_.2.1.Store.S.Epoch)), Desk := (TDesk.mk [] []), Seen := [], Told := [] }, r_2))) .fail)
 (.ret (.inr ({ v_.2.1 with Store := (TStore.mk { v_.2.1.Store.D with Last := [], Wait := [] } (TState.mk [] [] v_.2.1.Store.S.Epoch)), Desk := (TDesk.mk [] []), Seen := [], Told := [] }, v_.2.2)))
def server_Run_s0 := fun calls t42 t43 o0 o12 r7 r8 v_ => (server_Run_s0t n_ calls t42 t43 o0 o12 r7 r8 v_).get
def server_Run_l0 := fun calls t42 t43 o0 o12 r7 r8 t44 o1 h => iter (server_Run_s0 n_ calls t42 t43 o0 o12 r7 r8) n_ (t44, o1, h)
def server_Run_s1t (calls : List (List Int)) (t52 : List (List Int)) (t53 : Int) (o0 : TServer) (o12 : TDesk) (r7 : List TLease) (r8 : List TWait) (v_ : Int × TServer × Tserver_host) : Tree ((Int × TServer × Tserver_host) ⊕ (TServer × Tserver_host)) :=
 .ite (decide (v_.1 < t53)) (.ite (inR v_.1 t52.length) (.opt (t52[v_.1.toNat]?) fun y_1 =>
  .opt (y_1[1]?) fun y_2 =>
  .opt (y_1[0]?) fun y_3 =>
  .opt (server_host_calls y_2 y_3 v_.2.2) fun r_4 =>
  .ret (.inl ((wi64 (v_.1 + 1)), { v_.2.1 with Store := (TStore.mk { v_.2.1.Store.D with Last := [], Wait := [] } (TState.mk [] [] v_.2.1.Store.S.Epoch)), Desk := (TDesk.mk [] []), Seen := [], Told := [] }, r_4))) .fail)
 (.ret (.inr ({ v_.2.1 with Store := (TStore.mk { v_.2.1.Store.D with Last := [], Wait := [] } (TState.mk [] [] v_.2.1.Store.S.Epoch)), Desk := (TDesk.mk [] []), Seen := [], Told := [] }, v_.2.2)))
def server_Run_s1 := fun calls t52 t53 o0 o12 r7 r8 v_ => (server_Run_s1t calls t52 t53 o0 o12 r7 r8 v_).get
def server_Run_l1 := fun calls t52 t53 o0 o12 r7 r8 t54 o1 h => iter (server_Run_s1 calls t52 t53 o0 o12 r7 r8) n_ (t54, o1, h)
def server_Run_t (s : TServer) : Tree (TServer × List TTell) :=
 .ite (!s.Live) (.ret ((server_of s).Server, []))
 (.ite (decide (s.Now < s.Hush)) (.ret ((server_of s).Server, []))
 (.opt (desk_Run n_ s.Desk s.Now) fun r_1 =>
 .opt (server_Run_l0 n_ r_1.2.2 r_1.2.1 (r_1.2.1.length : Int) s r_1.1 (server_of s).Server.Desk.Leases (server_of s).Server.Desk.Line 0 (TServer.mk (TStore.mk (TDisk.mk [] [] 0 false) (TState.mk [] [] 0)) (TDesk.mk [] []) [] [] 0 0 0 false 0) (Tserver_host.mk { (server_of s).Server with Desk := r_1.1 } [])) fun r_2 =>
 .opt (server_Run_l1 n_ r_1.2.2 r_1.2.2 (r_1.2.2.length : Int) s r_1.1 (server_of s).Server.Desk.Leases (server_of s).Server.Desk.Line 0 { r_2.1 with Store := (TStore.mk { r_2.1.Store.D with Last := [], Wait := [] } (TState.mk [] [] r_2.1.Store.S.Epoch)), Desk := (TDesk.mk [] []), Seen := [], Told := [] } r_2.2) fun r_3 =>
 .ret ({ r_3.2.Server with Recalled := (imin (wi64 (r_3.2.Server.Recalled + (r_1.2.2.length : Int))) 1073741824) }, r_3.2.told)))
def server_Run := fun s => (server_Run_t n_ s).get
def msg_from_t (lo : Int) (hi : Int) (v : Int) : TT Bool :=
 .ite (decide (lo ≤ v)) (.ret (decide (v ≤ hi)))
 (.ret false)
def msg_from := fun lo hi v => (msg_from_t lo hi v).val
def msg_MayTell_t (t : TTell) : TT Bool :=
 .ite (!(msg_from 1 3 t.Kind)) (.ret false)
 (.ite (!(msg_from 1 3 t.To)) (.ret false)
 (.ite (!(msg_from 0 1073741824 t.Epoch)) (.ret false)
 (.ite (t.Kind == 2) (.ite (TTell.eqb t (TTell.mk t.Kind t.To t.Epoch 0 0 t.File 0 0 [])) (.ret (msg_from 1 6 t.File))
 (.ret false))
 (.ite (t.Kind == 3) (.ret (TTell.eqb t (TTell.mk t.Kind t.To t.Epoch 0 0 0 0 0 [])))
 (.ite (msg_from 1 1073741824 t.Seq) (.ite (decide (t.Err ≥ 0)) (.ite (decide (t.Err ≤ 7)) (.ite (msg_from 0 6 t.File) (.ite (msg_from 0 2 t.Mode) (.ite (msg_from 0 1073741824 t.Ver) (.ret (decide ((t.Body.length : Int) ≤ 24)))
   (.ret false))
   (.ret false))
  (.ret false))
  (.ret false))
 (.ret false))
 (.ret false))))))
def msg_MayTell := fun t => (msg_MayTell_t t).val
def bits_Put_2_s0t (v : Int) (v_ : Int × List UInt8) : Tree ((Int × List UInt8) ⊕ (List UInt8)) :=
 .ite (decide (v_.1 ≥ 0)) (.ite (decide ((wi64 (8 * v_.1)) < 0)) .fail
 (.ite (decide ((v_.2.length + 1) ≤ lim)) (.ret (.inl ((wi64 (v_.1 - 1)), (v_.2 ++ [(b8 (wu8 (shrI .i64 v (wi64 (8 * v_.1)))))])))) .fail))
 (.ret (.inr v_.2))
def bits_Put_2_s0 := fun v v_ => (bits_Put_2_s0t v v_).get
def bits_Put_2_l0 := fun v n b => iter (bits_Put_2_s0 v) n_ (n, b)
def bits_Put_2_t (b : List UInt8) (v : Int) (n : Int) : Tree (List UInt8) :=
 .ite (decide (n < 1)) (.ret b)
 (.ite (decide (n > 8)) (.ret b)
 (.opt (bits_Put_2_l0 n_ v (wi64 (n - 1)) b) fun r_1 =>
 .ret r_1))
def bits_Put_2 := fun b v n => (bits_Put_2_t n_ b v n).get
def bits_Text_2_t (b : List UInt8) (s : List UInt8) : Tree (List UInt8) :=
 .ite (decide ((s.length : Int) > 255)) (.ret b)
 (.ite (decide ((b.length + 1) ≤ lim)) (.ite (decide (((b ++ [(b8 (wu8 (s.length : Int)))]).length + s.length) ≤ lim)) (.ret ((b ++ [(b8 (wu8 (s.length : Int)))]) ++ s)) .fail) .fail)
def bits_Text_2 := fun b s => (bits_Text_2_t b s).get
def crc_Sum_s0t (t6 : List UInt8) (t7 : Int) (t8 : Int) (v_ : Int × Int) : Tree ((Int × Int) ⊕ Int) :=
 .ite (decide (v_.2 < 8)) (.ite ((band .u16 v_.1 1) == 1) (.ret (.inl ((bxor .u16 (shrI .u16 v_.1 1) 40961), (wi64 (v_.2 + 1)))))
 (.ret (.inl ((shrI .u16 v_.1 1), (wi64 (v_.2 + 1))))))
 (.ret (.inr v_.1))
def crc_Sum_s0 := fun t6 t7 t8 v_ => (crc_Sum_s0t t6 t7 t8 v_).get
def crc_Sum_l0 := fun t6 t7 t8 c t16 => iter (crc_Sum_s0 t6 t7 t8) n_ (c, t16)
def crc_Sum_s1t (t6 : List UInt8) (t7 : Int) (v_ : Int × Int) : Tree ((Int × Int) ⊕ Int) :=
 .ite (decide (v_.2 < t7)) (.ite (inR v_.2 t6.length) (.opt (t6[v_.2.toNat]?) fun y_1 =>
  .opt (crc_Sum_l0 n_ t6 t7 v_.2 (bxor .u16 v_.1 (wu16 (i8 y_1))) 0) fun r_2 =>
  .ret (.inl (r_2, (wi64 (v_.2 + 1))))) .fail)
 (.ret (.inr v_.1))
def crc_Sum_s1 := fun t6 t7 v_ => (crc_Sum_s1t n_ t6 t7 v_).get
def crc_Sum_l1 := fun t6 t7 c t8 => iter (crc_Sum_s1 n_ t6 t7) n_ (c, t8)
def crc_Sum_t (b : List UInt8) : Tree Int :=
 .opt (crc_Sum_l1 n_ b (b.length : Int) 0 0) fun r_1 =>
 .ret r_1
def crc_Sum := fun b => (crc_Sum_t n_ b).get
def msg_sealed_t (b : List UInt8) : Tree (List UInt8) :=
 .opt (crc_Sum n_ b) fun r_1 =>
 .opt (bits_Put_2 n_ b (wi64 r_1) 2) fun r_2 =>
 .ret r_2
def msg_sealed := fun b => (msg_sealed_t n_ b).get
def msg_PutTell_t (t : TTell) : Tree (List UInt8) :=
 .ite (!(msg_MayTell t)) (.ret ([]))
 (.opt (bits_Put_2 n_ [] t.Kind 1) fun r_1 =>
 .opt (bits_Put_2 n_ r_1 t.To 1) fun r_2 =>
 .opt (bits_Put_2 n_ r_2 t.Epoch 4) fun r_3 =>
 .opt (bits_Put_2 n_ r_3 t.Seq 4) fun r_4 =>
 .opt (bits_Put_2 n_ r_4 t.Err 1) fun r_5 =>
 .opt (bits_Put_2 n_ r_5 t.File 1) fun r_6 =>
 .opt (bits_Put_2 n_ r_6 t.Mode 1) fun r_7 =>
 .opt (bits_Put_2 n_ r_7 t.Ver 4) fun r_8 =>
 .opt (bits_Text_2 r_8 t.Body) fun r_9 =>
 .opt (msg_sealed n_ r_9) fun r_10 =>
 .ret r_10)
def msg_PutTell := fun t => (msg_PutTell_t n_ t).get
def net_Send_t (l : List TGram) (g : TGram) : Tree (List TGram) :=
 .ite (decide ((l.length : Int) ≥ 40)) (.ret l)
 (.ite (decide ((l.length + 1) ≤ lim)) (.ret (l ++ [g])) .fail)
def net_Send := fun l g => (net_Send_t l g).get
def world_host_sends_t (to_ : Int) (b : List UInt8) (h : Tworld_host) : Tree (Unit ⊕ (Tworld_host × List TGram)) :=
 .ite (decide ((b.length : Int) > 0)) (.opt (net_Send h.World.Fly (TGram.mk to_ b false)) fun r_1 =>
 .ret (.inr ({ h with World := { h.World with Fly := r_1 } }, h.World.Fly)))
 (.ret (.inl ()))
def world_host_sends_2_t (to_ : Int) (b : List UInt8) (h : Tworld_host) : Tree Tworld_host :=
 .ite (decide ((b.length : Int) > 0)) (.opt (net_Send h.World.Fly (TGram.mk to_ b false)) fun r_1 =>
 .ret ({ h with World := { h.World with Fly := r_1 } }))
 (.ret h)
def world_host_sends_2 := fun to_ b h => (world_host_sends_2_t to_ b h).get
def world_host_tells_s0t (t6 : List TTell) (t7 : Int) (r2 : List TGram) (v_ : Int × Tworld_host) : Tree ((Int × Tworld_host) ⊕ Tworld_host) :=
 .ite (decide (v_.1 < t7)) (.ite (inR v_.1 t6.length) (.opt (t6[v_.1.toNat]?) fun y_1 =>
  .opt (msg_PutTell n_ y_1) fun r_2 =>
  .opt (world_host_sends_2 y_1.To r_2 v_.2) fun r_3 =>
  .ret (.inl ((wi64 (v_.1 + 1)), r_3))) .fail)
 (.ret (.inr v_.2))
def world_host_tells_s0 := fun t6 t7 r2 v_ => (world_host_tells_s0t n_ t6 t7 r2 v_).get
def world_host_tells_l0 := fun t6 t7 r2 t8 h => iter (world_host_tells_s0 n_ t6 t7 r2) n_ (t8, h)
def world_host_tells_t (l : List TTell) (h : Tworld_host) : Tree (Tworld_host × List TGram) :=
 .opt (world_host_tells_l0 n_ l (l.length : Int) h.World.Fly 0 h) fun r_1 =>
 .ret (r_1, h.World.Fly)
def world_host_tells := fun l h => (world_host_tells_t n_ l h).get
def world_host_client_t (r : Int) (h : Tworld_host) : Tree (Nat ⊕ Tworld_refused) :=
 .ite (decide (r < 1)) (.opt (world_no true 1) fun r_1 =>
 altT r_1 (fun a_2 =>
  .ite (inR (wi64 (r - 1)) h.World.Clients.length) (.ret (.inl ((wi64 (r - 1)).toNat))) .fail) fun b_3 =>
 .ret (.inr b_3))
 (.opt (world_no (decide (r > (h.World.Clients.length : Int))) 1) fun r_4 =>
 altT r_4 (fun a_5 =>
 .ite (inR (wi64 (r - 1)) h.World.Clients.length) (.ret (.inl ((wi64 (r - 1)).toNat))) .fail) fun b_6 =>
 .ret (.inr b_6))
def world_host_client := fun r h => (world_host_client_t r h).get
def client_twin (a : TAsk) : Unit := ()
def cache_twin (c : TCache) : Unit := ()
def cache_Valid_t (c : TCache) (now : Int) : TT Int :=
 .ite (decide (now ≥ c.Until)) (.ret 0)
 (.ret c.Mode)
def cache_Valid := fun c now => (cache_Valid_t c now).val
def cache_Reset_t (c : TCache) : TT TCache :=
 .ite c.Lost (.ret (TCache.mk 0 0 0 [] [] 0 false true))
 (.ret (TCache.mk 0 0 0 [] [] 0 false (decide ((c.Dirty.length : Int) > 0))))
def cache_Reset := fun c => (cache_Reset_t c).val
def cache_Lapse_t (c : TCache) (now : Int) : TT TCache :=
 .ite (c.Mode == 0) (.ret c)
 (.ite ((cache_Valid c now) != 0) (.ret c)
 (.ret (cache_Reset c)))
def cache_Lapse := fun c now => (cache_Lapse_t c now).val
def client_of_s0t (t37 : Int) (c : TClient) (v_ : Int × Tclient_work) : Tree ((Int × Tclient_work) ⊕ Tclient_work) :=
 .ite (decide (v_.1 < t37)) (.ite (inR v_.1 v_.2.Client.Files.length) (.opt (v_.2.Client.Files[v_.1.toNat]?) fun y_1 =>
  .ite (inR v_.1 v_.2.Client.Files.length) (.opt (v_.2.Client.Files[v_.1.toNat]?) fun y_2 =>
  .ret (.inl ((wi64 (v_.1 + 1)), (Tclient_work.mk { v_.2.Client with Files := (v_.2.Client.Files.set v_.1.toNat (cache_Lapse y_1 c.Now)) } [])))) .fail) .fail)
 (.ret (.inr ({ v_.2 with asked := [] })))
def client_of_s0 := fun t37 c v_ => (client_of_s0t t37 c v_).get
def client_of_l0 := fun t37 c t38 w => iter (client_of_s0 t37 c) n_ (t38, w)
def client_of_t (c : TClient) : Tree Tclient_work :=
 .opt (client_of_l0 n_ (c.Files.length : Int) c 0 (Tclient_work.mk c [])) fun r_1 =>
 .ret ({ r_1 with asked := [] })
def client_of := fun c => (client_of_t n_ c).get
def sess_Due_t (o : TOut) (now : Int) : TT Bool :=
 .ite o.Is (.ret (decide ((wi64 (now - o.Last)) ≥ 10)))
 (.ret false)
def sess_Due := fun o now => (sess_Due_t o now).val
def client_work_again (w : Tclient_work) : Tclient_work := (Tclient_work.mk { w.Client with Out := { w.Client.Out with Last := w.Client.Now } } [w.Client.Out.Ask])
def client_Run_c1_t (f : TCache) (o1 : Tclient_work) : TT Bool :=
 .ite (f.Mode != 0) (.ite f.Called (.ret true)
 (.ite (decide ((f.Dirty.length : Int) > 0)) (.ret (decide (o1.Client.Now ≥ (wi64 (f.Until - 15)))))
 (.ret false)))
 (.ret false)
def client_Run_c1 := fun f o1 => (client_Run_c1_t f o1).val
def slices_IndexFunc_Cache_s0t (s : List TCache) (t7 : Int) (v_ : Int × Tclient_work) : Tree ((Int × Tclient_work) ⊕ ((Int × Tclient_work) ⊕ Tclient_work)) :=
 .ite (decide (v_.1 < t7)) (.ite (inR v_.1 s.length) (.opt (s[v_.1.toNat]?) fun y_1 =>
  .ite (client_Run_c1 y_1 { v_.2 with asked := [] }) (.ret (.inr (.inl (v_.1, { v_.2 with asked := [] }))))
  (.ret (.inl ((wi64 (v_.1 + 1)), { v_.2 with asked := [] })))) .fail)
 (.ret (.inr (.inr ({ v_.2 with asked := [] }))))
def slices_IndexFunc_Cache_s0 := fun s t7 v_ => (slices_IndexFunc_Cache_s0t s t7 v_).get
def slices_IndexFunc_Cache_l0 := fun s t7 t8 o1 => iter (slices_IndexFunc_Cache_s0 s t7) n_ (t8, o1)
def slices_IndexFunc_Cache_t (s : List TCache) (o1 : Tclient_work) : Tree (Int × Tclient_work) :=
 .opt (slices_IndexFunc_Cache_l0 n_ s (s.length : Int) 0 { o1 with asked := [] }) fun r_1 =>
 altT r_1 (fun a_2 =>
 .ret (a_2.1, { a_2.2 with asked := [] })) fun b_3 =>
 .ret ((-1), { b_3 with asked := [] })
def slices_IndexFunc_Cache := fun s o1 => (slices_IndexFunc_Cache_t n_ s o1).get
def client_work_file_t (n : Int) (w : Tclient_work) : Tree (Nat ⊕ Unit) :=
 .ite (decide (n < 1)) (.ret (.inr ()))
 (.ite (decide (n > (w.Client.Files.length : Int))) (.ret (.inr ()))
 (.ite (inR (wi64 (n - 1)) w.Client.Files.length) (.ret (.inl ((wi64 (n - 1)).toNat))) .fail))
def client_work_file := fun n w => (client_work_file_t n w).get
def client_work_again_2 (w : Tclient_work) : Tclient_work := (Tclient_work.mk { w.Client with Out := { w.Client.Out with Last := w.Client.Now } } [w.Client.Out.Ask])
def client_work_asks (a : TAsk) (w : Tclient_work) : Tclient_work := (client_work_again_2 (Tclient_work.mk { w.Client with Seq := (wi64 (w.Client.Seq + 1)), Out := (TOut.mk true { a with From := w.Client.ID, Epoch := w.Client.Epoch, Seq := (wi64 (w.Client.Seq + 1)) } w.Client.Now 0), Asks := (wi64 (w.Client.Asks + 1)) } []))
def client_work_asks_2 (a : TAsk) (w : Tclient_work) : Tclient_work := (client_work_again (Tclient_work.mk { w.Client with Seq := (wi64 (w.Client.Seq + 1)), Out := (TOut.mk true { a with From := w.Client.ID, Epoch := w.Client.Epoch, Seq := (wi64 (w.Client.Seq + 1)) } w.Client.Now 0), Asks := (wi64 (w.Client.Asks + 1)) } []))
def client_work_gives_t (n : Int) (w : Tclient_work) : Tree (Tclient_work ⊕ Tclient_work) :=
 .opt (client_work_file n { w with asked := [] }) fun r_1 =>
 altT r_1 (fun a_2 =>
 .opt (w.Client.Files[a_2]?) fun y_3 =>
 .opt ((client_work_asks (TAsk.mk 4 0 0 0 [] n 0 y_3.Dirty) { w with asked := [] }).Client.Files[a_2]?) fun y_4 =>
 .opt ((client_work_asks (TAsk.mk 4 0 0 0 [] n 0 y_3.Dirty) { w with asked := [] }).Client.Files[a_2]?) fun y_5 =>
 .opt ((client_work_asks (TAsk.mk 4 0 0 0 [] n 0 y_3.Dirty) { w with asked := [] }).Client.Files[a_2]?) fun y_6 =>
 .opt (((client_work_asks (TAsk.mk 4 0 0 0 [] n 0 y_3.Dirty) { w with asked := [] }).Client.Files.set a_2 (cache_Reset y_5))[a_2]?) fun y_7 =>
 .ret (.inl ({ (client_work_asks (TAsk.mk 4 0 0 0 [] n 0 y_3.Dirty) { w with asked := [] }) with Client := { (client_work_asks (TAsk.mk 4 0 0 0 [] n 0 y_3.Dirty) { w with asked := [] }).Client with Files := (((client_work_asks (TAsk.mk 4 0 0 0 [] n 0 y_3.Dirty) { w with asked := [] }).Client.Files.set a_2 (cache_Reset y_5)).set a_2 { y_7 with Lost := y_4.Lost }) } }))) fun b_8 =>
 .ret (.inr (client_work_asks_2 (TAsk.mk 4 0 0 0 [] n 0 []) { w with asked := [] }))
def client_work_gives := fun n w => (client_work_gives_t n w).get
def client_Run_t (c : TClient) : Tree (TClient × List TAsk) :=
 .opt (client_of n_ c) fun r_1 =>
 .ite r_1.Client.Out.Is (.ite (sess_Due r_1.Client.Out r_1.Client.Now) (.ret ((client_work_again { r_1 with asked := [] }).Client, (client_work_again { r_1 with asked := [] }).asked))
 (.ret (r_1.Client, [])))
 (.opt (slices_IndexFunc_Cache n_ r_1.Client.Files { r_1 with asked := [] }) fun r_2 =>
 .ite (decide (r_2.1 ≥ 0)) (.opt (client_work_gives (wi64 (r_2.1 + 1)) { r_1 with asked := [] }) fun r_3 =>
 altT r_3 (fun a_4 =>
  .ret (a_4.Client, a_4.asked)) fun b_5 =>
 .ret (b_5.Client, b_5.asked))
 (.ret (r_1.Client, [])))
def client_Run := fun c => (client_Run_t n_ c).get
def file_May_t (w : TWrite) : TT Bool :=
 .ite (decide (w.Off ≥ 0)) (.ite (decide ((w.B.length : Int) ≥ 1)) (.ite (decide ((w.B.length : Int) ≤ 24)) (.ret (decide (w.Off ≤ (wi64 (24 - (w.B.length : Int))))))
  (.ret false))
 (.ret false))
 (.ret false)
def file_May := fun w => (file_May_t w).val
def msg_wants_c1 (w : TWrite) : Bool := (!(file_May w))
def slices_IndexFunc_Write_s0t (s : List TWrite) (t7 : Int) (v_ : Int) : Tree (Int ⊕ (Int ⊕ Unit)) :=
 .ite (decide (v_ < t7)) (.ite (inR v_ s.length) (.opt (s[v_.toNat]?) fun y_1 =>
  .ite (msg_wants_c1 y_1) (.ret (.inr (.inl v_)))
  (.ret (.inl (wi64 (v_ + 1))))) .fail)
 (.ret (.inr (.inr ())))
def slices_IndexFunc_Write_s0 := fun s t7 v_ => (slices_IndexFunc_Write_s0t s t7 v_).get
def slices_IndexFunc_Write_l0 := fun s t7 t8 => iter (slices_IndexFunc_Write_s0 s t7) n_ t8
def slices_IndexFunc_Write_t (s : List TWrite) : Tree Int :=
 .opt (slices_IndexFunc_Write_l0 n_ s (s.length : Int) 0) fun r_1 =>
 altT r_1 (fun a_2 =>
 .ret a_2) fun b_3 =>
 .ret (-1)
def slices_IndexFunc_Write := fun s => (slices_IndexFunc_Write_t n_ s).get
def slices_ContainsFunc_Write_t (s : List TWrite) : Tree Bool :=
 .opt (slices_IndexFunc_Write n_ s) fun r_1 =>
 .ret (decide (r_1 ≥ 0))
def slices_ContainsFunc_Write := fun s => (slices_ContainsFunc_Write_t n_ s).get
def msg_wants_t (a : TAsk) : Tree (TAsk × Bool) :=
 .ite (a.Kind == 1) (.opt (dir_May n_ a.Name) fun r_1 =>
 .ret ({ a with File := 0, Mode := 0, Writes := [] }, r_1))
 (.ite (a.Kind == 2) (.ite (msg_from 1 6 a.File) (.ret ({ a with Name := [], Writes := [] }, (msg_from 1 2 a.Mode)))
 (.ret ({ a with Name := [], Writes := [] }, false)))
 (.ite (a.Kind == 3) (.ite (decide ((a.Writes.length : Int) ≤ 5)) (.ite (decide ((a.Writes.length : Int) > 0)) (.ite (msg_from 1 6 a.File) (.opt (slices_ContainsFunc_Write n_ a.Writes) fun r_2 =>
   .ret ({ a with Name := [], Mode := 0 }, (!r_2)))
  (.ret ({ a with Name := [], Mode := 0 }, false)))
  (.ite (msg_from 1 6 a.File) (.ite (a.Kind == 4) (.opt (slices_ContainsFunc_Write n_ a.Writes) fun r_3 =>
   .ret ({ a with Name := [], Mode := 0 }, (!r_3)))
  (.ret ({ a with Name := [], Mode := 0 }, false)))
  (.ret ({ a with Name := [], Mode := 0 }, false))))
 (.ite (msg_from 1 6 a.File) (.ret ({ a with Name := [], Mode := 0 }, false))
 (.ret ({ a with Name := [], Mode := 0 }, false))))
 (.ite (a.Kind == 4) (.ite (decide ((a.Writes.length : Int) ≤ 5)) (.ite (decide ((a.Writes.length : Int) > 0)) (.ite (msg_from 1 6 a.File) (.opt (slices_ContainsFunc_Write n_ a.Writes) fun r_4 =>
   .ret ({ a with Name := [], Mode := 0 }, (!r_4)))
  (.ret ({ a with Name := [], Mode := 0 }, false)))
  (.ite (msg_from 1 6 a.File) (.ite (a.Kind == 4) (.opt (slices_ContainsFunc_Write n_ a.Writes) fun r_5 =>
   .ret ({ a with Name := [], Mode := 0 }, (!r_5)))
  (.ret ({ a with Name := [], Mode := 0 }, false)))
  (.ret ({ a with Name := [], Mode := 0 }, false))))
 (.ite (msg_from 1 6 a.File) (.ret ({ a with Name := [], Mode := 0 }, false))
 (.ret ({ a with Name := [], Mode := 0 }, false))))
 (.ret ({ a with Name := [], Mode := 0, Writes := [] }, (msg_from 1 6 a.File))))))
def msg_wants := fun a => (msg_wants_t n_ a).get
def slices_Equal_Write_s0t (s1 : List TWrite) (s2 : List TWrite) (t12 : Int) (v_ : Int) : Tree (Int ⊕ (Unit ⊕ Unit)) :=
 .ite (decide (v_ < t12)) (.ite (inR v_ s1.length) (.opt (s1[v_.toNat]?) fun y_1 =>
  .ite (inR v_ s2.length) (.opt (s2[v_.toNat]?) fun y_2 =>
  .ite (!(TWrite.eqb y_1 y_2)) (.ret (.inr (.inl ())))
  (.ret (.inl (wi64 (v_ + 1))))) .fail) .fail)
 (.ret (.inr (.inr ())))
def slices_Equal_Write_s0 := fun s1 s2 t12 v_ => (slices_Equal_Write_s0t s1 s2 t12 v_).get
def slices_Equal_Write_l0 := fun s1 s2 t12 t13 => iter (slices_Equal_Write_s0 s1 s2 t12) n_ t13
def slices_Equal_Write_t (s1 : List TWrite) (s2 : List TWrite) : Tree Bool :=
 .ite ((s1.length : Int) != (s2.length : Int)) (.ret false)
 (.opt (slices_Equal_Write_l0 n_ s1 s2 (s1.length : Int) 0) fun r_1 =>
 altT r_1 (fun a_2 =>
 .ret false) fun b_3 =>
 .ret true)
def slices_Equal_Write := fun s1 s2 => (slices_Equal_Write_t n_ s1 s2).get
def msg_SameAsk_t (a : TAsk) (b : TAsk) : Tree Bool :=
 .ite (a.Kind == b.Kind) (.ite (a.From == b.From) (.ite (a.Epoch == b.Epoch) (.ite (a.Seq == b.Seq) (.ite (a.Name == b.Name) (.ite (a.File == b.File) (.ite (a.Mode == b.Mode) (.opt (slices_Equal_Write n_ a.Writes b.Writes) fun r_1 =>
    .ret r_1)
    (.ret false))
   (.ret false))
   (.ret false))
  (.ret false))
  (.ret false))
 (.ret false))
 (.ret false)
def msg_SameAsk := fun a b => (msg_SameAsk_t n_ a b).get
def msg_MayAsk_t (a : TAsk) : Tree Bool :=
 .ite (!(msg_from 1 5 a.Kind)) (.ret false)
 (.ite (!(msg_from 1 3 a.From)) (.ret false)
 (.ite (!(msg_from 0 1073741824 a.Epoch)) (.ret false)
 (.ite (!(msg_from 1 1073741824 a.Seq)) (.ret false)
 (.opt (msg_wants n_ a) fun r_1 =>
 .ite r_1.2 (.opt (msg_SameAsk n_ a r_1.1) fun r_2 =>
 .ret r_2)
 (.ret false)))))
def msg_MayAsk := fun a => (msg_MayAsk_t n_ a).get
def msg_PutAsk_s0t (t37 : List TWrite) (t38 : Int) (o0 : TAsk) (v_ : List UInt8 × Int) : Tree ((List UInt8 × Int) ⊕ (List UInt8)) :=
 .ite (decide (v_.2 < t38)) (.ite (inR v_.2 t37.length) (.opt (t37[v_.2.toNat]?) fun y_1 =>
  .opt (bits_Put_2 n_ v_.1 y_1.Off 1) fun r_2 =>
  .opt (bits_Text_2 r_2 y_1.B) fun r_3 =>
  .ret (.inl (r_3, (wi64 (v_.2 + 1))))) .fail)
 (.ret (.inr v_.1))
def msg_PutAsk_s0 := fun t37 t38 o0 v_ => (msg_PutAsk_s0t n_ t37 t38 o0 v_).get
def msg_PutAsk_l0 := fun t37 t38 o0 b t39 => iter (msg_PutAsk_s0 n_ t37 t38 o0) n_ (b, t39)
def msg_PutAsk_t (a : TAsk) : Tree (List UInt8) :=
 .opt (msg_MayAsk n_ a) fun r_1 =>
 .ite (!r_1) (.ret ([]))
 (.opt (bits_Put_2 n_ [] a.Kind 1) fun r_2 =>
 .opt (bits_Put_2 n_ r_2 a.From 1) fun r_3 =>
 .opt (bits_Put_2 n_ r_3 a.Epoch 4) fun r_4 =>
 .opt (bits_Put_2 n_ r_4 a.Seq 4) fun r_5 =>
 .opt (bits_Text_2 r_5 a.Name) fun r_6 =>
 .opt (bits_Put_2 n_ r_6 a.File 1) fun r_7 =>
 .opt (bits_Put_2 n_ r_7 a.Mode 1) fun r_8 =>
 .opt (bits_Put_2 n_ r_8 (a.Writes.length : Int) 1) fun r_9 =>
 .opt (msg_PutAsk_l0 n_ a.Writes (a.Writes.length : Int) a r_9 0) fun r_10 =>
 .opt (msg_sealed n_ r_10) fun r_11 =>
 .ret r_11)
def msg_PutAsk := fun a => (msg_PutAsk_t n_ a).get
def world_host_sends_3_t (to_ : Int) (b : List UInt8) (h : Tworld_host) : Tree (Unit ⊕ (Tworld_host × List TGram)) :=
 .ite (decide ((b.length : Int) > 0)) (.opt (net_Send h.World.Fly (TGram.mk to_ b false)) fun r_1 =>
 .ret (.inr ({ h with World := { h.World with Fly := r_1 } }, h.World.Fly)))
 (.ret (.inl ()))
def world_host_sends_4_t (to_ : Int) (b : List UInt8) (h : Tworld_host) : Tree Tworld_host :=
 .ite (decide ((b.length : Int) > 0)) (.opt (net_Send h.World.Fly (TGram.mk to_ b false)) fun r_1 =>
 .ret ({ h with World := { h.World with Fly := r_1 } }))
 (.ret h)
def world_host_sends_4 := fun to_ b h => (world_host_sends_4_t to_ b h).get
def world_host_asks_s0t (t6 : List TAsk) (t7 : Int) (r2 : List TGram) (v_ : Int × Tworld_host) : Tree ((Int × Tworld_host) ⊕ Tworld_host) :=
 .ite (decide (v_.1 < t7)) (.ite (inR v_.1 t6.length) (.opt (t6[v_.1.toNat]?) fun y_1 =>
  .opt (msg_PutAsk n_ y_1) fun r_2 =>
  .opt (world_host_sends_4 0 r_2 v_.2) fun r_3 =>
  .ret (.inl ((wi64 (v_.1 + 1)), r_3))) .fail)
 (.ret (.inr v_.2))
def world_host_asks_s0 := fun t6 t7 r2 v_ => (world_host_asks_s0t n_ t6 t7 r2 v_).get
def world_host_asks_l0 := fun t6 t7 r2 t8 h => iter (world_host_asks_s0 n_ t6 t7 r2) n_ (t8, h)
def world_host_asks_t (l : List TAsk) (h : Tworld_host) : Tree (Tworld_host × List TGram) :=
 .opt (world_host_asks_l0 n_ l (l.length : Int) h.World.Fly 0 h) fun r_1 =>
 .ret (r_1, h.World.Fly)
def world_host_asks := fun l h => (world_host_asks_t n_ l h).get
def world_host_runs_t (r : Int) (h : Tworld_host) : Tree ((Tworld_host × List TGram) ⊕ Tworld_refused) :=
 .ite (r == 0) (.opt (world_no (!h.World.S.Live) 8) fun r_1 =>
 altT r_1 (fun a_2 =>
  .opt (server_Run n_ h.World.S) fun r_3 =>
  .opt (world_host_tells n_ r_3.2 { h with World := { h.World with S := r_3.1 } }) fun r_4 =>
  .ret (.inl (r_4.1, r_4.2))) fun b_5 =>
 .ret (.inr b_5))
 (.opt (world_host_client r h) fun r_6 =>
 altT r_6 (fun a_7 =>
 .opt (h.World.Clients[a_7]?) fun y_8 =>
 .opt (client_Run n_ y_8) fun r_9 =>
 .opt (h.World.Clients[a_7]?) fun y_10 =>
 .opt (world_host_asks n_ r_9.2 { h with World := { h.World with Clients := (h.World.Clients.set a_7 r_9.1) } }) fun r_11 =>
 .ret (.inl (r_11.1, r_11.2))) fun b_12 =>
 .ret (.inr b_12))
def world_host_runs := fun r h => (world_host_runs_t n_ r h).get
def client_work_says (e : Int) (w : Tclient_work) : Tclient_told := (Tclient_told.mk (TAns.mk e 0 []))
def slices_Index_string_s0t (s : List (List UInt8)) (v : List UInt8) (t7 : Int) (v_ : Int) : Tree (Int ⊕ (Int ⊕ Unit)) :=
 .ite (decide (v_ < t7)) (.ite (inR v_ s.length) (.opt (s[v_.toNat]?) fun y_1 =>
  .ite (v == y_1) (.ret (.inr (.inl v_)))
  (.ret (.inl (wi64 (v_ + 1))))) .fail)
 (.ret (.inr (.inr ())))
def slices_Index_string_s0 := fun s v t7 v_ => (slices_Index_string_s0t s v t7 v_).get
def slices_Index_string_l0 := fun s v t7 t8 => iter (slices_Index_string_s0 s v t7) n_ t8
def slices_Index_string_t (s : List (List UInt8)) (v : List UInt8) : Tree Int :=
 .opt (slices_Index_string_l0 n_ s v (s.length : Int) 0) fun r_1 =>
 altT r_1 (fun a_2 =>
 .ret a_2) fun b_3 =>
 .ret (-1)
def slices_Index_string := fun s v => (slices_Index_string_t n_ s v).get
def client_work_free_t (w : Tclient_work) : Tree (Unit ⊕ Tclient_told) :=
 .ite w.Client.Out.Is (.ret (.inr (client_work_says 4 { w with asked := [] })))
 (.ret (.inl ()))
def client_work_free := fun w => (client_work_free_t w).get
def client_work_opens_t (name : List UInt8) (w : Tclient_work) : Tree (Tclient_work ⊕ (Tclient_told × Tclient_work)) :=
 .opt (dir_May n_ name) fun r_1 =>
 .ite (!r_1) (.ret (.inr ((client_work_says 1 { w with asked := [] }), { w with asked := [] })))
 (.opt (slices_Index_string n_ w.Client.Names name) fun r_2 =>
 .ite (decide (r_2 ≥ 0)) (.ret (.inr ((Tclient_told.mk (TAns.mk 0 (wi64 (r_2 + 1)) [])), { w with asked := [] })))
 (.opt (client_work_free { w with asked := [] }) fun r_3 =>
 altT r_3 (fun a_4 =>
 .ret (.inl (client_work_asks_2 (TAsk.mk 1 0 0 0 name 0 0 []) { w with asked := [] }))) fun b_5 =>
 .ret (.inr (b_5, { w with asked := [] }))))
def client_work_opens := fun name w => (client_work_opens_t n_ name w).get
def client_work_says_2 (e : Int) (w : Tclient_work) : Tclient_told := (Tclient_told.mk (TAns.mk e 0 []))
def client_work_file_2_t (n : Int) (w : Tclient_work) : Tree (Nat ⊕ Unit) :=
 .ite (decide (n < 1)) (.ret (.inr ()))
 (.ite (decide (n > (w.Client.Files.length : Int))) (.ret (.inr ()))
 (.ite (inR (wi64 (n - 1)) w.Client.Files.length) (.ret (.inl ((wi64 (n - 1)).toNat))) .fail))
def client_work_file_2 := fun n w => (client_work_file_2_t n w).get
def file_Put_t (body : List UInt8) (w : TWrite) : Tree (List UInt8) :=
 .ite (!(file_May w)) (.ret body)
 (.ite (decide ((wi64 (w.Off - (body.length : Int))) > 0)) (.ite (repOk ([0] : List UInt8) (wi64 (w.Off - (body.length : Int)))) (.ite (decide ((body.length + (repL ([0] : List UInt8) (wi64 (w.Off - (body.length : Int)))).length) ≤ lim)) (.ite (cutOk 0 w.Off (body ++ (repL ([0] : List UInt8) (wi64 (w.Off - (body.length : Int))))).length) (.ite (decide (((cutL (body ++ (repL ([0] : List UInt8) (wi64 (w.Off - (body.length : Int))))) 0 w.Off).length + w.B.length) ≤ lim)) (.ite (cutOk (imin (wi64 (w.Off + (w.B.length : Int))) ((body ++ (repL ([0] : List UInt8) (wi64 (w.Off - (body.length : Int))))).length : Int)) ((body ++ (repL ([0] : List UInt8) (wi64 (w.Off - (body.length : Int))))).length : Int) (body ++ (repL ([0] : List UInt8) (wi64 (w.Off - (body.length : Int))))).length) (.ite (decide ((((cutL (body ++ (repL ([0] : List UInt8) (wi64 (w.Off - (body.length : Int))))) 0 w.Off) ++ w.B).length + (cutL (body ++ (repL ([0] : List UInt8) (wi64 (w.Off - (body.length : Int))))) (imin (wi64 (w.Off + (w.B.length : Int))) ((body ++ (repL ([0] : List UInt8) (wi64 (w.Off - (body.length : Int))))).length : Int)) ((body ++ (repL ([0] : List UInt8) (wi64 (w.Off - (body.length : Int))))).length : Int)).length) ≤ lim)) (.ret (((cutL (body ++ (repL ([0] : List UInt8) (wi64 (w.Off - (body.length : Int))))) 0 w.Off) ++ w.B) ++ (cutL (body ++ (repL ([0] : List UInt8) (wi64 (w.Off - (body.length : Int))))) (imin (wi64 (w.Off + (w.B.length : Int))) ((body ++ (repL ([0] : List UInt8) (wi64 (w.Off - (body.length : Int))))).length : Int)) ((body ++ (repL ([0] : List UInt8) (wi64 (w.Off - (body.length : Int))))).length : Int)))) .fail) .fail) .fail) .fail) .fail) .fail)
 (.ite (cutOk 0 w.Off body.length) (.ite (decide (((cutL body 0 w.Off).length + w.B.length) ≤ lim)) (.ite (cutOk (imin (wi64 (w.Off + (w.B.length : Int))) (body.length : Int)) (body.length : Int) body.length) (.ite (decide ((((cutL body 0 w.Off) ++ w.B).length + (cutL body (imin (wi64 (w.Off + (w.B.length : Int))) (body.length : Int)) (body.length : Int)).length) ≤ lim)) (.ret (((cutL body 0 w.Off) ++ w.B) ++ (cutL body (imin (wi64 (w.Off + (w.B.length : Int))) (body.length : Int)) (body.length : Int)))) .fail) .fail) .fail) .fail))
def file_Put := fun body w => (file_Put_t body w).get
def file_All_s0t (t7 : List TWrite) (t8 : Int) (v_ : List UInt8 × Int) : Tree ((List UInt8 × Int) ⊕ (List UInt8)) :=
 .ite (decide (v_.2 < t8)) (.ite (inR v_.2 t7.length) (.opt (t7[v_.2.toNat]?) fun y_1 =>
  .opt (file_Put v_.1 y_1) fun r_2 =>
  .ret (.inl (r_2, (wi64 (v_.2 + 1))))) .fail)
 (.ret (.inr v_.1))
def file_All_s0 := fun t7 t8 v_ => (file_All_s0t t7 t8 v_).get
def file_All_l0 := fun t7 t8 body t9 => iter (file_All_s0 t7 t8) n_ (body, t9)
def file_All_t (body : List UInt8) (l : List TWrite) : Tree (List UInt8) :=
 .opt (file_All_l0 n_ l (l.length : Int) body 0) fun r_1 =>
 .ret r_1
def file_All := fun body l => (file_All_t n_ body l).get
def cache_View_t (c : TCache) : Tree (List UInt8) :=
 .opt (file_All n_ c.Body c.Dirty) fun r_1 =>
 .ret r_1
def cache_View := fun c => (cache_View_t n_ c).get
def client_work_free_2_t (w : Tclient_work) : Tree (Unit ⊕ Tclient_told) :=
 .ite w.Client.Out.Is (.ret (.inr (client_work_says_2 4 { w with asked := [] })))
 (.ret (.inl ()))
def client_work_free_2 := fun w => (client_work_free_2_t w).get
def client_work_reads_t (n : Int) (w : Tclient_work) : Tree (Tclient_work ⊕ (Tclient_work ⊕ ((Tclient_told × Tclient_work) ⊕ (Tclient_told × Tclient_work)))) :=
 .opt (client_work_file_2 n { w with asked := [] }) fun r_1 =>
 altT r_1 (fun a_2 =>
 .opt (w.Client.Files[a_2]?) fun y_3 =>
 .ite ((cache_Valid y_3 w.Client.Now) != 0) (.opt (w.Client.Files[a_2]?) fun y_4 =>
  .opt (cache_View n_ y_4) fun r_5 =>
  .ret (.inr (.inr (.inl ((Tclient_told.mk (TAns.mk 0 0 r_5)), (Tclient_work.mk { w.Client with Hits := (wi64 (w.Client.Hits + 1)) } []))))))
 (.opt (client_work_free_2 { w with asked := [] }) fun r_6 =>
 altT r_6 (fun a_7 =>
  .ret (.inl (client_work_asks (TAsk.mk 2 0 0 0 [] n 1 []) { w with asked := [] }))) fun b_8 =>
 .ret (.inr (.inr (.inl (b_8, { w with asked := [] })))))) fun b_9 =>
 .ite ((cache_Valid (TCache.mk 0 0 0 [] [] 0 false false) w.Client.Now) != 0) (.opt (cache_View n_ (TCache.mk 0 0 0 [] [] 0 false false)) fun r_10 =>
 .ret (.inr (.inr (.inr ((Tclient_told.mk (TAns.mk 0 0 r_10)), (Tclient_work.mk { w.Client with Hits := (wi64 (w.Client.Hits + 1)) } []))))))
 (.opt (client_work_free_2 { w with asked := [] }) fun r_11 =>
 altT r_11 (fun a_12 =>
 .ret (.inr (.inl (client_work_asks (TAsk.mk 2 0 0 0 [] n 1 []) { w with asked := [] })))) fun b_13 =>
 .ret (.inr (.inr (.inr (b_13, { w with asked := [] })))))
def client_work_reads := fun n w => (client_work_reads_t n_ n w).get
def cache_twin_2 (c : TCache) : Unit := ()
def cache_Buffer_t (c : TCache) (w : TWrite) : Tree (TCache × Bool) :=
 .ite (decide ((c.Dirty.length : Int) ≥ 5)) (.ret (c, false))
 (.ite (c.Mode != 2) (.ret (c, false))
 (.ite (!(file_May w)) (.ret (c, false))
 (.ite (decide ((c.Dirty.length + 1) ≤ lim)) (.ret ({ c with Dirty := (c.Dirty ++ [w]) }, true)) .fail)))
def cache_Buffer := fun c w => (cache_Buffer_t c w).get
def client_work_gives_2_t (n : Int) (w : Tclient_work) : Tree (Tclient_work ⊕ Tclient_work) :=
 .opt (client_work_file_2 n { w with asked := [] }) fun r_1 =>
 altT r_1 (fun a_2 =>
 .opt (w.Client.Files[a_2]?) fun y_3 =>
 .opt ((client_work_asks (TAsk.mk 4 0 0 0 [] n 0 y_3.Dirty) { w with asked := [] }).Client.Files[a_2]?) fun y_4 =>
 .opt ((client_work_asks (TAsk.mk 4 0 0 0 [] n 0 y_3.Dirty) { w with asked := [] }).Client.Files[a_2]?) fun y_5 =>
 .opt ((client_work_asks (TAsk.mk 4 0 0 0 [] n 0 y_3.Dirty) { w with asked := [] }).Client.Files[a_2]?) fun y_6 =>
 .opt (((client_work_asks (TAsk.mk 4 0 0 0 [] n 0 y_3.Dirty) { w with asked := [] }).Client.Files.set a_2 (cache_Reset y_5))[a_2]?) fun y_7 =>
 .ret (.inl ({ (client_work_asks (TAsk.mk 4 0 0 0 [] n 0 y_3.Dirty) { w with asked := [] }) with Client := { (client_work_asks (TAsk.mk 4 0 0 0 [] n 0 y_3.Dirty) { w with asked := [] }).Client with Files := (((client_work_asks (TAsk.mk 4 0 0 0 [] n 0 y_3.Dirty) { w with asked := [] }).Client.Files.set a_2 (cache_Reset y_5)).set a_2 { y_7 with Lost := y_4.Lost }) } }))) fun b_8 =>
 .ret (.inr (client_work_asks (TAsk.mk 4 0 0 0 [] n 0 []) { w with asked := [] }))
def client_work_gives_2 := fun n w => (client_work_gives_2_t n w).get
def client_work_flushes_t (n : Int) (w : Tclient_work) : Tree (Tclient_work ⊕ Tclient_work) :=
 .opt (client_work_file_2 n { w with asked := [] }) fun r_1 =>
 altT r_1 (fun a_2 =>
 .opt (w.Client.Files[a_2]?) fun y_3 =>
 .opt (w.Client.Files[a_2]?) fun y_4 =>
 .opt ((w.Client.Files.set a_2 { y_4 with Sent := (y_3.Dirty.length : Int) })[a_2]?) fun y_5 =>
 .ret (.inl (client_work_asks (TAsk.mk 3 0 0 0 [] n 0 y_5.Dirty) (Tclient_work.mk { w.Client with Files := (w.Client.Files.set a_2 { y_4 with Sent := (y_3.Dirty.length : Int) }) } [])))) fun b_6 =>
 .ret (.inr (client_work_asks (TAsk.mk 3 0 0 0 [] n 0 []) { w with asked := [] }))
def client_work_flushes := fun n w => (client_work_flushes_t n w).get
def client_work_writes_t (n : Int) (x : TWrite) (w : Tclient_work) : Tree (Tclient_work ⊕ (Tclient_work ⊕ (Tclient_work ⊕ (Tclient_work ⊕ ((Tclient_told × Tclient_work) ⊕ ((Tclient_told × Tclient_work) ⊕ (Tclient_told × Tclient_work))))))) :=
 .opt (client_work_file_2 n { w with asked := [] }) fun r_1 =>
 altT r_1 (fun a_2 =>
 .opt (w.Client.Files[a_2]?) fun y_3 =>
 .ite ((cache_Valid y_3 w.Client.Now) == 2) (.opt (w.Client.Files[a_2]?) fun y_4 =>
  .ite (!y_4.Called) (.opt (w.Client.Files[a_2]?) fun y_5 =>
  .opt (cache_Buffer y_5 x) fun r_6 =>
  .ite r_6.2 (.opt (w.Client.Files[a_2]?) fun y_7 =>
   .ret (.inr (.inr (.inr (.inr (.inr (.inl ((client_work_says_2 0 (Tclient_work.mk { w.Client with Files := (w.Client.Files.set a_2 r_6.1), Hits := (wi64 (w.Client.Hits + 1)) } [])), (Tclient_work.mk { w.Client with Files := (w.Client.Files.set a_2 r_6.1), Hits := (wi64 (w.Client.Hits + 1)) } [])))))))))
  (.opt (client_work_free_2 { w with asked := [] }) fun r_8 =>
  altT r_8 (fun a_9 =>
   .ite (!((cache_Valid y_3 w.Client.Now) == 2)) (.ret (.inr (.inl (client_work_asks (TAsk.mk 2 0 0 0 [] n 2 []) { w with asked := [] }))))
   (.opt (w.Client.Files[a_2]?) fun y_10 =>
   .ite y_10.Called (.opt (client_work_gives_2 n { w with asked := [] }) fun r_11 =>
   altT r_11 (fun a_12 =>
    .ret (.inr (.inl a_12))) fun b_13 =>
   .ret (.inr (.inr (.inl b_13))))
   (.opt (client_work_flushes n { w with asked := [] }) fun r_14 =>
   altT r_14 (fun a_15 =>
   .ret (.inr (.inl a_15))) fun b_16 =>
   .ret (.inr (.inr (.inl b_16)))))) fun b_17 =>
  .ret (.inr (.inr (.inr (.inr (.inr (.inl (b_17, { w with asked := [] })))))))))
  (.opt (client_work_free_2 { w with asked := [] }) fun r_18 =>
  altT r_18 (fun a_19 =>
  .ite (!((cache_Valid y_3 w.Client.Now) == 2)) (.ret (.inl (client_work_asks (TAsk.mk 2 0 0 0 [] n 2 []) { w with asked := [] })))
  (.opt (w.Client.Files[a_2]?) fun y_20 =>
  .ite y_20.Called (.opt (client_work_gives_2 n { w with asked := [] }) fun r_21 =>
   altT r_21 (fun a_22 =>
   .ret (.inl a_22)) fun b_23 =>
   .ret (.inr (.inl b_23)))
  (.opt (client_work_flushes n { w with asked := [] }) fun r_24 =>
  altT r_24 (fun a_25 =>
   .ret (.inl a_25)) fun b_26 =>
  .ret (.inr (.inl b_26))))) fun b_27 =>
  .ret (.inr (.inr (.inr (.inr (.inl (b_27, { w with asked := [] }))))))))
 (.opt (client_work_free_2 { w with asked := [] }) fun r_28 =>
 altT r_28 (fun a_29 =>
  .ite (!((cache_Valid y_3 w.Client.Now) == 2)) (.ret (.inl (client_work_asks (TAsk.mk 2 0 0 0 [] n 2 []) { w with asked := [] })))
  (.opt (w.Client.Files[a_2]?) fun y_30 =>
  .ite y_30.Called (.opt (client_work_gives_2 n { w with asked := [] }) fun r_31 =>
  altT r_31 (fun a_32 =>
   .ret (.inl a_32)) fun b_33 =>
  .ret (.inr (.inl b_33)))
  (.opt (client_work_flushes n { w with asked := [] }) fun r_34 =>
  altT r_34 (fun a_35 =>
  .ret (.inl a_35)) fun b_36 =>
  .ret (.inr (.inl b_36))))) fun b_37 =>
 .ret (.inr (.inr (.inr (.inr (.inl (b_37, { w with asked := [] })))))))) fun b_38 =>
 .ite ((cache_Valid (TCache.mk 0 0 0 [] [] 0 false false) w.Client.Now) == 2) (.opt (cache_Buffer (TCache.mk 0 0 0 [] [] 0 false false) x) fun r_39 =>
 .ite r_39.2 (.ret (.inr (.inr (.inr (.inr (.inr (.inr ((client_work_says_2 0 (Tclient_work.mk { w.Client with Hits := (wi64 (w.Client.Hits + 1)) } [])), (Tclient_work.mk { w.Client with Hits := (wi64 (w.Client.Hits + 1)) } [])))))))))
 (.opt (client_work_free_2 { w with asked := [] }) fun r_40 =>
 altT r_40 (fun a_41 =>
  .ite (!((cache_Valid (TCache.mk 0 0 0 [] [] 0 false false) w.Client.Now) == 2)) (.ret (.inr (.inr (.inl (client_work_asks (TAsk.mk 2 0 0 0 [] n 2 []) { w with asked := [] })))))
  (.opt (client_work_flushes n { w with asked := [] }) fun r_42 =>
  altT r_42 (fun a_43 =>
  .ret (.inr (.inr (.inl a_43)))) fun b_44 =>
  .ret (.inr (.inr (.inr (.inl b_44)))))) fun b_45 =>
 .ret (.inr (.inr (.inr (.inr (.inr (.inr (b_45, { w with asked := [] })))))))))
 (.opt (client_work_free_2 { w with asked := [] }) fun r_46 =>
 altT r_46 (fun a_47 =>
 .ite (!((cache_Valid (TCache.mk 0 0 0 [] [] 0 false false) w.Client.Now) == 2)) (.ret (.inr (.inl (client_work_asks (TAsk.mk 2 0 0 0 [] n 2 []) { w with asked := [] }))))
 (.opt (client_work_flushes n { w with asked := [] }) fun r_48 =>
 altT r_48 (fun a_49 =>
  .ret (.inr (.inl a_49))) fun b_50 =>
 .ret (.inr (.inr (.inl b_50))))) fun b_51 =>
 .ret (.inr (.inr (.inr (.inr (.inr (.inl (b_51, { w with asked := [] }))))))))
def client_work_writes := fun n x w => (client_work_writes_t n x w).get
def client_work_syncs_t (n : Int) (w : Tclient_work) : Tree (Tclient_work ⊕ (Tclient_work ⊕ ((Tclient_told × Tclient_work) ⊕ (Tclient_told × Tclient_work)))) :=
 .ite w.Client.Out.Is (.ite (w.Client.Out.Ask.Kind == 4) (.ite (w.Client.Out.Ask.File == n) (.ite (decide ((w.Client.Out.Ask.Writes.length : Int) > 0)) (.ret (.inr (.inr (.inl ((client_work_says_2 4 { w with asked := [] }), { w with asked := [] })))))
  (.opt (client_work_file_2 n { w with asked := [] }) fun r_1 =>
  altT r_1 (fun a_2 =>
   .opt (w.Client.Files[a_2]?) fun y_3 =>
   .ite ((y_3.Dirty.length : Int) == 0) (.ret (.inr (.inr (.inl ((client_work_says_2 0 { w with asked := [] }), { w with asked := [] })))))
   (.opt (client_work_free_2 { w with asked := [] }) fun r_4 =>
   altT r_4 (fun a_5 =>
   .opt (client_work_flushes n { w with asked := [] }) fun r_6 =>
   altT r_6 (fun a_7 =>
    .ret (.inl a_7)) fun b_8 =>
   .ret (.inr (.inl b_8))) fun b_9 =>
   .ret (.inr (.inr (.inl (b_9, { w with asked := [] })))))) fun b_10 =>
  .ret (.inr (.inr (.inr ((client_work_says_2 0 { w with asked := [] }), { w with asked := [] }))))))
  (.opt (client_work_file_2 n { w with asked := [] }) fun r_11 =>
  altT r_11 (fun a_12 =>
  .opt (w.Client.Files[a_12]?) fun y_13 =>
  .ite ((y_13.Dirty.length : Int) == 0) (.ret (.inr (.inr (.inl ((client_work_says_2 0 { w with asked := [] }), { w with asked := [] })))))
  (.opt (client_work_free_2 { w with asked := [] }) fun r_14 =>
  altT r_14 (fun a_15 =>
   .opt (client_work_flushes n { w with asked := [] }) fun r_16 =>
   altT r_16 (fun a_17 =>
   .ret (.inl a_17)) fun b_18 =>
   .ret (.inr (.inl b_18))) fun b_19 =>
  .ret (.inr (.inr (.inl (b_19, { w with asked := [] })))))) fun b_20 =>
  .ret (.inr (.inr (.inr ((client_work_says_2 0 { w with asked := [] }), { w with asked := [] }))))))
 (.opt (client_work_file_2 n { w with asked := [] }) fun r_21 =>
 altT r_21 (fun a_22 =>
  .opt (w.Client.Files[a_22]?) fun y_23 =>
  .ite ((y_23.Dirty.length : Int) == 0) (.ret (.inr (.inr (.inl ((client_work_says_2 0 { w with asked := [] }), { w with asked := [] })))))
  (.opt (client_work_free_2 { w with asked := [] }) fun r_24 =>
  altT r_24 (fun a_25 =>
  .opt (client_work_flushes n { w with asked := [] }) fun r_26 =>
  altT r_26 (fun a_27 =>
   .ret (.inl a_27)) fun b_28 =>
  .ret (.inr (.inl b_28))) fun b_29 =>
  .ret (.inr (.inr (.inl (b_29, { w with asked := [] })))))) fun b_30 =>
 .ret (.inr (.inr (.inr ((client_work_says_2 0 { w with asked := [] }), { w with asked := [] }))))))
 (.opt (client_work_file_2 n { w with asked := [] }) fun r_31 =>
 altT r_31 (fun a_32 =>
 .opt (w.Client.Files[a_32]?) fun y_33 =>
 .ite ((y_33.Dirty.length : Int) == 0) (.ret (.inr (.inr (.inl ((client_work_says_2 0 { w with asked := [] }), { w with asked := [] })))))
 (.opt (client_work_free_2 { w with asked := [] }) fun r_34 =>
 altT r_34 (fun a_35 =>
  .opt (client_work_flushes n { w with asked := [] }) fun r_36 =>
  altT r_36 (fun a_37 =>
  .ret (.inl a_37)) fun b_38 =>
  .ret (.inr (.inl b_38))) fun b_39 =>
 .ret (.inr (.inr (.inl (b_39, { w with asked := [] })))))) fun b_40 =>
 .ret (.inr (.inr (.inr ((client_work_says_2 0 { w with asked := [] }), { w with asked := [] })))))
def client_work_syncs := fun n w => (client_work_syncs_t n w).get
def client_work_drops_t (n : Int) (w : Tclient_work) : Tree (Tclient_work ⊕ (Tclient_work ⊕ ((Tclient_told × Tclient_work) ⊕ (Tclient_told × Tclient_work)))) :=
 .opt (client_work_file_2 n { w with asked := [] }) fun r_1 =>
 altT r_1 (fun a_2 =>
 .opt (w.Client.Files[a_2]?) fun y_3 =>
 .ite (y_3.Mode == 0) (.ret (.inr (.inr (.inl ((client_work_says_2 0 { w with asked := [] }), { w with asked := [] })))))
 (.opt (client_work_free_2 { w with asked := [] }) fun r_4 =>
 altT r_4 (fun a_5 =>
  .opt (client_work_gives_2 n { w with asked := [] }) fun r_6 =>
  altT r_6 (fun a_7 =>
  .ret (.inl a_7)) fun b_8 =>
  .ret (.inr (.inl b_8))) fun b_9 =>
 .ret (.inr (.inr (.inl (b_9, { w with asked := [] })))))) fun b_10 =>
 .ret (.inr (.inr (.inr ((client_work_says_2 0 { w with asked := [] }), { w with asked := [] }))))
def client_work_drops := fun n w => (client_work_drops_t n w).get
def client_work_ends_t (n : Int) (w : Tclient_work) : Tree (Tclient_work ⊕ (Tclient_work ⊕ (Tclient_told × Tclient_work))) :=
 .opt (client_work_free_2 { w with asked := [] }) fun r_1 =>
 altT r_1 (fun a_2 =>
 .opt (client_work_file_2 n { w with asked := [] }) fun r_3 =>
 altT r_3 (fun a_4 =>
  .opt (w.Client.Files[a_4]?) fun y_5 =>
  .ite (decide ((y_5.Dirty.length : Int) > 0)) (.ret (.inr (.inr ((client_work_says_2 4 { w with asked := [] }), { w with asked := [] }))))
  (.opt ((client_work_asks (TAsk.mk 5 0 0 0 [] n 0 []) { w with asked := [] }).Client.Files[a_4]?) fun y_6 =>
  .opt ((client_work_asks (TAsk.mk 5 0 0 0 [] n 0 []) { w with asked := [] }).Client.Files[a_4]?) fun y_7 =>
  .ret (.inl ({ (client_work_asks (TAsk.mk 5 0 0 0 [] n 0 []) { w with asked := [] }) with Client := { (client_work_asks (TAsk.mk 5 0 0 0 [] n 0 []) { w with asked := [] }).Client with Files := ((client_work_asks (TAsk.mk 5 0 0 0 [] n 0 []) { w with asked := [] }).Client.Files.set a_4 (cache_Reset y_6)) } })))) fun b_8 =>
 .ret (.inr (.inl (client_work_asks (TAsk.mk 5 0 0 0 [] n 0 []) { w with asked := [] })))) fun b_9 =>
 .ret (.inr (.inr (b_9, { w with asked := [] })))
def client_work_ends := fun n w => (client_work_ends_t n w).get
def client_work_reads_2_t (n : Int) (w : Tclient_work) : Tree (Tclient_work ⊕ (Tclient_work ⊕ ((Tclient_told × Tclient_work) ⊕ (Tclient_told × Tclient_work)))) :=
 .opt (client_work_file n { w with asked := [] }) fun r_1 =>
 altT r_1 (fun a_2 =>
 .opt (w.Client.Files[a_2]?) fun y_3 =>
 .ite ((cache_Valid y_3 w.Client.Now) != 0) (.opt (w.Client.Files[a_2]?) fun y_4 =>
  .opt (cache_View n_ y_4) fun r_5 =>
  .ret (.inr (.inr (.inl ((Tclient_told.mk (TAns.mk 0 0 r_5)), (Tclient_work.mk { w.Client with Hits := (wi64 (w.Client.Hits + 1)) } []))))))
 (.opt (client_work_free_2 { w with asked := [] }) fun r_6 =>
 altT r_6 (fun a_7 =>
  .ret (.inl (client_work_asks (TAsk.mk 2 0 0 0 [] n 1 []) { w with asked := [] }))) fun b_8 =>
 .ret (.inr (.inr (.inl (b_8, { w with asked := [] })))))) fun b_9 =>
 .ite ((cache_Valid (TCache.mk 0 0 0 [] [] 0 false false) w.Client.Now) != 0) (.opt (cache_View n_ (TCache.mk 0 0 0 [] [] 0 false false)) fun r_10 =>
 .ret (.inr (.inr (.inr ((Tclient_told.mk (TAns.mk 0 0 r_10)), (Tclient_work.mk { w.Client with Hits := (wi64 (w.Client.Hits + 1)) } []))))))
 (.opt (client_work_free { w with asked := [] }) fun r_11 =>
 altT r_11 (fun a_12 =>
 .ret (.inr (.inl (client_work_asks_2 (TAsk.mk 2 0 0 0 [] n 1 []) { w with asked := [] })))) fun b_13 =>
 .ret (.inr (.inr (.inr (b_13, { w with asked := [] })))))
def client_work_reads_2 := fun n w => (client_work_reads_2_t n_ n w).get
def client_work_flushes_2_t (n : Int) (w : Tclient_work) : Tree (Tclient_work ⊕ Tclient_work) :=
 .opt (client_work_file n { w with asked := [] }) fun r_1 =>
 altT r_1 (fun a_2 =>
 .opt (w.Client.Files[a_2]?) fun y_3 =>
 .opt (w.Client.Files[a_2]?) fun y_4 =>
 .opt ((w.Client.Files.set a_2 { y_4 with Sent := (y_3.Dirty.length : Int) })[a_2]?) fun y_5 =>
 .ret (.inl (client_work_asks (TAsk.mk 3 0 0 0 [] n 0 y_5.Dirty) (Tclient_work.mk { w.Client with Files := (w.Client.Files.set a_2 { y_4 with Sent := (y_3.Dirty.length : Int) }) } [])))) fun b_6 =>
 .ret (.inr (client_work_asks_2 (TAsk.mk 3 0 0 0 [] n 0 []) { w with asked := [] }))
def client_work_flushes_2 := fun n w => (client_work_flushes_2_t n w).get
def client_work_writes_2_t (n : Int) (x : TWrite) (w : Tclient_work) : Tree (Tclient_work ⊕ (Tclient_work ⊕ (Tclient_work ⊕ (Tclient_work ⊕ ((Tclient_told × Tclient_work) ⊕ ((Tclient_told × Tclient_work) ⊕ (Tclient_told × Tclient_work))))))) :=
 .opt (client_work_file n { w with asked := [] }) fun r_1 =>
 altT r_1 (fun a_2 =>
 .opt (w.Client.Files[a_2]?) fun y_3 =>
 .ite ((cache_Valid y_3 w.Client.Now) == 2) (.opt (w.Client.Files[a_2]?) fun y_4 =>
  .ite (!y_4.Called) (.opt (w.Client.Files[a_2]?) fun y_5 =>
  .opt (cache_Buffer y_5 x) fun r_6 =>
  .ite r_6.2 (.opt (w.Client.Files[a_2]?) fun y_7 =>
   .ret (.inr (.inr (.inr (.inr (.inr (.inl ((client_work_says_2 0 (Tclient_work.mk { w.Client with Files := (w.Client.Files.set a_2 r_6.1), Hits := (wi64 (w.Client.Hits + 1)) } [])), (Tclient_work.mk { w.Client with Files := (w.Client.Files.set a_2 r_6.1), Hits := (wi64 (w.Client.Hits + 1)) } [])))))))))
  (.opt (client_work_free_2 { w with asked := [] }) fun r_8 =>
  altT r_8 (fun a_9 =>
   .ite (!((cache_Valid y_3 w.Client.Now) == 2)) (.ret (.inr (.inl (client_work_asks (TAsk.mk 2 0 0 0 [] n 2 []) { w with asked := [] }))))
   (.opt (w.Client.Files[a_2]?) fun y_10 =>
   .ite y_10.Called (.opt (client_work_gives_2 n { w with asked := [] }) fun r_11 =>
   altT r_11 (fun a_12 =>
    .ret (.inr (.inl a_12))) fun b_13 =>
   .ret (.inr (.inr (.inl b_13))))
   (.opt (client_work_flushes n { w with asked := [] }) fun r_14 =>
   altT r_14 (fun a_15 =>
   .ret (.inr (.inl a_15))) fun b_16 =>
   .ret (.inr (.inr (.inl b_16)))))) fun b_17 =>
  .ret (.inr (.inr (.inr (.inr (.inr (.inl (b_17, { w with asked := [] })))))))))
  (.opt (client_work_free_2 { w with asked := [] }) fun r_18 =>
  altT r_18 (fun a_19 =>
  .ite (!((cache_Valid y_3 w.Client.Now) == 2)) (.ret (.inl (client_work_asks (TAsk.mk 2 0 0 0 [] n 2 []) { w with asked := [] })))
  (.opt (w.Client.Files[a_2]?) fun y_20 =>
  .ite y_20.Called (.opt (client_work_gives_2 n { w with asked := [] }) fun r_21 =>
   altT r_21 (fun a_22 =>
   .ret (.inl a_22)) fun b_23 =>
   .ret (.inr (.inl b_23)))
  (.opt (client_work_flushes n { w with asked := [] }) fun r_24 =>
  altT r_24 (fun a_25 =>
   .ret (.inl a_25)) fun b_26 =>
  .ret (.inr (.inl b_26))))) fun b_27 =>
  .ret (.inr (.inr (.inr (.inr (.inl (b_27, { w with asked := [] }))))))))
 (.opt (client_work_free_2 { w with asked := [] }) fun r_28 =>
 altT r_28 (fun a_29 =>
  .ite (!((cache_Valid y_3 w.Client.Now) == 2)) (.ret (.inl (client_work_asks (TAsk.mk 2 0 0 0 [] n 2 []) { w with asked := [] })))
  (.opt (w.Client.Files[a_2]?) fun y_30 =>
  .ite y_30.Called (.opt (client_work_gives_2 n { w with asked := [] }) fun r_31 =>
  altT r_31 (fun a_32 =>
   .ret (.inl a_32)) fun b_33 =>
  .ret (.inr (.inl b_33)))
  (.opt (client_work_flushes n { w with asked := [] }) fun r_34 =>
  altT r_34 (fun a_35 =>
  .ret (.inl a_35)) fun b_36 =>
  .ret (.inr (.inl b_36))))) fun b_37 =>
 .ret (.inr (.inr (.inr (.inr (.inl (b_37, { w with asked := [] })))))))) fun b_38 =>
 .ite ((cache_Valid (TCache.mk 0 0 0 [] [] 0 false false) w.Client.Now) == 2) (.opt (cache_Buffer (TCache.mk 0 0 0 [] [] 0 false false) x) fun r_39 =>
 .ite r_39.2 (.ret (.inr (.inr (.inr (.inr (.inr (.inr ((client_work_says 0 (Tclient_work.mk { w.Client with Hits := (wi64 (w.Client.Hits + 1)) } [])), (Tclient_work.mk { w.Client with Hits := (wi64 (w.Client.Hits + 1)) } [])))))))))
 (.opt (client_work_free { w with asked := [] }) fun r_40 =>
 altT r_40 (fun a_41 =>
  .ite (!((cache_Valid (TCache.mk 0 0 0 [] [] 0 false false) w.Client.Now) == 2)) (.ret (.inr (.inr (.inl (client_work_asks_2 (TAsk.mk 2 0 0 0 [] n 2 []) { w with asked := [] })))))
  (.opt (client_work_flushes_2 n { w with asked := [] }) fun r_42 =>
  altT r_42 (fun a_43 =>
  .ret (.inr (.inr (.inl a_43)))) fun b_44 =>
  .ret (.inr (.inr (.inr (.inl b_44)))))) fun b_45 =>
 .ret (.inr (.inr (.inr (.inr (.inr (.inr (b_45, { w with asked := [] })))))))))
 (.opt (client_work_free { w with asked := [] }) fun r_46 =>
 altT r_46 (fun a_47 =>
 .ite (!((cache_Valid (TCache.mk 0 0 0 [] [] 0 false false) w.Client.Now) == 2)) (.ret (.inr (.inl (client_work_asks_2 (TAsk.mk 2 0 0 0 [] n 2 []) { w with asked := [] }))))
 (.opt (client_work_flushes_2 n { w with asked := [] }) fun r_48 =>
 altT r_48 (fun a_49 =>
  .ret (.inr (.inl a_49))) fun b_50 =>
 .ret (.inr (.inr (.inl b_50))))) fun b_51 =>
 .ret (.inr (.inr (.inr (.inr (.inr (.inl (b_51, { w with asked := [] }))))))))
def client_work_writes_2 := fun n x w => (client_work_writes_2_t n x w).get
def client_work_syncs_2_t (n : Int) (w : Tclient_work) : Tree (Tclient_work ⊕ (Tclient_work ⊕ ((Tclient_told × Tclient_work) ⊕ (Tclient_told × Tclient_work)))) :=
 .ite w.Client.Out.Is (.ite (w.Client.Out.Ask.Kind == 4) (.ite (w.Client.Out.Ask.File == n) (.ite (decide ((w.Client.Out.Ask.Writes.length : Int) > 0)) (.ret (.inr (.inr (.inl ((client_work_says 4 { w with asked := [] }), { w with asked := [] })))))
  (.opt (client_work_file n { w with asked := [] }) fun r_1 =>
  altT r_1 (fun a_2 =>
   .opt (w.Client.Files[a_2]?) fun y_3 =>
   .ite ((y_3.Dirty.length : Int) == 0) (.ret (.inr (.inr (.inl ((client_work_says_2 0 { w with asked := [] }), { w with asked := [] })))))
   (.opt (client_work_free_2 { w with asked := [] }) fun r_4 =>
   altT r_4 (fun a_5 =>
   .opt (client_work_flushes n { w with asked := [] }) fun r_6 =>
   altT r_6 (fun a_7 =>
    .ret (.inl a_7)) fun b_8 =>
   .ret (.inr (.inl b_8))) fun b_9 =>
   .ret (.inr (.inr (.inl (b_9, { w with asked := [] })))))) fun b_10 =>
  .ret (.inr (.inr (.inr ((client_work_says 0 { w with asked := [] }), { w with asked := [] }))))))
  (.opt (client_work_file n { w with asked := [] }) fun r_11 =>
  altT r_11 (fun a_12 =>
  .opt (w.Client.Files[a_12]?) fun y_13 =>
  .ite ((y_13.Dirty.length : Int) == 0) (.ret (.inr (.inr (.inl ((client_work_says_2 0 { w with asked := [] }), { w with asked := [] })))))
  (.opt (client_work_free_2 { w with asked := [] }) fun r_14 =>
  altT r_14 (fun a_15 =>
   .opt (client_work_flushes n { w with asked := [] }) fun r_16 =>
   altT r_16 (fun a_17 =>
   .ret (.inl a_17)) fun b_18 =>
   .ret (.inr (.inl b_18))) fun b_19 =>
  .ret (.inr (.inr (.inl (b_19, { w with asked := [] })))))) fun b_20 =>
  .ret (.inr (.inr (.inr ((client_work_says 0 { w with asked := [] }), { w with asked := [] }))))))
 (.opt (client_work_file n { w with asked := [] }) fun r_21 =>
 altT r_21 (fun a_22 =>
  .opt (w.Client.Files[a_22]?) fun y_23 =>
  .ite ((y_23.Dirty.length : Int) == 0) (.ret (.inr (.inr (.inl ((client_work_says_2 0 { w with asked := [] }), { w with asked := [] })))))
  (.opt (client_work_free_2 { w with asked := [] }) fun r_24 =>
  altT r_24 (fun a_25 =>
  .opt (client_work_flushes n { w with asked := [] }) fun r_26 =>
  altT r_26 (fun a_27 =>
   .ret (.inl a_27)) fun b_28 =>
  .ret (.inr (.inl b_28))) fun b_29 =>
  .ret (.inr (.inr (.inl (b_29, { w with asked := [] })))))) fun b_30 =>
 .ret (.inr (.inr (.inr ((client_work_says 0 { w with asked := [] }), { w with asked := [] }))))))
 (.opt (client_work_file n { w with asked := [] }) fun r_31 =>
 altT r_31 (fun a_32 =>
 .opt (w.Client.Files[a_32]?) fun y_33 =>
 .ite ((y_33.Dirty.length : Int) == 0) (.ret (.inr (.inr (.inl ((client_work_says_2 0 { w with asked := [] }), { w with asked := [] })))))
 (.opt (client_work_free_2 { w with asked := [] }) fun r_34 =>
 altT r_34 (fun a_35 =>
  .opt (client_work_flushes n { w with asked := [] }) fun r_36 =>
  altT r_36 (fun a_37 =>
  .ret (.inl a_37)) fun b_38 =>
  .ret (.inr (.inl b_38))) fun b_39 =>
 .ret (.inr (.inr (.inl (b_39, { w with asked := [] })))))) fun b_40 =>
 .ret (.inr (.inr (.inr ((client_work_says 0 { w with asked := [] }), { w with asked := [] })))))
def client_work_syncs_2 := fun n w => (client_work_syncs_2_t n w).get
def client_work_drops_2_t (n : Int) (w : Tclient_work) : Tree (Tclient_work ⊕ (Tclient_work ⊕ ((Tclient_told × Tclient_work) ⊕ (Tclient_told × Tclient_work)))) :=
 .opt (client_work_file n { w with asked := [] }) fun r_1 =>
 altT r_1 (fun a_2 =>
 .opt (w.Client.Files[a_2]?) fun y_3 =>
 .ite (y_3.Mode == 0) (.ret (.inr (.inr (.inl ((client_work_says_2 0 { w with asked := [] }), { w with asked := [] })))))
 (.opt (client_work_free_2 { w with asked := [] }) fun r_4 =>
 altT r_4 (fun a_5 =>
  .opt (client_work_gives_2 n { w with asked := [] }) fun r_6 =>
  altT r_6 (fun a_7 =>
  .ret (.inl a_7)) fun b_8 =>
  .ret (.inr (.inl b_8))) fun b_9 =>
 .ret (.inr (.inr (.inl (b_9, { w with asked := [] })))))) fun b_10 =>
 .ret (.inr (.inr (.inr ((client_work_says 0 { w with asked := [] }), { w with asked := [] }))))
def client_work_drops_2 := fun n w => (client_work_drops_2_t n w).get
def client_work_ends_2_t (n : Int) (w : Tclient_work) : Tree (Tclient_work ⊕ (Tclient_work ⊕ (Tclient_told × Tclient_work))) :=
 .opt (client_work_free { w with asked := [] }) fun r_1 =>
 altT r_1 (fun a_2 =>
 .opt (client_work_file n { w with asked := [] }) fun r_3 =>
 altT r_3 (fun a_4 =>
  .opt (w.Client.Files[a_4]?) fun y_5 =>
  .ite (decide ((y_5.Dirty.length : Int) > 0)) (.ret (.inr (.inr ((client_work_says_2 4 { w with asked := [] }), { w with asked := [] }))))
  (.opt ((client_work_asks (TAsk.mk 5 0 0 0 [] n 0 []) { w with asked := [] }).Client.Files[a_4]?) fun y_6 =>
  .opt ((client_work_asks (TAsk.mk 5 0 0 0 [] n 0 []) { w with asked := [] }).Client.Files[a_4]?) fun y_7 =>
  .ret (.inl ({ (client_work_asks (TAsk.mk 5 0 0 0 [] n 0 []) { w with asked := [] }) with Client := { (client_work_asks (TAsk.mk 5 0 0 0 [] n 0 []) { w with asked := [] }).Client with Files := ((client_work_asks (TAsk.mk 5 0 0 0 [] n 0 []) { w with asked := [] }).Client.Files.set a_4 (cache_Reset y_6)) } })))) fun b_8 =>
 .ret (.inr (.inl (client_work_asks_2 (TAsk.mk 5 0 0 0 [] n 0 []) { w with asked := [] })))) fun b_9 =>
 .ret (.inr (.inr (b_9, { w with asked := [] })))
def client_work_ends_2 := fun n w => (client_work_ends_2_t n w).get
def client_work_step_t (s : TStep) (w : Tclient_work) : Tree (Tclient_work ⊕ (Tclient_work ⊕ (Tclient_work ⊕ (Tclient_work ⊕ (Tclient_work ⊕ (Tclient_work ⊕ (Tclient_work ⊕ (Tclient_work ⊕ (Tclient_work ⊕ ((Tclient_told × Tclient_work) ⊕ ((Tclient_told × Tclient_work) ⊕ ((Tclient_told × Tclient_work) ⊕ ((Tclient_told × Tclient_work) ⊕ ((Tclient_told × Tclient_work) ⊕ (Tclient_told × Tclient_work))))))))))))))) :=
 .ite (decide (s.Kind < 3)) (.ret (.inr (.inr (.inr (.inr (.inr (.inr (.inr (.inr (.inr (.inl ((client_work_says 1 { w with asked := [] }), { w with asked := [] }))))))))))))
 (.ite (decide (s.Kind > 8)) (.ret (.inr (.inr (.inr (.inr (.inr (.inr (.inr (.inr (.inr (.inl ((client_work_says 1 { w with asked := [] }), { w with asked := [] }))))))))))))
 (.ite (s.Kind == 3) (.opt (client_work_opens n_ s.Text { w with asked := [] }) fun r_1 =>
 altT r_1 (fun a_2 =>
  .ret (.inr (.inr (.inr (.inr (.inl a_2)))))) fun b_3 =>
 .ret (.inr (.inr (.inr (.inr (.inr (.inr (.inr (.inr (.inr (.inl (b_3.1, { b_3.2 with asked := [] }))))))))))))
 (.ite (decide (s.File < 1)) (.ret (.inr (.inr (.inr (.inr (.inr (.inr (.inr (.inr (.inr (.inr (.inl ((client_work_says 1 { w with asked := [] }), { w with asked := [] })))))))))))))
 (.ite (decide (s.File > (w.Client.Files.length : Int))) (.ret (.inr (.inr (.inr (.inr (.inr (.inr (.inr (.inr (.inr (.inr (.inl ((client_work_says 1 { w with asked := [] }), { w with asked := [] })))))))))))))
 (.ite (s.Kind == 5) (.ite (!(file_May (TWrite.mk s.Off s.Text))) (.ret (.inr (.inr (.inr (.inr (.inr (.inr (.inr (.inr (.inr (.inr (.inl ((client_work_says 1 { w with asked := [] }), { w with asked := [] })))))))))))))
 (.opt (client_work_file s.File { w with asked := [] }) fun r_4 =>
 altT r_4 (fun a_5 =>
  .opt (w.Client.Files[a_5]?) fun y_6 =>
  .ite y_6.Lost (.ite (s.Kind != 8) (.opt (w.Client.Files[a_5]?) fun y_7 =>
   .ret (.inr (.inr (.inr (.inr (.inr (.inr (.inr (.inr (.inr (.inr (.inl ((client_work_says_2 6 (Tclient_work.mk { w.Client with Files := (w.Client.Files.set a_5 { y_7 with Lost := false }) } [])), (Tclient_work.mk { w.Client with Files := (w.Client.Files.set a_5 { y_7 with Lost := false }) } []))))))))))))))
  (.ite (s.Kind == 4) (.opt (client_work_reads n_ s.File { w with asked := [] }) fun r_8 =>
   altT r_8 (fun a_9 =>
   .ret (.inr (.inr (.inr (.inr (.inr (.inl a_9))))))) fun b_10 =>
   altT b_10 (fun a_11 =>
   .ret (.inr (.inr (.inr (.inr (.inr (.inr (.inl a_11)))))))) fun b_12 =>
   altT b_12 (fun a_13 =>
   .ret (.inr (.inr (.inr (.inr (.inr (.inr (.inr (.inr (.inr (.inr (.inl (a_13.1, { a_13.2 with asked := [] }))))))))))))) fun b_14 =>
   .ret (.inr (.inr (.inr (.inr (.inr (.inr (.inr (.inr (.inr (.inr (.inr (.inl (b_14.1, { b_14.2 with asked := [] }))))))))))))))
  (.ite (s.Kind == 5) (.opt (client_work_writes s.File (TWrite.mk s.Off s.Text) { w with asked := [] }) fun r_15 =>
   altT r_15 (fun a_16 =>
   .ret (.inr (.inr (.inr (.inr (.inr (.inr (.inl a_16)))))))) fun b_17 =>
   altT b_17 (fun a_18 =>
   .ret (.inr (.inr (.inr (.inr (.inr (.inr (.inr (.inl a_18))))))))) fun b_19 =>
   altT b_19 (fun a_20 =>
   .ret (.inr (.inr (.inr (.inr (.inr (.inr (.inr (.inr (.inl a_20)))))))))) fun b_21 =>
   altT b_21 (fun a_22 =>
   .ret (.inr (.inr (.inl a_22)))) fun b_23 =>
   altT b_23 (fun a_24 =>
   .ret (.inr (.inr (.inr (.inr (.inr (.inr (.inr (.inr (.inr (.inr (.inr (.inl (a_24.1, { a_24.2 with asked := [] })))))))))))))) fun b_25 =>
   altT b_25 (fun a_26 =>
   .ret (.inr (.inr (.inr (.inr (.inr (.inr (.inr (.inr (.inr (.inr (.inr (.inr (.inl (a_26.1, { a_26.2 with asked := [] }))))))))))))))) fun b_27 =>
   .ret (.inr (.inr (.inr (.inr (.inr (.inr (.inr (.inr (.inr (.inr (.inr (.inr (.inr (.inl (b_27.1, { b_27.2 with asked := [] }))))))))))))))))
  (.ite (s.Kind == 6) (.opt (client_work_syncs s.File { w with asked := [] }) fun r_28 =>
   altT r_28 (fun a_29 =>
   .ret (.inr (.inr (.inr (.inr (.inr (.inr (.inl a_29)))))))) fun b_30 =>
   altT b_30 (fun a_31 =>
   .ret (.inr (.inr (.inr (.inr (.inr (.inr (.inr (.inl a_31))))))))) fun b_32 =>
   altT b_32 (fun a_33 =>
   .ret (.inr (.inr (.inr (.inr (.inr (.inr (.inr (.inr (.inr (.inr (.inr (.inl (a_33.1, { a_33.2 with asked := [] })))))))))))))) fun b_34 =>
   .ret (.inr (.inr (.inr (.inr (.inr (.inr (.inr (.inr (.inr (.inr (.inr (.inr (.inl (b_34.1, { b_34.2 with asked := [] })))))))))))))))
  (.ite (s.Kind == 7) (.opt (client_work_drops s.File { w with asked := [] }) fun r_35 =>
   altT r_35 (fun a_36 =>
   .ret (.inr (.inr (.inr (.inr (.inr (.inl a_36))))))) fun b_37 =>
   altT b_37 (fun a_38 =>
   .ret (.inr (.inr (.inr (.inr (.inr (.inr (.inl a_38)))))))) fun b_39 =>
   altT b_39 (fun a_40 =>
   .ret (.inr (.inr (.inr (.inr (.inr (.inr (.inr (.inr (.inr (.inr (.inl (a_40.1, { a_40.2 with asked := [] }))))))))))))) fun b_41 =>
   .ret (.inr (.inr (.inr (.inr (.inr (.inr (.inr (.inr (.inr (.inr (.inr (.inl (b_41.1, { b_41.2 with asked := [] }))))))))))))))
  (.ite (s.Kind == 8) (.opt (client_work_ends s.File { w with asked := [] }) fun r_42 =>
   altT r_42 (fun a_43 =>
   .ret (.inr (.inr (.inr (.inr (.inr (.inl a_43))))))) fun b_44 =>
   altT b_44 (fun a_45 =>
   .ret (.inr (.inr (.inr (.inr (.inr (.inr (.inl a_45)))))))) fun b_46 =>
   .ret (.inr (.inr (.inr (.inr (.inr (.inr (.inr (.inr (.inr (.inr (.inl (b_46.1, { b_46.2 with asked := [] })))))))))))))
  (.ret (.inl ({ w with asked := [] })))))))))
  (.ite (s.Kind == 4) (.opt (client_work_reads n_ s.File { w with asked := [] }) fun r_47 =>
  altT r_47 (fun a_48 =>
   .ret (.inr (.inr (.inr (.inr (.inr (.inl a_48))))))) fun b_49 =>
  altT b_49 (fun a_50 =>
   .ret (.inr (.inr (.inr (.inr (.inr (.inr (.inl a_50)))))))) fun b_51 =>
  altT b_51 (fun a_52 =>
   .ret (.inr (.inr (.inr (.inr (.inr (.inr (.inr (.inr (.inr (.inr (.inl (a_52.1, { a_52.2 with asked := [] }))))))))))))) fun b_53 =>
  .ret (.inr (.inr (.inr (.inr (.inr (.inr (.inr (.inr (.inr (.inr (.inr (.inl (b_53.1, { b_53.2 with asked := [] }))))))))))))))
  (.ite (s.Kind == 5) (.opt (client_work_writes s.File (TWrite.mk s.Off s.Text) { w with asked := [] }) fun r_54 =>
  altT r_54 (fun a_55 =>
   .ret (.inr (.inr (.inr (.inr (.inr (.inr (.inl a_55)))))))) fun b_56 =>
  altT b_56 (fun a_57 =>
   .ret (.inr (.inr (.inr (.inr (.inr (.inr (.inr (.inl a_57))))))))) fun b_58 =>
  altT b_58 (fun a_59 =>
   .ret (.inr (.inr (.inr (.inr (.inr (.inr (.inr (.inr (.inl a_59)))))))))) fun b_60 =>
  altT b_60 (fun a_61 =>
   .ret (.inr (.inr (.inl a_61)))) fun b_62 =>
  altT b_62 (fun a_63 =>
   .ret (.inr (.inr (.inr (.inr (.inr (.inr (.inr (.inr (.inr (.inr (.inr (.inl (a_63.1, { a_63.2 with asked := [] })))))))))))))) fun b_64 =>
  altT b_64 (fun a_65 =>
   .ret (.inr (.inr (.inr (.inr (.inr (.inr (.inr (.inr (.inr (.inr (.inr (.inr (.inl (a_65.1, { a_65.2 with asked := [] }))))))))))))))) fun b_66 =>
  .ret (.inr (.inr (.inr (.inr (.inr (.inr (.inr (.inr (.inr (.inr (.inr (.inr (.inr (.inl (b_66.1, { b_66.2 with asked := [] }))))))))))))))))
  (.ite (s.Kind == 6) (.opt (client_work_syncs s.File { w with asked := [] }) fun r_67 =>
  altT r_67 (fun a_68 =>
   .ret (.inr (.inr (.inr (.inr (.inr (.inr (.inl a_68)))))))) fun b_69 =>
  altT b_69 (fun a_70 =>
   .ret (.inr (.inr (.inr (.inr (.inr (.inr (.inr (.inl a_70))))))))) fun b_71 =>
  altT b_71 (fun a_72 =>
   .ret (.inr (.inr (.inr (.inr (.inr (.inr (.inr (.inr (.inr (.inr (.inr (.inl (a_72.1, { a_72.2 with asked := [] })))))))))))))) fun b_73 =>
  .ret (.inr (.inr (.inr (.inr (.inr (.inr (.inr (.inr (.inr (.inr (.inr (.inr (.inl (b_73.1, { b_73.2 with asked := [] })))))))))))))))
  (.ite (s.Kind == 7) (.opt (client_work_drops s.File { w with asked := [] }) fun r_74 =>
  altT r_74 (fun a_75 =>
   .ret (.inr (.inr (.inr (.inr (.inr (.inl a_75))))))) fun b_76 =>
  altT b_76 (fun a_77 =>
   .ret (.inr (.inr (.inr (.inr (.inr (.inr (.inl a_77)))))))) fun b_78 =>
  altT b_78 (fun a_79 =>
   .ret (.inr (.inr (.inr (.inr (.inr (.inr (.inr (.inr (.inr (.inr (.inl (a_79.1, { a_79.2 with asked := [] }))))))))))))) fun b_80 =>
  .ret (.inr (.inr (.inr (.inr (.inr (.inr (.inr (.inr (.inr (.inr (.inr (.inl (b_80.1, { b_80.2 with asked := [] }))))))))))))))
  (.ite (s.Kind == 8) (.opt (client_work_ends s.File { w with asked := [] }) fun r_81 =>
  altT r_81 (fun a_82 =>
   .ret (.inr (.inr (.inr (.inr (.inr (.inl a_82))))))) fun b_83 =>
  altT b_83 (fun a_84 =>
   .ret (.inr (.inr (.inr (.inr (.inr (.inr (.inl a_84)))))))) fun b_85 =>
  .ret (.inr (.inr (.inr (.inr (.inr (.inr (.inr (.inr (.inr (.inr (.inl (b_85.1, { b_85.2 with asked := [] })))))))))))))
  (.ret (.inl ({ w with asked := [] }))))))))) fun b_86 =>
 .ite (s.Kind == 4) (.opt (client_work_reads_2 n_ s.File { w with asked := [] }) fun r_87 =>
  altT r_87 (fun a_88 =>
  .ret (.inr (.inr (.inr (.inr (.inr (.inr (.inl a_88)))))))) fun b_89 =>
  altT b_89 (fun a_90 =>
  .ret (.inr (.inr (.inr (.inr (.inr (.inr (.inr (.inl a_90))))))))) fun b_91 =>
  altT b_91 (fun a_92 =>
  .ret (.inr (.inr (.inr (.inr (.inr (.inr (.inr (.inr (.inr (.inr (.inr (.inl (a_92.1, { a_92.2 with asked := [] })))))))))))))) fun b_93 =>
  .ret (.inr (.inr (.inr (.inr (.inr (.inr (.inr (.inr (.inr (.inr (.inr (.inr (.inl (b_93.1, { b_93.2 with asked := [] })))))))))))))))
 (.ite (s.Kind == 5) (.opt (client_work_writes_2 s.File (TWrite.mk s.Off s.Text) { w with asked := [] }) fun r_94 =>
  altT r_94 (fun a_95 =>
  .ret (.inr (.inr (.inr (.inr (.inr (.inr (.inr (.inl a_95))))))))) fun b_96 =>
  altT b_96 (fun a_97 =>
  .ret (.inr (.inr (.inr (.inr (.inr (.inr (.inr (.inr (.inl a_97)))))))))) fun b_98 =>
  altT b_98 (fun a_99 =>
  .ret (.inr (.inr (.inl a_99)))) fun b_100 =>
  altT b_100 (fun a_101 =>
  .ret (.inr (.inr (.inr (.inl a_101))))) fun b_102 =>
  altT b_102 (fun a_103 =>
  .ret (.inr (.inr (.inr (.inr (.inr (.inr (.inr (.inr (.inr (.inr (.inr (.inr (.inl (a_103.1, { a_103.2 with asked := [] }))))))))))))))) fun b_104 =>
  altT b_104 (fun a_105 =>
  .ret (.inr (.inr (.inr (.inr (.inr (.inr (.inr (.inr (.inr (.inr (.inr (.inr (.inr (.inl (a_105.1, { a_105.2 with asked := [] })))))))))))))))) fun b_106 =>
  .ret (.inr (.inr (.inr (.inr (.inr (.inr (.inr (.inr (.inr (.inr (.inr (.inr (.inr (.inr (b_106.1, { b_106.2 with asked := [] }))))))))))))))))
 (.ite (s.Kind == 6) (.opt (client_work_syncs_2 s.File { w with asked := [] }) fun r_107 =>
  altT r_107 (fun a_108 =>
  .ret (.inr (.inr (.inr (.inr (.inr (.inr (.inr (.inl a_108))))))))) fun b_109 =>
  altT b_109 (fun a_110 =>
  .ret (.inr (.inr (.inr (.inr (.inr (.inr (.inr (.inr (.inl a_110)))))))))) fun b_111 =>
  altT b_111 (fun a_112 =>
  .ret (.inr (.inr (.inr (.inr (.inr (.inr (.inr (.inr (.inr (.inr (.inr (.inr (.inl (a_112.1, { a_112.2 with asked := [] }))))))))))))))) fun b_113 =>
  .ret (.inr (.inr (.inr (.inr (.inr (.inr (.inr (.inr (.inr (.inr (.inr (.inr (.inr (.inl (b_113.1, { b_113.2 with asked := [] }))))))))))))))))
 (.ite (s.Kind == 7) (.opt (client_work_drops_2 s.File { w with asked := [] }) fun r_114 =>
  altT r_114 (fun a_115 =>
  .ret (.inr (.inr (.inr (.inr (.inr (.inr (.inl a_115)))))))) fun b_116 =>
  altT b_116 (fun a_117 =>
  .ret (.inr (.inr (.inr (.inr (.inr (.inr (.inr (.inl a_117))))))))) fun b_118 =>
  altT b_118 (fun a_119 =>
  .ret (.inr (.inr (.inr (.inr (.inr (.inr (.inr (.inr (.inr (.inr (.inr (.inl (a_119.1, { a_119.2 with asked := [] })))))))))))))) fun b_120 =>
  .ret (.inr (.inr (.inr (.inr (.inr (.inr (.inr (.inr (.inr (.inr (.inr (.inr (.inl (b_120.1, { b_120.2 with asked := [] })))))))))))))))
 (.ite (s.Kind == 8) (.opt (client_work_ends_2 s.File { w with asked := [] }) fun r_121 =>
  altT r_121 (fun a_122 =>
  .ret (.inr (.inr (.inr (.inr (.inr (.inr (.inl a_122)))))))) fun b_123 =>
  altT b_123 (fun a_124 =>
  .ret (.inr (.inr (.inr (.inr (.inr (.inr (.inr (.inl a_124))))))))) fun b_125 =>
  .ret (.inr (.inr (.inr (.inr (.inr (.inr (.inr (.inr (.inr (.inr (.inr (.inl (b_125.1, { b_125.2 with asked := [] }))))))))))))))
 (.ret (.inr (.inl ({ w with asked := [] }))))))))))
 (.opt (client_work_file s.File { w with asked := [] }) fun r_126 =>
 altT r_126 (fun a_127 =>
 .opt (w.Client.Files[a_127]?) fun y_128 =>
 .ite y_128.Lost (.ite (s.Kind != 8) (.opt (w.Client.Files[a_127]?) fun y_129 =>
  .ret (.inr (.inr (.inr (.inr (.inr (.inr (.inr (.inr (.inr (.inr (.inl ((client_work_says_2 6 (Tclient_work.mk { w.Client with Files := (w.Client.Files.set a_127 { y_129 with Lost := false }) } [])), (Tclient_work.mk { w.Client with Files := (w.Client.Files.set a_127 { y_129 with Lost := false }) } []))))))))))))))
  (.ite (s.Kind == 4) (.opt (client_work_reads n_ s.File { w with asked := [] }) fun r_130 =>
  altT r_130 (fun a_131 =>
   .ret (.inr (.inr (.inr (.inr (.inr (.inl a_131))))))) fun b_132 =>
  altT b_132 (fun a_133 =>
   .ret (.inr (.inr (.inr (.inr (.inr (.inr (.inl a_133)))))))) fun b_134 =>
  altT b_134 (fun a_135 =>
   .ret (.inr (.inr (.inr (.inr (.inr (.inr (.inr (.inr (.inr (.inr (.inl (a_135.1, { a_135.2 with asked := [] }))))))))))))) fun b_136 =>
  .ret (.inr (.inr (.inr (.inr (.inr (.inr (.inr (.inr (.inr (.inr (.inr (.inl (b_136.1, { b_136.2 with asked := [] }))))))))))))))
  (.ite (s.Kind == 5) (.opt (client_work_writes s.File (TWrite.mk s.Off s.Text) { w with asked := [] }) fun r_137 =>
  altT r_137 (fun a_138 =>
   .ret (.inr (.inr (.inr (.inr (.inr (.inr (.inl a_138)))))))) fun b_139 =>
  altT b_139 (fun a_140 =>
   .ret (.inr (.inr (.inr (.inr (.inr (.inr (.inr (.inl a_140))))))))) fun b_141 =>
  altT b_141 (fun a_142 =>
   .ret (.inr (.inr (.inr (.inr (.inr (.inr (.inr (.inr (.inl a_142)))))))))) fun b_143 =>
  altT b_143 (fun a_144 =>
   .ret (.inr (.inr (.inl a_144)))) fun b_145 =>
  altT b_145 (fun a_146 =>
   .ret (.inr (.inr (.inr (.inr (.inr (.inr (.inr (.inr (.inr (.inr (.inr (.inl (a_146.1, { a_146.2 with asked := [] })))))))))))))) fun b_147 =>
  altT b_147 (fun a_148 =>
   .ret (.inr (.inr (.inr (.inr (.inr (.inr (.inr (.inr (.inr (.inr (.inr (.inr (.inl (a_148.1, { a_148.2 with asked := [] }))))))))))))))) fun b_149 =>
  .ret (.inr (.inr (.inr (.inr (.inr (.inr (.inr (.inr (.inr (.inr (.inr (.inr (.inr (.inl (b_149.1, { b_149.2 with asked := [] }))))))))))))))))
  (.ite (s.Kind == 6) (.opt (client_work_syncs s.File { w with asked := [] }) fun r_150 =>
  altT r_150 (fun a_151 =>
   .ret (.inr (.inr (.inr (.inr (.inr (.inr (.inl a_151)))))))) fun b_152 =>
  altT b_152 (fun a_153 =>
   .ret (.inr (.inr (.inr (.inr (.inr (.inr (.inr (.inl a_153))))))))) fun b_154 =>
  altT b_154 (fun a_155 =>
   .ret (.inr (.inr (.inr (.inr (.inr (.inr (.inr (.inr (.inr (.inr (.inr (.inl (a_155.1, { a_155.2 with asked := [] })))))))))))))) fun b_156 =>
  .ret (.inr (.inr (.inr (.inr (.inr (.inr (.inr (.inr (.inr (.inr (.inr (.inr (.inl (b_156.1, { b_156.2 with asked := [] })))))))))))))))
  (.ite (s.Kind == 7) (.opt (client_work_drops s.File { w with asked := [] }) fun r_157 =>
  altT r_157 (fun a_158 =>
   .ret (.inr (.inr (.inr (.inr (.inr (.inl a_158))))))) fun b_159 =>
  altT b_159 (fun a_160 =>
   .ret (.inr (.inr (.inr (.inr (.inr (.inr (.inl a_160)))))))) fun b_161 =>
  altT b_161 (fun a_162 =>
   .ret (.inr (.inr (.inr (.inr (.inr (.inr (.inr (.inr (.inr (.inr (.inl (a_162.1, { a_162.2 with asked := [] }))))))))))))) fun b_163 =>
  .ret (.inr (.inr (.inr (.inr (.inr (.inr (.inr (.inr (.inr (.inr (.inr (.inl (b_163.1, { b_163.2 with asked := [] }))))))))))))))
  (.ite (s.Kind == 8) (.opt (client_work_ends s.File { w with asked := [] }) fun r_164 =>
  altT r_164 (fun a_165 =>
   .ret (.inr (.inr (.inr (.inr (.inr (.inl a_165))))))) fun b_166 =>
  altT b_166 (fun a_167 =>
   .ret (.inr (.inr (.inr (.inr (.inr (.inr (.inl a_167)))))))) fun b_168 =>
  .ret (.inr (.inr (.inr (.inr (.inr (.inr (.inr (.inr (.inr (.inr (.inl (b_168.1, { b_168.2 with asked := [] })))))))))))))
  (.ret (.inl ({ w with asked := [] })))))))))
 (.ite (s.Kind == 4) (.opt (client_work_reads n_ s.File { w with asked := [] }) fun r_169 =>
  altT r_169 (fun a_170 =>
  .ret (.inr (.inr (.inr (.inr (.inr (.inl a_170))))))) fun b_171 =>
  altT b_171 (fun a_172 =>
  .ret (.inr (.inr (.inr (.inr (.inr (.inr (.inl a_172)))))))) fun b_173 =>
  altT b_173 (fun a_174 =>
  .ret (.inr (.inr (.inr (.inr (.inr (.inr (.inr (.inr (.inr (.inr (.inl (a_174.1, { a_174.2 with asked := [] }))))))))))))) fun b_175 =>
  .ret (.inr (.inr (.inr (.inr (.inr (.inr (.inr (.inr (.inr (.inr (.inr (.inl (b_175.1, { b_175.2 with asked := [] }))))))))))))))
 (.ite (s.Kind == 5) (.opt (client_work_writes s.File (TWrite.mk s.Off s.Text) { w with asked := [] }) fun r_176 =>
  altT r_176 (fun a_177 =>
  .ret (.inr (.inr (.inr (.inr (.inr (.inr (.inl a_177)))))))) fun b_178 =>
  altT b_178 (fun a_179 =>
  .ret (.inr (.inr (.inr (.inr (.inr (.inr (.inr (.inl a_179))))))))) fun b_180 =>
  altT b_180 (fun a_181 =>
  .ret (.inr (.inr (.inr (.inr (.inr (.inr (.inr (.inr (.inl a_181)))))))))) fun b_182 =>
  altT b_182 (fun a_183 =>
  .ret (.inr (.inr (.inl a_183)))) fun b_184 =>
  altT b_184 (fun a_185 =>
  .ret (.inr (.inr (.inr (.inr (.inr (.inr (.inr (.inr (.inr (.inr (.inr (.inl (a_185.1, { a_185.2 with asked := [] })))))))))))))) fun b_186 =>
  altT b_186 (fun a_187 =>
  .ret (.inr (.inr (.inr (.inr (.inr (.inr (.inr (.inr (.inr (.inr (.inr (.inr (.inl (a_187.1, { a_187.2 with asked := [] }))))))))))))))) fun b_188 =>
  .ret (.inr (.inr (.inr (.inr (.inr (.inr (.inr (.inr (.inr (.inr (.inr (.inr (.inr (.inl (b_188.1, { b_188.2 with asked := [] }))))))))))))))))
 (.ite (s.Kind == 6) (.opt (client_work_syncs s.File { w with asked := [] }) fun r_189 =>
  altT r_189 (fun a_190 =>
  .ret (.inr (.inr (.inr (.inr (.inr (.inr (.inl a_190)))))))) fun b_191 =>
  altT b_191 (fun a_192 =>
  .ret (.inr (.inr (.inr (.inr (.inr (.inr (.inr (.inl a_192))))))))) fun b_193 =>
  altT b_193 (fun a_194 =>
  .ret (.inr (.inr (.inr (.inr (.inr (.inr (.inr (.inr (.inr (.inr (.inr (.inl (a_194.1, { a_194.2 with asked := [] })))))))))))))) fun b_195 =>
  .ret (.inr (.inr (.inr (.inr (.inr (.inr (.inr (.inr (.inr (.inr (.inr (.inr (.inl (b_195.1, { b_195.2 with asked := [] })))))))))))))))
 (.ite (s.Kind == 7) (.opt (client_work_drops s.File { w with asked := [] }) fun r_196 =>
  altT r_196 (fun a_197 =>
  .ret (.inr (.inr (.inr (.inr (.inr (.inl a_197))))))) fun b_198 =>
  altT b_198 (fun a_199 =>
  .ret (.inr (.inr (.inr (.inr (.inr (.inr (.inl a_199)))))))) fun b_200 =>
  altT b_200 (fun a_201 =>
  .ret (.inr (.inr (.inr (.inr (.inr (.inr (.inr (.inr (.inr (.inr (.inl (a_201.1, { a_201.2 with asked := [] }))))))))))))) fun b_202 =>
  .ret (.inr (.inr (.inr (.inr (.inr (.inr (.inr (.inr (.inr (.inr (.inr (.inl (b_202.1, { b_202.2 with asked := [] }))))))))))))))
 (.ite (s.Kind == 8) (.opt (client_work_ends s.File { w with asked := [] }) fun r_203 =>
  altT r_203 (fun a_204 =>
  .ret (.inr (.inr (.inr (.inr (.inr (.inl a_204))))))) fun b_205 =>
  altT b_205 (fun a_206 =>
  .ret (.inr (.inr (.inr (.inr (.inr (.inr (.inl a_206)))))))) fun b_207 =>
  .ret (.inr (.inr (.inr (.inr (.inr (.inr (.inr (.inr (.inr (.inr (.inl (b_207.1, { b_207.2 with asked := [] })))))))))))))
 (.ret (.inl ({ w with asked := [] }))))))))) fun b_208 =>
 .ite (s.Kind == 4) (.opt (client_work_reads_2 n_ s.File { w with asked := [] }) fun r_209 =>
 altT r_209 (fun a_210 =>
  .ret (.inr (.inr (.inr (.inr (.inr (.inr (.inl a_210)))))))) fun b_211 =>
 altT b_211 (fun a_212 =>
  .ret (.inr (.inr (.inr (.inr (.inr (.inr (.inr (.inl a_212))))))))) fun b_213 =>
 altT b_213 (fun a_214 =>
  .ret (.inr (.inr (.inr (.inr (.inr (.inr (.inr (.inr (.inr (.inr (.inr (.inl (a_214.1, { a_214.2 with asked := [] })))))))))))))) fun b_215 =>
 .ret (.inr (.inr (.inr (.inr (.inr (.inr (.inr (.inr (.inr (.inr (.inr (.inr (.inl (b_215.1, { b_215.2 with asked := [] })))))))))))))))
 (.ite (s.Kind == 5) (.opt (client_work_writes_2 s.File (TWrite.mk s.Off s.Text) { w with asked := [] }) fun r_216 =>
 altT r_216 (fun a_217 =>
  .ret (.inr (.inr (.inr (.inr (.inr (.inr (.inr (.inl a_217))))))))) fun b_218 =>
 altT b_218 (fun a_219 =>
  .ret (.inr (.inr (.inr (.inr (.inr (.inr (.inr (.inr (.inl a_219)))))))))) fun b_220 =>
 altT b_220 (fun a_221 =>
  .ret (.inr (.inr (.inl a_221)))) fun b_222 =>
 altT b_222 (fun a_223 =>
  .ret (.inr (.inr (.inr (.inl a_223))))) fun b_224 =>
 altT b_224 (fun a_225 =>
  .ret (.inr (.inr (.inr (.inr (.inr (.inr (.inr (.inr (.inr (.inr (.inr (.inr (.inl (a_225.1, { a_225.2 with asked := [] }))))))))))))))) fun b_226 =>
 altT b_226 (fun a_227 =>
  .ret (.inr (.inr (.inr (.inr (.inr (.inr (.inr (.inr (.inr (.inr (.inr (.inr (.inr (.inl (a_227.1, { a_227.2 with asked := [] })))))))))))))))) fun b_228 =>
 .ret (.inr (.inr (.inr (.inr (.inr (.inr (.inr (.inr (.inr (.inr (.inr (.inr (.inr (.inr (b_228.1, { b_228.2 with asked := [] }))))))))))))))))
 (.ite (s.Kind == 6) (.opt (client_work_syncs_2 s.File { w with asked := [] }) fun r_229 =>
 altT r_229 (fun a_230 =>
  .ret (.inr (.inr (.inr (.inr (.inr (.inr (.inr (.inl a_230))))))))) fun b_231 =>
 altT b_231 (fun a_232 =>
  .ret (.inr (.inr (.inr (.inr (.inr (.inr (.inr (.inr (.inl a_232)))))))))) fun b_233 =>
 altT b_233 (fun a_234 =>
  .ret (.inr (.inr (.inr (.inr (.inr (.inr (.inr (.inr (.inr (.inr (.inr (.inr (.inl (a_234.1, { a_234.2 with asked := [] }))))))))))))))) fun b_235 =>
 .ret (.inr (.inr (.inr (.inr (.inr (.inr (.inr (.inr (.inr (.inr (.inr (.inr (.inr (.inl (b_235.1, { b_235.2 with asked := [] }))))))))))))))))
 (.ite (s.Kind == 7) (.opt (client_work_drops_2 s.File { w with asked := [] }) fun r_236 =>
 altT r_236 (fun a_237 =>
  .ret (.inr (.inr (.inr (.inr (.inr (.inr (.inl a_237)))))))) fun b_238 =>
 altT b_238 (fun a_239 =>
  .ret (.inr (.inr (.inr (.inr (.inr (.inr (.inr (.inl a_239))))))))) fun b_240 =>
 altT b_240 (fun a_241 =>
  .ret (.inr (.inr (.inr (.inr (.inr (.inr (.inr (.inr (.inr (.inr (.inr (.inl (a_241.1, { a_241.2 with asked := [] })))))))))))))) fun b_242 =>
 .ret (.inr (.inr (.inr (.inr (.inr (.inr (.inr (.inr (.inr (.inr (.inr (.inr (.inl (b_242.1, { b_242.2 with asked := [] })))))))))))))))
 (.ite (s.Kind == 8) (.opt (client_work_ends_2 s.File { w with asked := [] }) fun r_243 =>
 altT r_243 (fun a_244 =>
  .ret (.inr (.inr (.inr (.inr (.inr (.inr (.inl a_244)))))))) fun b_245 =>
 altT b_245 (fun a_246 =>
  .ret (.inr (.inr (.inr (.inr (.inr (.inr (.inr (.inl a_246))))))))) fun b_247 =>
 .ret (.inr (.inr (.inr (.inr (.inr (.inr (.inr (.inr (.inr (.inr (.inr (.inl (b_247.1, { b_247.2 with asked := [] }))))))))))))))
 (.ret (.inr (.inl ({ w with asked := [] }))))))))))))))
def client_work_step := fun s w => (client_work_step_t n_ s w).get
def client_work_does_t (s : TStep) (w : Tclient_work) : Tree ((TAns × Tclient_work) ⊕ ((TAns × Tclient_work) ⊕ ((TAns × Tclient_work) ⊕ ((TAns × Tclient_work) ⊕ ((TAns × Tclient_work) ⊕ ((TAns × Tclient_work) ⊕ (Tclient_work ⊕ (Tclient_work ⊕ (Tclient_work ⊕ (Tclient_work ⊕ (Tclient_work ⊕ (Tclient_work ⊕ Tclient_work)))))))))))) :=
 .opt (client_work_step n_ s { w with asked := [] }) fun r_1 =>
 altT r_1 (fun a_2 =>
 .ret (.inr (.inl ((TAns.mk 5 0 []), { a_2 with asked := [] })))) fun b_3 =>
 altT b_3 (fun a_4 =>
 .ret (.inr (.inr (.inl ((TAns.mk 5 0 []), { a_4 with asked := [] }))))) fun b_5 =>
 altT b_5 (fun a_6 =>
 .ret (.inr (.inr (.inr (.inr (.inr (.inr (.inr (.inr (.inl a_6)))))))))) fun b_7 =>
 altT b_7 (fun a_8 =>
 .ret (.inr (.inr (.inr (.inr (.inr (.inr (.inr (.inr (.inr (.inl a_8))))))))))) fun b_9 =>
 altT b_9 (fun a_10 =>
 .ret (.inr (.inr (.inr (.inr (.inr (.inr (.inr (.inr (.inr (.inr (.inl a_10)))))))))))) fun b_11 =>
 altT b_11 (fun a_12 =>
 .ret (.inr (.inr (.inr (.inr (.inr (.inr (.inr (.inr (.inr (.inr (.inr (.inl a_12))))))))))))) fun b_13 =>
 altT b_13 (fun a_14 =>
 .ret (.inr (.inr (.inr (.inr (.inr (.inr (.inr (.inr (.inr (.inr (.inr (.inr a_14))))))))))))) fun b_15 =>
 altT b_15 (fun a_16 =>
 .ret (.inr (.inr (.inr (.inr (.inr (.inr (.inl a_16)))))))) fun b_17 =>
 altT b_17 (fun a_18 =>
 .ret (.inr (.inr (.inr (.inr (.inr (.inr (.inr (.inl a_18))))))))) fun b_19 =>
 altT b_19 (fun a_20 =>
 .ret (.inl (a_20.1.a, { a_20.2 with asked := [] }))) fun b_21 =>
 altT b_21 (fun a_22 =>
 .ret (.inr (.inl (a_22.1.a, { a_22.2 with asked := [] })))) fun b_23 =>
 altT b_23 (fun a_24 =>
 .ret (.inr (.inr (.inl (a_24.1.a, { a_24.2 with asked := [] }))))) fun b_25 =>
 altT b_25 (fun a_26 =>
 .ret (.inr (.inr (.inr (.inl (a_26.1.a, { a_26.2 with asked := [] })))))) fun b_27 =>
 altT b_27 (fun a_28 =>
 .ret (.inr (.inr (.inr (.inr (.inl (a_28.1.a, { a_28.2 with asked := [] }))))))) fun b_29 =>
 .ret (.inr (.inr (.inr (.inr (.inr (.inl (b_29.1.a, { b_29.2 with asked := [] })))))))
def client_work_does := fun s w => (client_work_does_t n_ s w).get
def client_Do_t (c : TClient) (s : TStep) : Tree (TClient × TAns × List TAsk) :=
 .opt (client_of n_ c) fun r_1 =>
 .opt (client_work_does n_ s { r_1 with asked := [] }) fun r_2 =>
 altT r_2 (fun a_3 =>
 .ret (a_3.2.Client, a_3.1, [])) fun b_4 =>
 altT b_4 (fun a_5 =>
 .ret (a_5.2.Client, a_5.1, [])) fun b_6 =>
 altT b_6 (fun a_7 =>
 .ret (a_7.2.Client, a_7.1, [])) fun b_8 =>
 altT b_8 (fun a_9 =>
 .ret (a_9.2.Client, a_9.1, [])) fun b_10 =>
 altT b_10 (fun a_11 =>
 .ret (a_11.2.Client, a_11.1, [])) fun b_12 =>
 altT b_12 (fun a_13 =>
 .ret (a_13.2.Client, a_13.1, [])) fun b_14 =>
 altT b_14 (fun a_15 =>
 .ret (a_15.Client, (TAns.mk 5 0 []), a_15.asked)) fun b_16 =>
 altT b_16 (fun a_17 =>
 .ret (a_17.Client, (TAns.mk 5 0 []), a_17.asked)) fun b_18 =>
 altT b_18 (fun a_19 =>
 .ret (a_19.Client, (TAns.mk 5 0 []), a_19.asked)) fun b_20 =>
 altT b_20 (fun a_21 =>
 .ret (a_21.Client, (TAns.mk 5 0 []), a_21.asked)) fun b_22 =>
 altT b_22 (fun a_23 =>
 .ret (a_23.Client, (TAns.mk 5 0 []), a_23.asked)) fun b_24 =>
 altT b_24 (fun a_25 =>
 .ret (a_25.Client, (TAns.mk 5 0 []), a_25.asked)) fun b_26 =>
 .ret (b_26.Client, (TAns.mk 5 0 []), b_26.asked)
def client_Do := fun c s => (client_Do_t n_ c s).get
def world_host_does_t (s : TStep) (h : Tworld_host) : Tree ((Tworld_host × List TGram) ⊕ Tworld_refused) :=
 .opt (world_host_client s.R h) fun r_1 =>
 altT r_1 (fun a_2 =>
 .opt (h.World.Clients[a_2]?) fun y_3 =>
 .opt (client_Do n_ y_3 s) fun r_4 =>
 .opt (h.World.Clients[a_2]?) fun y_5 =>
 .opt (world_host_asks n_ r_4.2.2 (Tworld_host.mk { h.World with Clients := (h.World.Clients.set a_2 r_4.1) } r_4.2.1)) fun r_6 =>
 .ret (.inl (r_6.1, r_6.2))) fun b_7 =>
 .ret (.inr b_7)
def world_host_does := fun s h => (world_host_does_t n_ s h).get
def net_there_t (l : List TGram) (i : Int) : TT Bool :=
 .ite (decide (i ≥ 0)) (.ret (decide (i < (l.length : Int))))
 (.ret false)
def net_there := fun l i => (net_there_t l i).val
def net_Comes_t (l : List TGram) (i : Int) : Tree (List TGram × TGram × Bool) :=
 .ite (!(net_there l i)) (.ret (l, (TGram.mk 0 [] false), false))
 (.ite (inR i l.length) (.opt (l[i.toNat]?) fun y_1 =>
 .ite (cutOk i (wi64 (i + 1)) l.length) (.ret ((delL l i (wi64 (i + 1))), y_1, true)) .fail) .fail)
def net_Comes := fun l i => (net_Comes_t l i).get
def bits_front_t (b : List UInt8) (n : Int) : Tree ((List UInt8) ⊕ Unit) :=
 .ite (decide ((b.length : Int) < n)) (.ret (.inr ()))
 (.ite (cutOk 0 n b.length) (.ret (.inl (cutL b 0 n))) .fail)
def bits_front := fun b n => (bits_front_t b n).get
def bits_Take_s0t (t16 : List UInt8) (t17 : Int) (ok : Bool) (v_ : Int × Int) : Tree ((Int × Int) ⊕ Int) :=
 .ite (decide (v_.2 < t17)) (.ite (inR v_.2 t16.length) (.opt (t16[v_.2.toNat]?) fun y_1 =>
  .ret (.inl ((bor .i64 (shlI .i64 v_.1 8) (wi64 (i8 y_1))), (wi64 (v_.2 + 1))))) .fail)
 (.ret (.inr v_.1))
def bits_Take_s0 := fun t16 t17 ok v_ => (bits_Take_s0t t16 t17 ok v_).get
def bits_Take_l0 := fun t16 t17 ok v t18 => iter (bits_Take_s0 t16 t17 ok) n_ (v, t18)
def bits_Take_t (b : List UInt8) (n : Int) : Tree (Int × Bool) :=
 .ite (decide (n < 1)) (.ret (0, false))
 (.ite (decide (n > 7)) (.ret (0, false))
 (.opt (bits_front b n) fun r_1 =>
 altT r_1 (fun a_2 =>
 .opt (bits_Take_l0 n_ a_2 (a_2.length : Int) false 0 0) fun r_3 =>
 .ret (r_3, true)) fun b_4 =>
 .ret (0, false)))
def bits_Take := fun b n => (bits_Take_t n_ b n).get
def msg_reader_num_t (n : Int) (r : Tmsg_reader) : Tree ((Int × Tmsg_reader) ⊕ Unit) :=
 .opt (bits_Take n_ r.b n) fun r_1 =>
 .ite (!r_1.2) (.ret (.inr ()))
 (.ite (cutOk n (r.b.length : Int) r.b.length) (.ret (.inl (r_1.1, (Tmsg_reader.mk (cutL r.b n (r.b.length : Int)))))) .fail)
def msg_reader_num := fun n r => (msg_reader_num_t n_ n r).get
def bits_TakeText_t (b : List UInt8) : Tree (List UInt8 × Int × Bool) :=
 .opt (bits_front b 1) fun r_1 =>
 altT r_1 (fun a_2 =>
 .ite (inR 0 a_2.length) (.opt (a_2[0]?) fun y_3 =>
  .ite (decide ((b.length : Int) < (wi64 ((wi64 (i8 y_3)) + 1)))) (.ret ([], 0, false))
  (.ite (cutOk 1 (wi64 ((wi64 (i8 y_3)) + 1)) b.length) (.ret ((cutL b 1 (wi64 ((wi64 (i8 y_3)) + 1))), (wi64 ((wi64 (i8 y_3)) + 1)), true)) .fail)) .fail) fun b_4 =>
 .ret ([], 0, false)
def bits_TakeText := fun b => (bits_TakeText_t b).get
def msg_reader_text_t (r : Tmsg_reader) : Tree ((List UInt8 × Tmsg_reader) ⊕ Unit) :=
 .opt (bits_TakeText r.b) fun r_1 =>
 .ite (!r_1.2.2) (.ret (.inr ()))
 (.ite (cutOk r_1.2.1 (r.b.length : Int) r.b.length) (.ret (.inl (r_1.1, (Tmsg_reader.mk (cutL r.b r_1.2.1 (r.b.length : Int)))))) .fail)
def msg_reader_text := fun r => (msg_reader_text_t r).get
def msg_reader_ask_s0t (v_ : Int × Tmsg_reader × TAsk) : Tree ((Int × Tmsg_reader × TAsk) ⊕ ((Tmsg_reader × TAsk) ⊕ ((Tmsg_reader × TAsk × TWrite) ⊕ (Tmsg_reader × TAsk)))) :=
 .ite (decide (v_.1 > 0)) (.opt (msg_reader_num n_ 1 v_.2.1) fun r_1 =>
 altT r_1 (fun a_2 =>
  .opt (msg_reader_text a_2.2) fun r_3 =>
  altT r_3 (fun a_4 =>
  .ite (decide ((v_.2.2.Writes.length + 1) ≤ lim)) (.ret (.inl ((wi64 (v_.1 - 1)), a_4.2, { v_.2.2 with Writes := (v_.2.2.Writes ++ [(TWrite.mk a_2.1 a_4.1)]) }))) .fail) fun b_5 =>
  .ret (.inr (.inr (.inl (a_2.2, v_.2.2, (TWrite.mk a_2.1 [])))))) fun b_6 =>
 .ret (.inr (.inl (v_.2.1, v_.2.2))))
 (.ret (.inr (.inr (.inr (v_.2.1, v_.2.2)))))
def msg_reader_ask_s0 := fun v_ => (msg_reader_ask_s0t n_ v_).get
def msg_reader_ask_l0 := fun n r a => iter (msg_reader_ask_s0 n_) n_ (n, r, a)
def msg_reader_ask_t (r : Tmsg_reader) : Tree ((TAsk × Tmsg_reader) ⊕ Tmsg_reader) :=
 .opt (msg_reader_num n_ 1 r) fun r_1 =>
 altT r_1 (fun a_2 =>
 .opt (msg_reader_num n_ 1 a_2.2) fun r_3 =>
 altT r_3 (fun a_4 =>
  .opt (msg_reader_num n_ 4 a_4.2) fun r_5 =>
  altT r_5 (fun a_6 =>
  .opt (msg_reader_num n_ 4 a_6.2) fun r_7 =>
  altT r_7 (fun a_8 =>
   .opt (msg_reader_text a_8.2) fun r_9 =>
   altT r_9 (fun a_10 =>
   .opt (msg_reader_num n_ 1 a_10.2) fun r_11 =>
   altT r_11 (fun a_12 =>
    .opt (msg_reader_num n_ 1 a_12.2) fun r_13 =>
    altT r_13 (fun a_14 =>
    .opt (msg_reader_num n_ 1 a_14.2) fun r_15 =>
    altT r_15 (fun a_16 =>
     .opt (msg_reader_ask_l0 n_ a_16.1 a_16.2 (TAsk.mk a_2.1 a_4.1 a_6.1 a_8.1 a_10.1 a_12.1 a_14.1 [])) fun r_17 =>
     altT r_17 (fun a_18 =>
     .ret (.inr a_18.1)) fun b_19 =>
     altT b_19 (fun a_20 =>
     .ret (.inr a_20.1)) fun b_21 =>
     .ret (.inl (b_21.2, b_21.1))) fun b_22 =>
    .ret (.inr a_14.2)) fun b_23 =>
    .ret (.inr a_12.2)) fun b_24 =>
   .ret (.inr a_10.2)) fun b_25 =>
   .ret (.inr a_8.2)) fun b_26 =>
  .ret (.inr a_6.2)) fun b_27 =>
  .ret (.inr a_4.2)) fun b_28 =>
 .ret (.inr a_2.2)) fun b_29 =>
 .ret (.inr r)
def msg_reader_ask := fun r => (msg_reader_ask_t n_ r).get
def slices_Equal_byte_s0t (s1 : List UInt8) (s2 : List UInt8) (t12 : Int) (v_ : Int) : Tree (Int ⊕ (Unit ⊕ Unit)) :=
 .ite (decide (v_ < t12)) (.ite (inR v_ s1.length) (.opt (s1[v_.toNat]?) fun y_1 =>
  .ite (inR v_ s2.length) (.opt (s2[v_.toNat]?) fun y_2 =>
  .ite ((i8 y_1) != (i8 y_2)) (.ret (.inr (.inl ())))
  (.ret (.inl (wi64 (v_ + 1))))) .fail) .fail)
 (.ret (.inr (.inr ())))
def slices_Equal_byte_s0 := fun s1 s2 t12 v_ => (slices_Equal_byte_s0t s1 s2 t12 v_).get
def slices_Equal_byte_l0 := fun s1 s2 t12 t13 => iter (slices_Equal_byte_s0 s1 s2 t12) n_ t13
def slices_Equal_byte_t (s1 : List UInt8) (s2 : List UInt8) : Tree Bool :=
 .ite ((s1.length : Int) != (s2.length : Int)) (.ret false)
 (.opt (slices_Equal_byte_l0 n_ s1 s2 (s1.length : Int) 0) fun r_1 =>
 altT r_1 (fun a_2 =>
 .ret false) fun b_3 =>
 .ret true)
def slices_Equal_byte := fun s1 s2 => (slices_Equal_byte_t n_ s1 s2).get
def msg_takes_Ask_t (b : List UInt8) : Tree (TAsk × Bool) :=
 .opt (msg_reader_ask n_ (Tmsg_reader.mk b)) fun r_1 =>
 altT r_1 (fun a_2 =>
 .ite ((b.length : Int) == 0) (.ret ((TAsk.mk 0 0 0 0 [] 0 0 []), false))
 (.opt (msg_PutAsk n_ a_2.1) fun r_3 =>
 .opt (slices_Equal_byte n_ r_3 b) fun r_4 =>
 .ite (!r_4) (.ret ((TAsk.mk 0 0 0 0 [] 0 0 []), false))
 (.ret (a_2.1, true)))) fun b_5 =>
 .ret ((TAsk.mk 0 0 0 0 [] 0 0 []), false)
def msg_takes_Ask := fun b => (msg_takes_Ask_t n_ b).get
def msg_TakeAsk_t (b : List UInt8) : Tree (TAsk × Bool) :=
 .opt (msg_takes_Ask n_ b) fun r_1 =>
 .ret (r_1.1, r_1.2)
def msg_TakeAsk := fun b => (msg_TakeAsk_t n_ b).get
def mark_there_t (l : List TMark) (client : Int) : TT Bool :=
 .ite (decide (client ≥ 1)) (.ret (decide (client ≤ (l.length : Int))))
 (.ret false)
def mark_there := fun l client => (mark_there_t l client).val
def mark_Is_t (l : List TMark) (client : Int) (seq : Int) : Tree (TMark × Bool) :=
 .ite (!(mark_there l client)) (.ret ((TMark.mk 0 0 0 0), false))
 (.ite (decide (seq ≤ 0)) (.ret ((TMark.mk 0 0 0 0), false))
 (.ite (inR (wi64 (client - 1)) l.length) (.opt (l[(wi64 (client - 1)).toNat]?) fun y_1 =>
 .ite (y_1.Seq != seq) (.ret ((TMark.mk 0 0 0 0), false))
 (.ite (inR (wi64 (client - 1)) l.length) (.opt (l[(wi64 (client - 1)).toNat]?) fun y_2 =>
  .ret (y_2, true)) .fail)) .fail))
def mark_Is := fun l client seq => (mark_Is_t l client seq).get
def sess_Judge_t (epoch : Int) (seen : List Int) (told : List TTell) (marks : List TMark) (a : TAsk) : Tree (Int × TTell) :=
 .ite ((seen.length : Int) != (marks.length : Int)) (.ret (2, (TTell.mk 0 0 0 0 0 0 0 0 [])))
 (.ite ((told.length : Int) != (marks.length : Int)) (.ret (2, (TTell.mk 0 0 0 0 0 0 0 0 [])))
 (.ite (decide (a.From < 1)) (.ret (2, (TTell.mk 0 0 0 0 0 0 0 0 [])))
 (.ite (decide (a.From > (seen.length : Int))) (.ret (2, (TTell.mk 0 0 0 0 0 0 0 0 [])))
 (.ite (decide (a.Seq < 1)) (.ret (2, (TTell.mk 0 0 0 0 0 0 0 0 [])))
 (.ite (a.Epoch != epoch) (.ret (1, (TTell.mk 0 0 0 0 0 0 0 0 [])))
 (.ite (inR (wi64 (a.From - 1)) seen.length) (.opt (seen[(wi64 (a.From - 1)).toNat]?) fun y_1 =>
 .ite (decide (a.Seq < y_1)) (.ret (2, (TTell.mk 0 0 0 0 0 0 0 0 [])))
 (.ite (inR (wi64 (a.From - 1)) told.length) (.opt (told[(wi64 (a.From - 1)).toNat]?) fun y_2 =>
  .ite (y_2.Seq == a.Seq) (.ite (inR (wi64 (a.From - 1)) told.length) (.opt (told[(wi64 (a.From - 1)).toNat]?) fun y_3 =>
   .ret (3, y_3)) .fail)
  (.opt (mark_Is marks a.From a.Seq) fun r_4 =>
  .ite r_4.2 (.ret (3, (TTell.mk 1 a.From epoch a.Seq r_4.1.Err r_4.1.File 0 r_4.1.Ver [])))
  (.ret (4, (TTell.mk 0 0 0 0 0 0 0 0 []))))) .fail)) .fail))))))
def sess_Judge := fun epoch seen told marks a => (sess_Judge_t epoch seen told marks a).get
def server_host_done_5_t (client : Int) (t : TTell) (h : Tserver_host) : Tree Tserver_host :=
 .ite (decide (client ≥ 1)) (.ite (decide (client ≤ (h.Server.Told.length : Int))) (.ite (inR (wi64 (client - 1)) h.Server.Told.length) (.opt (h.Server.Told[(wi64 (client - 1)).toNat]?) fun y_1 =>
  .ite (decide (y_1.Seq ≤ t.Seq)) (.ite (inR (wi64 (client - 1)) h.Server.Told.length) (.opt (h.Server.Told[(wi64 (client - 1)).toNat]?) fun y_2 =>
   .ret (Tserver_host.mk { h.Server with Told := (h.Server.Told.set (wi64 (client - 1)).toNat { t with Kind := 1, To := client, Epoch := h.Server.Store.S.Epoch }) } [{ t with Kind := 1, To := client, Epoch := h.Server.Store.S.Epoch }])) .fail)
  (.ret ({ h with told := [{ t with Kind := 1, To := client, Epoch := h.Server.Store.S.Epoch }] }))) .fail)
 (.ret ({ h with told := [{ t with Kind := 1, To := client, Epoch := h.Server.Store.S.Epoch }] })))
 (.ret ({ h with told := [{ t with Kind := 1, To := client, Epoch := h.Server.Store.S.Epoch }] }))
def server_host_done_5 := fun client t h => (server_host_done_5_t client t h).get
def server_host_says_t (a : TAsk) (t : TTell) (h : Tserver_host) : Tree Tserver_host :=
 .opt (server_host_done_5 a.From { t with Seq := a.Seq } { h with told := [] }) fun r_1 =>
 .ret r_1
def server_host_says := fun a t h => (server_host_says_t a t h).get
def state_twin (s : TState) : Unit := ()
def dir_number_c1 (f : TFile) (o0 : List UInt8) : Bool := (f.Name == o0)
def slices_IndexFunc_File_2_s0t (s : List TFile) (t7 : Int) (o0 : List UInt8) (v_ : Int) : Tree (Int ⊕ (Int ⊕ Unit)) :=
 .ite (decide (v_ < t7)) (.ite (inR v_ s.length) (.opt (s[v_.toNat]?) fun y_1 =>
  .ite (dir_number_c1 y_1 o0) (.ret (.inr (.inl v_)))
  (.ret (.inl (wi64 (v_ + 1))))) .fail)
 (.ret (.inr (.inr ())))
def slices_IndexFunc_File_2_s0 := fun s t7 o0 v_ => (slices_IndexFunc_File_2_s0t s t7 o0 v_).get
def slices_IndexFunc_File_2_l0 := fun s t7 o0 t8 => iter (slices_IndexFunc_File_2_s0 s t7 o0) n_ t8
def slices_IndexFunc_File_2_t (s : List TFile) (o0 : List UInt8) : Tree Int :=
 .opt (slices_IndexFunc_File_2_l0 n_ s (s.length : Int) o0 0) fun r_1 =>
 altT r_1 (fun a_2 =>
 .ret a_2) fun b_3 =>
 .ret (-1)
def slices_IndexFunc_File_2 := fun s o0 => (slices_IndexFunc_File_2_t n_ s o0).get
def dir_number_t (l : List TFile) (name : List UInt8) : Tree (Int × Bool) :=
 .opt (slices_IndexFunc_File_2 n_ l name) fun r_1 =>
 .ret ((wi64 (r_1 + 1)), (decide (r_1 ≥ 0)))
def dir_number := fun l name => (dir_number_t n_ l name).get
def dir_Find_t (l : List TFile) (name : List UInt8) : Tree (Int × Bool) :=
 .opt (dir_May n_ name) fun r_1 =>
 .ite (!r_1) (.ret (0, false))
 (.opt (dir_number n_ l name) fun r_2 =>
 .ret (r_2.1, r_2.2))
def dir_Find := fun l name => (dir_Find_t n_ l name).get
def dir_Room_t (l : List TFile) : Tree (Int × Bool) :=
 .opt (dir_number n_ l []) fun r_1 =>
 .ret (r_1.1, r_1.2)
def dir_Room := fun l => (dir_Room_t n_ l).get
def state_Open_c1_t (s : TState) (o3 : List UInt8) : Tree ((TMark × TState) ⊕ Tstate_refused) :=
 .opt (dir_May n_ o3) fun r_1 =>
 .ite (!r_1) (.ret (.inr (Tstate_refused.mk 1)))
 (.opt (dir_Find n_ s.Files o3) fun r_2 =>
 .ite (!r_2.2) (.opt (dir_Room n_ s.Files) fun r_3 =>
 .ite (!r_3.2) (.ret (.inr (Tstate_refused.mk 3)))
 (.ite (inR (wi64 (r_3.1 - 1)) s.Files.length) (.opt (s.Files[(wi64 (r_3.1 - 1)).toNat]?) fun y_4 =>
  .ite (inR (wi64 (r_3.1 - 1)) (s.Files.set (wi64 (r_3.1 - 1)).toNat (TFile.mk o3 1 [])).length) (.opt ((s.Files.set (wi64 (r_3.1 - 1)).toNat (TFile.mk o3 1 []))[(wi64 (r_3.1 - 1)).toNat]?) fun y_5 =>
  .ret (.inl ((TMark.mk 0 0 r_3.1 y_5.Ver), { s with Files := (s.Files.set (wi64 (r_3.1 - 1)).toNat (TFile.mk o3 1 [])) }))) .fail) .fail))
 (.ite (inR (wi64 (r_2.1 - 1)) s.Files.length) (.opt (s.Files[(wi64 (r_2.1 - 1)).toNat]?) fun y_6 =>
 .ret (.inl ((TMark.mk 0 0 r_2.1 y_6.Ver), s))) .fail))
def state_Open_c1 := fun s o3 => (state_Open_c1_t n_ s o3).get
def mark_Put_t (l : List TMark) (client : Int) (m : TMark) : Tree (List TMark) :=
 .ite (mark_there l client) (.ite (inR (wi64 (client - 1)) l.length) (.opt (l[(wi64 (client - 1)).toNat]?) fun y_1 =>
  .ite (decide (m.Seq > y_1.Seq)) (.ite (inR (wi64 (client - 1)) l.length) (.opt (l[(wi64 (client - 1)).toNat]?) fun y_2 =>
   .ret (l.set (wi64 (client - 1)).toNat m)) .fail)
  (.ret l)) .fail)
 (.ret l)
def mark_Put := fun l client m => (mark_Put_t l client m).get
def state_twin_2 (s : TState) : Unit := ()
def state_work_t (s : TState) (client : Int) (seq : Int) (o0 : List UInt8) : Tree (TState × TMark) :=
 .opt (state_Open_c1 n_ s o0) fun r_1 =>
 altT r_1 (fun a_2 =>
 .opt (mark_Put a_2.2.Marks client { a_2.1 with Seq := seq }) fun r_3 =>
 .ret ({ a_2.2 with Marks := r_3 }, { a_2.1 with Seq := seq })) fun b_4 =>
 .opt (mark_Put s.Marks client (TMark.mk seq b_4.e 0 0)) fun r_5 =>
 .ret ({ s with Marks := r_5 }, (TMark.mk seq b_4.e 0 0))
def state_work := fun s client seq o0 => (state_work_t n_ s client seq o0).get
def state_Open_t (s : TState) (client : Int) (seq : Int) (name : List UInt8) : Tree (TState × TMark) :=
 .opt (state_work n_ s client seq name) fun r_1 =>
 .ret (r_1.1, r_1.2)
def state_Open := fun s client seq name => (state_Open_t n_ s client seq name).get
def store_twin (s : TState) : Unit := ()
def jrnl_may_s0t (home : Int) (l : List TPut) (t10 : List TPut) (t11 : Int) (d : TDisk) (v_ : Int × Int) : Tree ((Int × Int) ⊕ (TPut ⊕ Unit)) :=
 .ite (decide (v_.2 < t11)) (.ite (inR v_.2 t10.length) (.opt (t10[v_.2.toNat]?) fun y_1 =>
  .ite (decide (y_1.At ≤ v_.1)) (.ret (.inr (.inl y_1)))
  (.ite (decide (y_1.At ≥ home)) (.ret (.inr (.inl y_1)))
  (.ite ((y_1.B.length : Int) != 32) (.ret (.inr (.inl y_1)))
  (.ret (.inl (y_1.At, (wi64 (v_.2 + 1)))))))) .fail)
 (.ret (.inr (.inr ())))
def jrnl_may_s0 := fun home l t10 t11 d v_ => (jrnl_may_s0t home l t10 t11 d v_).get
def jrnl_may_l0 := fun home l t10 t11 d last t12 => iter (jrnl_may_s0 home l t10 t11 d) n_ (last, t12)
def jrnl_may_t (d : TDisk) (home : Int) (l : List TPut) : Tree Bool :=
 .opt (jrnl_may_l0 n_ home l l (l.length : Int) d (-1) 0) fun r_1 =>
 altT r_1 (fun a_2 =>
 .ret false) fun b_3 =>
 .ite (decide ((l.length : Int) ≤ 16)) (.ret (decide ((wi64 (home + (l.length : Int))) < (d.Last.length : Int))))
 (.ret false)
def jrnl_may := fun d home l => (jrnl_may_t n_ d home l).get
def jrnl_noughts : Unit := ()
def jrnl_writer_does_t (d : TDisk) (ok : Bool) (w : Tjrnl_writer) : Tree (Tjrnl_writer ⊕ Tjrnl_writer) :=
 .ite (!ok) (.ret (.inr (Tjrnl_writer.mk d)))
 (.ret (.inl (Tjrnl_writer.mk d)))
def jrnl_writer_does := fun d ok w => (jrnl_writer_does_t d ok w).get
def jrnl_writer_write_t (i : Int) (b : List UInt8) (w : Tjrnl_writer) : Tree ((Tjrnl_writer × List (List UInt8) × List TPut) ⊕ (Tjrnl_writer × List (List UInt8) × List TPut)) :=
 .opt (disk_Write w.d i b) fun r_1 =>
 .opt (jrnl_writer_does r_1.1 r_1.2 w) fun r_2 =>
 altT r_2 (fun a_3 =>
 .ret (.inl (a_3, w.d.Last, w.d.Wait))) fun b_4 =>
 .ret (.inr (b_4, w.d.Last, w.d.Wait))
def jrnl_writer_write := fun i b w => (jrnl_writer_write_t i b w).get
def jrnl_writer_does_2_t (d : TDisk) (ok : Bool) (w : Tjrnl_writer) : Tree (Tjrnl_writer ⊕ Tjrnl_writer) :=
 .ite (!ok) (.ret (.inr (Tjrnl_writer.mk d)))
 (.ret (.inl (Tjrnl_writer.mk d)))
def jrnl_writer_does_2 := fun d ok w => (jrnl_writer_does_2_t d ok w).get
def jrnl_writer_flush_t (w : Tjrnl_writer) : Tree (Tjrnl_writer ⊕ Tjrnl_writer) :=
 .opt (disk_Flush n_ w.d) fun r_1 =>
 .opt (jrnl_writer_does_2 r_1.1 r_1.2 w) fun r_2 =>
 altT r_2 (fun a_3 =>
 .ret (.inl a_3)) fun b_4 =>
 .ret (.inr b_4)
def jrnl_writer_flush := fun w => (jrnl_writer_flush_t n_ w).get
def jrnl_writer_write_2_t (i : Int) (b : List UInt8) (w : Tjrnl_writer) : Tree (Tjrnl_writer ⊕ Tjrnl_writer) :=
 .opt (disk_Write w.d i b) fun r_1 =>
 .opt (jrnl_writer_does_2 r_1.1 r_1.2 w) fun r_2 =>
 altT r_2 (fun a_3 =>
 .ret (.inl a_3)) fun b_4 =>
 .ret (.inr b_4)
def jrnl_writer_write_2 := fun i b w => (jrnl_writer_write_2_t i b w).get
def jrnl_noughts_2 : Unit := ()
def jrnl_head_s0t (t16 : List TPut) (t17 : Int) (v_ : Int × List UInt8) : Tree ((Int × List UInt8) ⊕ (List UInt8)) :=
 .ite (decide (v_.1 < t17)) (.ite (inR v_.1 t16.length) (.opt (t16[v_.1.toNat]?) fun y_1 =>
  .ite (inR (wi64 (2 + v_.1)) v_.2.length) (.opt (v_.2[(wi64 (2 + v_.1)).toNat]?) fun y_2 =>
  .ret (.inl ((wi64 (v_.1 + 1)), (v_.2.set (wi64 (2 + v_.1)).toNat (b8 (wu8 y_1.At)))))) .fail) .fail)
 (.ret (.inr v_.2))
def jrnl_head_s0 := fun t16 t17 v_ => (jrnl_head_s0t t16 t17 v_).get
def jrnl_head_l0 := fun t16 t17 t18 b => iter (jrnl_head_s0 t16 t17) n_ (t18, b)
def jrnl_head_t (l : List TPut) : Tree (List UInt8) :=
 .ite (inR 1 ([0, 0, 0, 0, 0, 0, 0, 0, 0, 0, 0, 0, 0, 0, 0, 0, 0, 0, 0, 0, 0, 0, 0, 0, 0, 0, 0, 0, 0, 0, 0, 0].set 0 1).length) (.opt (([0, 0, 0, 0, 0, 0, 0, 0, 0, 0, 0, 0, 0, 0, 0, 0, 0, 0, 0, 0, 0, 0, 0, 0, 0, 0, 0, 0, 0, 0, 0, 0].set 0 1)[1]?) fun y_1 =>
 .ite (inR 31 (([0, 0, 0, 0, 0, 0, 0, 0, 0, 0, 0, 0, 0, 0, 0, 0, 0, 0, 0, 0, 0, 0, 0, 0, 0, 0, 0, 0, 0, 0, 0, 0].set 0 1).set 1 (b8 (wu8 (l.length : Int)))).length) (.opt ((([0, 0, 0, 0, 0, 0, 0, 0, 0, 0, 0, 0, 0, 0, 0, 0, 0, 0, 0, 0, 0, 0, 0, 0, 0, 0, 0, 0, 0, 0, 0, 0].set 0 1).set 1 (b8 (wu8 (l.length : Int))))[31]?) fun y_2 =>
  .opt (jrnl_head_l0 n_ l (l.length : Int) 0 ((([0, 0, 0, 0, 0, 0, 0, 0, 0, 0, 0, 0, 0, 0, 0, 0, 0, 0, 0, 0, 0, 0, 0, 0, 0, 0, 0, 0, 0, 0, 0, 0].set 0 1).set 1 (b8 (wu8 (l.length : Int)))).set 31 1)) fun r_3 =>
  .ret r_3) .fail) .fail
def jrnl_head := fun l => (jrnl_head_t n_ l).get
def jrnl_Commit_s0t (home : Int) (l : List TPut) (t54 : List TPut) (t55 : Int) (o0 : TDisk) (ok : Bool) (r4 : List (List UInt8)) (r5 : List TPut) (v_ : Int × TDisk × Tjrnl_writer) : Tree ((Int × TDisk × Tjrnl_writer) ⊕ ((TDisk × Tjrnl_writer × TPut) ⊕ (TDisk × Tjrnl_writer))) :=
 .ite (decide (v_.1 < t55)) (.ite (inR v_.1 t54.length) (.opt (t54[v_.1.toNat]?) fun y_1 =>
  .opt (jrnl_writer_write_2 (wi64 ((wi64 (home + 1)) + v_.1)) y_1.B v_.2.2) fun r_2 =>
  altT r_2 (fun a_3 =>
  .ret (.inl ((wi64 (v_.1 + 1)), { v_.2.1 with Last := [], Wait := [] }, a_3))) fun b_4 =>
  .ret (.inr (.inl ({ v_.2.1 with Last := [], Wait := [] }, b_4, y_1)))) .fail)
 (.ret (.inr (.inr ({ v_.2.1 with Last := [], Wait := [] }, v_.2.2))))
def jrnl_Commit_s0 := fun home l t54 t55 o0 ok r4 r5 v_ => (jrnl_Commit_s0t home l t54 t55 o0 ok r4 r5 v_).get
def jrnl_Commit_l0 := fun home l t54 t55 o0 ok r4 r5 t56 x w => iter (jrnl_Commit_s0 home l t54 t55 o0 ok r4 r5) n_ (t56, x, w)
def jrnl_Commit_s1t (t79 : List TPut) (t80 : Int) (o0 : TDisk) (ok : Bool) (r4 : List (List UInt8)) (r5 : List TPut) (v_ : Int × TDisk × Tjrnl_writer) : Tree ((Int × TDisk × Tjrnl_writer) ⊕ ((TDisk × Tjrnl_writer × TPut) ⊕ (TDisk × Tjrnl_writer))) :=
 .ite (decide (v_.1 < t80)) (.ite (inR v_.1 t79.length) (.opt (t79[v_.1.toNat]?) fun y_1 =>
  .opt (jrnl_writer_write_2 y_1.At y_1.B v_.2.2) fun r_2 =>
  altT r_2 (fun a_3 =>
  .ret (.inl ((wi64 (v_.1 + 1)), { v_.2.1 with Last := [], Wait := [] }, a_3))) fun b_4 =>
  .ret (.inr (.inl ({ v_.2.1 with Last := [], Wait := [] }, b_4, y_1)))) .fail)
 (.ret (.inr (.inr ({ v_.2.1 with Last := [], Wait := [] }, v_.2.2))))
def jrnl_Commit_s1 := fun t79 t80 o0 ok r4 r5 v_ => (jrnl_Commit_s1t t79 t80 o0 ok r4 r5 v_).get
def jrnl_Commit_l1 := fun t79 t80 o0 ok r4 r5 t81 x w => iter (jrnl_Commit_s1 t79 t80 o0 ok r4 r5) n_ (t81, x, w)
def jrnl_Commit_t (d : TDisk) (home : Int) (l : List TPut) : Tree (TDisk × Bool) :=
 .ite ((l.length : Int) == 0) (.ret (d, true))
 (.opt (jrnl_may n_ d home l) fun r_1 =>
 .ite (!r_1) (.ret (d, false))
 (.opt (jrnl_writer_write home [0, 0, 0, 0, 0, 0, 0, 0, 0, 0, 0, 0, 0, 0, 0, 0, 0, 0, 0, 0, 0, 0, 0, 0, 0, 0, 0, 0, 0, 0, 0, 0] (Tjrnl_writer.mk d)) fun r_2 =>
 altT r_2 (fun a_3 =>
 .opt (jrnl_writer_flush n_ a_3.1) fun r_4 =>
 altT r_4 (fun a_5 =>
  .opt (jrnl_Commit_l0 n_ home l l (l.length : Int) d false a_3.2.1 a_3.2.2 0 (TDisk.mk [] [] 0 false) a_5) fun r_6 =>
  altT r_6 (fun a_7 =>
  .ret (a_7.2.1.d, false)) fun b_8 =>
  .opt (jrnl_writer_flush n_ b_8.2) fun r_9 =>
  altT r_9 (fun a_10 =>
  .opt (jrnl_head n_ l) fun r_11 =>
  .opt (jrnl_writer_write_2 home r_11 a_10) fun r_12 =>
  altT r_12 (fun a_13 =>
   .opt (jrnl_writer_flush n_ a_13) fun r_14 =>
   altT r_14 (fun a_15 =>
   .opt (jrnl_Commit_l1 n_ l (l.length : Int) d false a_3.2.1 a_3.2.2 0 (TDisk.mk [] [] b_8.1.Arm b_8.1.Down) a_15) fun r_16 =>
   altT r_16 (fun a_17 =>
    .ret (a_17.2.1.d, false)) fun b_18 =>
   .opt (jrnl_writer_flush n_ b_18.2) fun r_19 =>
   altT r_19 (fun a_20 =>
    .ret (a_20.d, true)) fun b_21 =>
   .ret (b_21.d, false)) fun b_22 =>
   .ret (b_22.d, false)) fun b_23 =>
  .ret (b_23.d, false)) fun b_24 =>
  .ret (b_24.d, false)) fun b_25 =>
 .ret (b_25.d, false)) fun b_26 =>
 .ret (b_26.1.d, false)))
def jrnl_Commit := fun d home l => (jrnl_Commit_t n_ d home l).get
def image_Diff_s0t (a : List (List UInt8)) (t7 : List (List UInt8)) (t8 : Int) (v_ : Int × List TPut) : Tree ((Int × List TPut) ⊕ (List TPut)) :=
 .ite (decide (v_.1 < t8)) (.ite (inR v_.1 t7.length) (.opt (t7[v_.1.toNat]?) fun y_1 =>
  .ite (decide (v_.1 ≥ (a.length : Int))) (.ite (decide ((v_.2.length + 1) ≤ lim)) (.ret (.inl ((wi64 (v_.1 + 1)), (v_.2 ++ [(TPut.mk v_.1 y_1)])))) .fail)
  (.ite (inR v_.1 a.length) (.opt (a[v_.1.toNat]?) fun y_2 =>
  .ite (!(y_2 == y_1)) (.ite (decide ((v_.2.length + 1) ≤ lim)) (.ret (.inl ((wi64 (v_.1 + 1)), (v_.2 ++ [(TPut.mk v_.1 y_1)])))) .fail)
  (.ret (.inl ((wi64 (v_.1 + 1)), v_.2)))) .fail)) .fail)
 (.ret (.inr v_.2))
def image_Diff_s0 := fun a t7 t8 v_ => (image_Diff_s0t a t7 t8 v_).get
def image_Diff_l0 := fun a t7 t8 t9 l => iter (image_Diff_s0 a t7 t8) n_ (t9, l)
def image_Diff_t (a : List (List UInt8)) (b : List (List UInt8)) : Tree (List TPut) :=
 .opt (image_Diff_l0 n_ a b (b.length : Int) 0 []) fun r_1 =>
 .ret r_1
def image_Diff := fun a b => (image_Diff_t n_ a b).get
def store_Commit_t (st : TStore) (s : TState) : Tree (TStore × Bool) :=
 .opt (image_Put n_ s) fun r_1 =>
 .ite ((r_1.length : Int) == 0) (.opt (jrnl_Commit n_ st.D 0 []) fun r_2 =>
 .ret ((TStore.mk r_2.1 st.S), false))
 (.opt (store_home n_) fun r_3 =>
 .opt (image_Put n_ st.S) fun r_4 =>
 .opt (image_Diff n_ r_4 r_1) fun r_5 =>
 .opt (jrnl_Commit n_ st.D r_3 r_5) fun r_6 =>
 .ite r_6.2 (.ret ((TStore.mk r_6.1 s), r_6.2))
 (.ret ((TStore.mk r_6.1 st.S), r_6.2)))
def store_Commit := fun st s => (store_Commit_t n_ st s).get
def server_host_commits_t (s : TState) (h : Tserver_host) : Tree ((Tserver_host × List (List UInt8) × List TPut) ⊕ (Tserver_host × List (List UInt8) × List TPut)) :=
 .opt (store_Commit n_ h.Server.Store s) fun r_1 =>
 .ite (!r_1.2) (.ret (.inr ((Tserver_host.mk { h.Server with Store := r_1.1 } []), h.Server.Store.D.Last, h.Server.Store.D.Wait)))
 (.ret (.inl ((Tserver_host.mk { h.Server with Store := r_1.1 } []), h.Server.Store.D.Last, h.Server.Store.D.Wait)))
def server_host_commits := fun s h => (server_host_commits_t n_ s h).get
def server_host_done_6_t (client : Int) (t : TTell) (h : Tserver_host) : Tree Tserver_host :=
 .ite (decide (client ≥ 1)) (.ite (decide (client ≤ (h.Server.Told.length : Int))) (.ite (inR (wi64 (client - 1)) h.Server.Told.length) (.opt (h.Server.Told[(wi64 (client - 1)).toNat]?) fun y_1 =>
  .ite (decide (y_1.Seq ≤ t.Seq)) (.ite (inR (wi64 (client - 1)) h.Server.Told.length) (.opt (h.Server.Told[(wi64 (client - 1)).toNat]?) fun y_2 =>
   .ret (Tserver_host.mk { h.Server with Told := (h.Server.Told.set (wi64 (client - 1)).toNat { t with Kind := 1, To := client, Epoch := h.Server.Store.S.Epoch }) } [{ t with Kind := 1, To := client, Epoch := h.Server.Store.S.Epoch }])) .fail)
  (.ret ({ h with told := [{ t with Kind := 1, To := client, Epoch := h.Server.Store.S.Epoch }] }))) .fail)
 (.ret ({ h with told := [{ t with Kind := 1, To := client, Epoch := h.Server.Store.S.Epoch }] })))
 (.ret ({ h with told := [{ t with Kind := 1, To := client, Epoch := h.Server.Store.S.Epoch }] }))
def server_host_done_6 := fun client t h => (server_host_done_6_t client t h).get
def server_host_says_2_t (a : TAsk) (t : TTell) (h : Tserver_host) : Tree Tserver_host :=
 .opt (server_host_done_6 a.From { t with Seq := a.Seq } { h with told := [] }) fun r_1 =>
 .ret r_1
def server_host_says_2 := fun a t h => (server_host_says_2_t a t h).get
def server_host_marked_t (a : TAsk) (m : TMark) (h : Tserver_host) : Tree Tserver_host :=
 .opt (server_host_says_2 a (TTell.mk 0 0 0 0 m.Err m.File 0 m.Ver []) { h with told := [] }) fun r_1 =>
 .ret r_1
def server_host_marked := fun a m h => (server_host_marked_t a m h).get
def server_host_opens_t (a : TAsk) (h : Tserver_host) : Tree ((Tserver_host × List (List UInt8) × List TPut × List TFile × List TMark) ⊕ (Tserver_host × List (List UInt8) × List TPut × List TFile × List TMark)) :=
 .opt (state_Open n_ h.Server.Store.S a.From a.Seq a.Name) fun r_1 =>
 .opt (server_host_commits n_ r_1.1 { h with told := [] }) fun r_2 =>
 altT r_2 (fun a_3 =>
 .opt (server_host_marked a r_1.2 { a_3.1 with told := [] }) fun r_4 =>
 .ret (.inl (r_4, a_3.2.1, a_3.2.2, h.Server.Store.S.Files, h.Server.Store.S.Marks))) fun b_5 =>
 .ret (.inr ({ b_5.1 with told := [] }, b_5.2.1, b_5.2.2, h.Server.Store.S.Files, h.Server.Store.S.Marks))
def server_host_opens := fun a h => (server_host_opens_t n_ a h).get
def server_host_there_3_t (n : Int) (h : Tserver_host) : Tree Bool :=
 .ite (decide (n ≥ 1)) (.ite (decide (n ≤ (h.Server.Store.S.Files.length : Int))) (.ite (inR (wi64 (n - 1)) h.Server.Store.S.Files.length) (.opt (h.Server.Store.S.Files[(wi64 (n - 1)).toNat]?) fun y_1 =>
  .ret (!(y_1.Name == []))) .fail)
 (.ret false))
 (.ret false)
def server_host_there_3 := fun n h => (server_host_there_3_t n h).get
def line_place_c1 (w : TWait) (o0 : Int) : Bool := (w.Client == o0)
def slices_IndexFunc_Wait_3_s0t (s : List TWait) (t7 : Int) (o0 : Int) (v_ : Int) : Tree (Int ⊕ (Int ⊕ Unit)) :=
 .ite (decide (v_ < t7)) (.ite (inR v_ s.length) (.opt (s[v_.toNat]?) fun y_1 =>
  .ite (line_place_c1 y_1 o0) (.ret (.inr (.inl v_)))
  (.ret (.inl (wi64 (v_ + 1))))) .fail)
 (.ret (.inr (.inr ())))
def slices_IndexFunc_Wait_3_s0 := fun s t7 o0 v_ => (slices_IndexFunc_Wait_3_s0t s t7 o0 v_).get
def slices_IndexFunc_Wait_3_l0 := fun s t7 o0 t8 => iter (slices_IndexFunc_Wait_3_s0 s t7 o0) n_ t8
def slices_IndexFunc_Wait_3_t (s : List TWait) (o0 : Int) : Tree Int :=
 .opt (slices_IndexFunc_Wait_3_l0 n_ s (s.length : Int) o0 0) fun r_1 =>
 altT r_1 (fun a_2 =>
 .ret a_2) fun b_3 =>
 .ret (-1)
def slices_IndexFunc_Wait_3 := fun s o0 => (slices_IndexFunc_Wait_3_t n_ s o0).get
def line_place_t (l : List TWait) (client : Int) : Tree Int :=
 .opt (slices_IndexFunc_Wait_3 n_ l client) fun r_1 =>
 .ret r_1
def line_place := fun l client => (line_place_t n_ l client).get
def line_Drop_2_t (l : List TWait) (client : Int) : Tree (List TWait) :=
 .opt (slices_DeleteFunc_Wait n_ client l) fun r_1 =>
 .ret r_1
def line_Drop_2 := fun l client => (line_Drop_2_t n_ l client).get
def line_Put_t (l : List TWait) (w : TWait) : Tree (List TWait × Bool) :=
 .opt (line_place n_ l w.Client) fun r_1 =>
 .ite (decide (r_1 ≥ 0)) (.ite (inR r_1 l.length) (.opt (l[r_1.toNat]?) fun y_2 =>
  .ite (y_2.File == w.File) (.ite (inR r_1 l.length) (.opt (l[r_1.toNat]?) fun y_3 =>
   .ret ((l.set r_1.toNat w), true)) .fail)
  (.opt (line_Drop_2 n_ l w.Client) fun r_4 =>
  .ite (decide ((r_4.length : Int) ≥ 4)) (.ret (l, false))
  (.ite (decide ((r_4.length + 1) ≤ lim)) (.ret ((r_4 ++ [w]), true)) .fail))) .fail)
 (.opt (line_Drop_2 n_ l w.Client) fun r_5 =>
 .ite (decide ((r_5.length : Int) ≥ 4)) (.ret (l, false))
 (.ite (decide ((r_5.length + 1) ≤ lim)) (.ret ((r_5 ++ [w]), true)) .fail))
def line_Put := fun l w => (line_Put_t n_ l w).get
def desk_Ask_t (d : TDesk) (now : Int) (w : TWait) : Tree (TDesk × Bool × List Int × Int) :=
 .opt (desk_pruned n_ d now) fun r_1 =>
 .opt (desk_may n_ r_1 now w) fun r_2 =>
 .ite r_2 (.opt (desk_lets n_ r_1 now w) fun r_3 =>
 .ret (r_3, true, [], 0))
 (.opt (line_Put n_ r_1.Line w) fun r_4 =>
 .ite (!r_4.2) (.ret (r_1, false, [], 3))
 (.opt (desk_clash n_ { r_1 with Line := r_4.1 } now w) fun r_5 =>
 .ret ({ r_1 with Line := r_4.1 }, false, r_5, 0)))
def desk_Ask := fun d now w => (desk_Ask_t n_ d now w).get
def server_host_there_4_t (n : Int) (h : Tserver_host) : Tree Bool :=
 .ite (decide (n ≥ 1)) (.ite (decide (n ≤ (h.Server.Store.S.Files.length : Int))) (.ite (inR (wi64 (n - 1)) h.Server.Store.S.Files.length) (.opt (h.Server.Store.S.Files[(wi64 (n - 1)).toNat]?) fun y_1 =>
  .ret (!(y_1.Name == []))) .fail)
 (.ret false))
 (.ret false)
def server_host_there_4 := fun n h => (server_host_there_4_t n h).get
def server_host_done_7_t (client : Int) (t : TTell) (h : Tserver_host) : Tree Tserver_host :=
 .ite (decide (client ≥ 1)) (.ite (decide (client ≤ (h.Server.Told.length : Int))) (.ite (inR (wi64 (client - 1)) h.Server.Told.length) (.opt (h.Server.Told[(wi64 (client - 1)).toNat]?) fun y_1 =>
  .ite (decide (y_1.Seq ≤ t.Seq)) (.ite (inR (wi64 (client - 1)) h.Server.Told.length) (.opt (h.Server.Told[(wi64 (client - 1)).toNat]?) fun y_2 =>
   .ret (Tserver_host.mk { h.Server with Told := (h.Server.Told.set (wi64 (client - 1)).toNat { t with Kind := 1, To := client, Epoch := h.Server.Store.S.Epoch }) } [{ t with Kind := 1, To := client, Epoch := h.Server.Store.S.Epoch }])) .fail)
  (.ret ({ h with told := [{ t with Kind := 1, To := client, Epoch := h.Server.Store.S.Epoch }] }))) .fail)
 (.ret ({ h with told := [{ t with Kind := 1, To := client, Epoch := h.Server.Store.S.Epoch }] })))
 (.ret ({ h with told := [{ t with Kind := 1, To := client, Epoch := h.Server.Store.S.Epoch }] }))
def server_host_done_7 := fun client t h => (server_host_done_7_t client t h).get
def server_host_done_8_t (client : Int) (t : TTell) (h : Tserver_host) : Tree Tserver_host :=
 .ite (decide (client ≥ 1)) (.ite (decide (client ≤ (h.Server.Told.length : Int))) (.ite (inR (wi64 (client - 1)) h.Server.Told.length) (.opt (h.Server.Told[(wi64 (client - 1)).toNat]?) fun y_1 =>
  .ite (decide (y_1.Seq ≤ t.Seq)) (.ite (inR (wi64 (client - 1)) h.Server.Told.length) (.opt (h.Server.Told[(wi64 (client - 1)).toNat]?) fun y_2 =>
   .ret (Tserver_host.mk { h.Server with Told := (h.Server.Told.set (wi64 (client - 1)).toNat { t with Kind := 1, To := client, Epoch := h.Server.Store.S.Epoch }) } [{ t with Kind := 1, To := client, Epoch := h.Server.Store.S.Epoch }])) .fail)
  (.ret ({ h with told := [{ t with Kind := 1, To := client, Epoch := h.Server.Store.S.Epoch }] }))) .fail)
 (.ret ({ h with told := [{ t with Kind := 1, To := client, Epoch := h.Server.Store.S.Epoch }] })))
 (.ret ({ h with told := [{ t with Kind := 1, To := client, Epoch := h.Server.Store.S.Epoch }] }))
def server_host_done_8 := fun client t h => (server_host_done_8_t client t h).get
def server_host_lent_3_t (w : TWait) (h : Tserver_host) : Tree (Tserver_host ⊕ Tserver_host) :=
 .opt (lease_Holds n_ h.Server.Desk.Leases h.Server.Now w.Client w.File) fun r_1 =>
 .opt (server_host_there_4 w.File { h with told := [] }) fun r_2 =>
 .ite r_2 (.ite (inR (wi64 (w.File - 1)) h.Server.Store.S.Files.length) (.opt (h.Server.Store.S.Files[(wi64 (w.File - 1)).toNat]?) fun y_3 =>
  .opt (server_host_done_7 w.Client (TTell.mk 0 0 0 w.Seq 0 w.File r_1 y_3.Ver y_3.Body) { h with told := [] }) fun r_4 =>
  .ret (.inr r_4)) .fail)
 (.opt (server_host_done_8 w.Client (TTell.mk 0 0 0 w.Seq 0 w.File r_1 0 []) { h with told := [] }) fun r_5 =>
 .ret (.inl r_5))
def server_host_lent_3 := fun w h => (server_host_lent_3_t n_ w h).get
def server_host_calls_2_t (client : Int) (file : Int) (h : Tserver_host) : Tree Tserver_host :=
 .ite (decide ((h.told.length + 1) ≤ lim)) (.ret ({ h with told := (h.told ++ [(TTell.mk 2 client h.Server.Store.S.Epoch 0 0 file 0 0 [])]) })) .fail
def server_host_calls_2 := fun client file h => (server_host_calls_2_t client file h).get
def server_host_says_3_t (a : TAsk) (t : TTell) (h : Tserver_host) : Tree Tserver_host :=
 .opt (server_host_done_8 a.From { t with Seq := a.Seq } { h with told := [] }) fun r_1 =>
 .ret r_1
def server_host_says_3 := fun a t h => (server_host_says_3_t a t h).get
def server_host_calls_3 (client : Int) (file : Int) (h : Tserver_host) : Tserver_host := ({ h with told := [(TTell.mk 2 client h.Server.Store.S.Epoch 0 0 file 0 0 [])] })
def server_host_lends_s0t (t64 : List Int) (t65 : Int) (a : TAsk) (o10 : TWait) (o11 : TDesk) (r5 : List TLease) (r6 : List TWait) (v_ : Int × Tserver_host) : Tree ((Int × Tserver_host) ⊕ Tserver_host) :=
 .ite (decide (v_.1 < t65)) (.ite (inR v_.1 t64.length) (.opt (t64[v_.1.toNat]?) fun y_1 =>
  .opt (server_host_calls_2 y_1 a.File v_.2) fun r_2 =>
  .ret (.inl ((wi64 (v_.1 + 1)), r_2))) .fail)
 (.ret (.inr v_.2))
def server_host_lends_s0 := fun t64 t65 a o10 o11 r5 r6 v_ => (server_host_lends_s0t t64 t65 a o10 o11 r5 r6 v_).get
def server_host_lends_l0 := fun t64 t65 a o10 o11 r5 r6 t66 h => iter (server_host_lends_s0 t64 t65 a o10 o11 r5 r6) n_ (t66, h)
def server_host_lends_s1t (t64 : List Int) (t65 : Int) (a : TAsk) (o10 : TWait) (o11 : TDesk) (r5 : List TLease) (r6 : List TWait) (v_ : Int × Tserver_host) : Tree ((Int × Tserver_host) ⊕ Tserver_host) :=
 .ite (decide (v_.1 < t65)) (.ite (inR v_.1 t64.length) (.opt (t64[v_.1.toNat]?) fun y_1 =>
  .opt (server_host_calls_2 y_1 a.File v_.2) fun r_2 =>
  .ret (.inl ((wi64 (v_.1 + 1)), r_2))) .fail)
 (.ret (.inr v_.2))
def server_host_lends_s1 := fun t64 t65 a o10 o11 r5 r6 v_ => (server_host_lends_s1t t64 t65 a o10 o11 r5 r6 v_).get
def server_host_lends_l1 := fun t64 t65 a o10 o11 r5 r6 t66 h => iter (server_host_lends_s1 t64 t65 a o10 o11 r5 r6) n_ (t66, h)
def server_host_lends_s2t (t64 : List Int) (t65 : Int) (a : TAsk) (o10 : TWait) (o11 : TDesk) (r5 : List TLease) (r6 : List TWait) (v_ : Int × Tserver_host) : Tree ((Int × Tserver_host) ⊕ Tserver_host) :=
 .ite (decide (v_.1 < t65)) (.ite (inR v_.1 t64.length) (.opt (t64[v_.1.toNat]?) fun y_1 =>
  .opt (server_host_calls_2 y_1 a.File v_.2) fun r_2 =>
  .ret (.inl ((wi64 (v_.1 + 1)), r_2))) .fail)
 (.ret (.inr v_.2))
def server_host_lends_s2 := fun t64 t65 a o10 o11 r5 r6 v_ => (server_host_lends_s2t t64 t65 a o10 o11 r5 r6 v_).get
def server_host_lends_l2 := fun t64 t65 a o10 o11 r5 r6 t66 h => iter (server_host_lends_s2 t64 t65 a o10 o11 r5 r6) n_ (t66, h)
def server_host_lends_t (a : TAsk) (h : Tserver_host) : Tree (Tserver_host ⊕ ((Tserver_host × List TLease × List TWait) ⊕ ((Tserver_host × List TLease × List TWait) ⊕ (Tserver_host × List TLease × List TWait)))) :=
 .opt (server_host_there_3 a.File { h with told := [] }) fun r_1 =>
 .ite (!r_1) (.opt (server_host_says a (TTell.mk 0 0 0 0 2 0 0 0 []) { h with told := [] }) fun r_2 =>
 .ret (.inl r_2))
 (.opt (desk_Ask n_ h.Server.Desk h.Server.Now (TWait.mk a.From a.Seq a.File a.Mode)) fun r_3 =>
 .ite r_3.2.1 (.opt (server_host_lent_3 n_ (TWait.mk a.From a.Seq a.File a.Mode) (Tserver_host.mk { h.Server with Desk := r_3.1 } [])) fun r_4 =>
 altT r_4 (fun a_5 =>
  .opt (server_host_lends_l0 n_ r_3.2.2.1 (r_3.2.2.1.length : Int) a (TWait.mk a.From a.Seq a.File a.Mode) r_3.1 h.Server.Desk.Leases h.Server.Desk.Line 0 a_5) fun r_6 =>
  .ret (.inr (.inr (.inl (r_6, h.Server.Desk.Leases, h.Server.Desk.Line))))) fun b_7 =>
 .opt (server_host_lends_l1 n_ r_3.2.2.1 (r_3.2.2.1.length : Int) a (TWait.mk a.From a.Seq a.File a.Mode) r_3.1 h.Server.Desk.Leases h.Server.Desk.Line 0 b_7) fun r_8 =>
 .ret (.inr (.inr (.inr (r_8, h.Server.Desk.Leases, h.Server.Desk.Line)))))
 (.ite (r_3.2.2.2 != 0) (.opt (server_host_says_3 a (TTell.mk 0 0 0 0 r_3.2.2.2 0 0 0 []) (Tserver_host.mk { h.Server with Desk := r_3.1 } [])) fun r_9 =>
 .opt (server_host_lends_l0 n_ r_3.2.2.1 (r_3.2.2.1.length : Int) a (TWait.mk a.From a.Seq a.File a.Mode) r_3.1 h.Server.Desk.Leases h.Server.Desk.Line 0 r_9) fun r_10 =>
 .ret (.inr (.inr (.inl (r_10, h.Server.Desk.Leases, h.Server.Desk.Line)))))
 (.opt (server_host_lends_l2 n_ r_3.2.2.1 (r_3.2.2.1.length : Int) a (TWait.mk a.From a.Seq a.File a.Mode) r_3.1 h.Server.Desk.Leases h.Server.Desk.Line 0 (Tserver_host.mk { h.Server with Desk := r_3.1 } [])) fun r_11 =>
 .ret (.inr (.inl (r_11, h.Server.Desk.Leases, h.Server.Desk.Line))))))
def server_host_lends := fun a h => (server_host_lends_t n_ a h).get
def state_there_t (n : Int) (s : TState) : Tree (Nat ⊕ Unit) :=
 .ite (decide (n < 1)) (.ret (.inr ()))
 (.ite (decide (n > (s.Files.length : Int))) (.ret (.inr ()))
 (.ite (inR (wi64 (n - 1)) s.Files.length) (.opt (s.Files[(wi64 (n - 1)).toNat]?) fun y_1 =>
 .ite (y_1.Name == []) (.ret (.inr ()))
 (.ite (inR (wi64 (n - 1)) s.Files.length) (.ret (.inl ((wi64 (n - 1)).toNat))) .fail)) .fail))
def state_there := fun n s => (state_there_t n s).get
def state_Flush_c1_c1 (w : TWrite) : Bool := (!(file_May w))
def slices_IndexFunc_Write_2_s0t (s : List TWrite) (t7 : Int) (v_ : Int) : Tree (Int ⊕ (Int ⊕ Unit)) :=
 .ite (decide (v_ < t7)) (.ite (inR v_ s.length) (.opt (s[v_.toNat]?) fun y_1 =>
  .ite (state_Flush_c1_c1 y_1) (.ret (.inr (.inl v_)))
  (.ret (.inl (wi64 (v_ + 1))))) .fail)
 (.ret (.inr (.inr ())))
def slices_IndexFunc_Write_2_s0 := fun s t7 v_ => (slices_IndexFunc_Write_2_s0t s t7 v_).get
def slices_IndexFunc_Write_2_l0 := fun s t7 t8 => iter (slices_IndexFunc_Write_2_s0 s t7) n_ t8
def slices_IndexFunc_Write_2_t (s : List TWrite) : Tree Int :=
 .opt (slices_IndexFunc_Write_2_l0 n_ s (s.length : Int) 0) fun r_1 =>
 altT r_1 (fun a_2 =>
 .ret a_2) fun b_3 =>
 .ret (-1)
def slices_IndexFunc_Write_2 := fun s => (slices_IndexFunc_Write_2_t n_ s).get
def slices_ContainsFunc_Write_2_t (s : List TWrite) : Tree Bool :=
 .opt (slices_IndexFunc_Write_2 n_ s) fun r_1 =>
 .ret (decide (r_1 ≥ 0))
def slices_ContainsFunc_Write_2 := fun s => (slices_ContainsFunc_Write_2_t n_ s).get
def state_Flush_c1_t (s : TState) (o3 : Int) (o4 : List TWrite) : Tree ((TMark × TState) ⊕ Tstate_refused) :=
 .opt (state_there o3 s) fun r_1 =>
 altT r_1 (fun a_2 =>
 .ite ((o4.length : Int) == 0) (.ret (.inr (Tstate_refused.mk 1)))
 (.ite (decide ((o4.length : Int) > 5)) (.ret (.inr (Tstate_refused.mk 1)))
 (.opt (slices_ContainsFunc_Write_2 n_ o4) fun r_3 =>
 .ite r_3 (.ret (.inr (Tstate_refused.mk 1)))
 (.opt (s.Files[a_2]?) fun y_4 =>
 .opt (file_All n_ y_4.Body o4) fun r_5 =>
 .opt (s.Files[a_2]?) fun y_6 =>
 .opt (s.Files[a_2]?) fun y_7 =>
 .opt ((s.Files.set a_2 { y_7 with Body := r_5 })[a_2]?) fun y_8 =>
 .opt (((s.Files.set a_2 { y_7 with Body := r_5 }).set a_2 { y_8 with Ver := (imin (wi64 (y_6.Ver + 1)) 1073741824) })[a_2]?) fun y_9 =>
 .ret (.inl ((TMark.mk 0 0 o3 y_9.Ver), { s with Files := ((s.Files.set a_2 { y_7 with Body := r_5 }).set a_2 { y_8 with Ver := (imin (wi64 (y_6.Ver + 1)) 1073741824) }) })))))) fun b_10 =>
 .ret (.inr (Tstate_refused.mk 2))
def state_Flush_c1 := fun s o3 o4 => (state_Flush_c1_t n_ s o3 o4).get
def state_work_2_t (s : TState) (client : Int) (seq : Int) (o0 : Int) (o1 : List TWrite) : Tree (TState × TMark) :=
 .opt (state_Flush_c1 n_ s o0 o1) fun r_1 =>
 altT r_1 (fun a_2 =>
 .opt (mark_Put a_2.2.Marks client { a_2.1 with Seq := seq }) fun r_3 =>
 .ret ({ a_2.2 with Marks := r_3 }, { a_2.1 with Seq := seq })) fun b_4 =>
 .opt (mark_Put s.Marks client (TMark.mk seq b_4.e 0 0)) fun r_5 =>
 .ret ({ s with Marks := r_5 }, (TMark.mk seq b_4.e 0 0))
def state_work_2 := fun s client seq o0 o1 => (state_work_2_t n_ s client seq o0 o1).get
def state_Flush_t (s : TState) (client : Int) (seq : Int) (n : Int) (l : List TWrite) : Tree (TState × TMark) :=
 .opt (state_work_2 n_ s client seq n l) fun r_1 =>
 .ret (r_1.1, r_1.2)
def state_Flush := fun s client seq n l => (state_Flush_t n_ s client seq n l).get
def server_host_flushes_t (a : TAsk) (h : Tserver_host) : Tree (Tserver_host ⊕ ((Tserver_host × List (List UInt8) × List TPut × List TFile × List TMark) ⊕ (Tserver_host × List (List UInt8) × List TPut × List TFile × List TMark))) :=
 .opt (lease_Holds n_ h.Server.Desk.Leases h.Server.Now a.From a.File) fun r_1 =>
 .ite (r_1 != 2) (.opt (server_host_says a (TTell.mk 0 0 0 0 6 0 0 0 []) { h with told := [] }) fun r_2 =>
 .ret (.inl r_2))
 (.opt (server_host_there_3 a.File { h with told := [] }) fun r_3 =>
 .ite (!r_3) (.opt (server_host_says a (TTell.mk 0 0 0 0 6 0 0 0 []) { h with told := [] }) fun r_4 =>
 .ret (.inl r_4))
 (.opt (state_Flush n_ h.Server.Store.S a.From a.Seq a.File a.Writes) fun r_5 =>
 .opt (server_host_commits n_ r_5.1 { h with told := [] }) fun r_6 =>
 altT r_6 (fun a_7 =>
 .opt (server_host_marked a r_5.2 { a_7.1 with told := [] }) fun r_8 =>
 .ret (.inr (.inl (r_8, a_7.2.1, a_7.2.2, h.Server.Store.S.Files, h.Server.Store.S.Marks)))) fun b_9 =>
 .ret (.inr (.inr ({ b_9.1 with told := [] }, b_9.2.1, b_9.2.2, h.Server.Store.S.Files, h.Server.Store.S.Marks)))))
def server_host_flushes := fun a h => (server_host_flushes_t n_ a h).get
def lease_Drop_c1_t (x : TLease) (o0 : Int) (o1 : Int) : TT Bool :=
 .ite (x.Client == o0) (.ret (x.File == o1))
 (.ret false)
def lease_Drop_c1 := fun x o0 o1 => (lease_Drop_c1_t x o0 o1).val
def slices_IndexFunc_Lease_2_s0t (s : List TLease) (t7 : Int) (o0 : Int) (o1 : Int) (v_ : Int) : Tree (Int ⊕ (Int ⊕ Unit)) :=
 .ite (decide (v_ < t7)) (.ite (inR v_ s.length) (.opt (s[v_.toNat]?) fun y_1 =>
  .ite (lease_Drop_c1 y_1 o0 o1) (.ret (.inr (.inl v_)))
  (.ret (.inl (wi64 (v_ + 1))))) .fail)
 (.ret (.inr (.inr ())))
def slices_IndexFunc_Lease_2_s0 := fun s t7 o0 o1 v_ => (slices_IndexFunc_Lease_2_s0t s t7 o0 o1 v_).get
def slices_IndexFunc_Lease_2_l0 := fun s t7 o0 o1 t8 => iter (slices_IndexFunc_Lease_2_s0 s t7 o0 o1) n_ t8
def slices_IndexFunc_Lease_2_t (s : List TLease) (o0 : Int) (o1 : Int) : Tree Int :=
 .opt (slices_IndexFunc_Lease_2_l0 n_ s (s.length : Int) o0 o1 0) fun r_1 =>
 altT r_1 (fun a_2 =>
 .ret a_2) fun b_3 =>
 .ret (-1)
def slices_IndexFunc_Lease_2 := fun s o0 o1 => (slices_IndexFunc_Lease_2_t n_ s o0 o1).get
def slices_DeleteFunc_Lease_2_s0t (o1 : Int) (o2 : Int) (v_ : Int × Int × List TLease) : Tree ((Int × Int × List TLease) ⊕ (Int × List TLease)) :=
 .ite (decide (v_.2.1 < (v_.2.2.length : Int))) (.ite (inR v_.2.1 v_.2.2.length) (.opt (v_.2.2[v_.2.1.toNat]?) fun y_1 =>
  .ite (!(lease_Drop_c1 y_1 o1 o2)) (.ite (inR v_.1 v_.2.2.length) (.opt (v_.2.2[v_.1.toNat]?) fun y_2 =>
   .ret (.inl ((wi64 (v_.1 + 1)), (wi64 (v_.2.1 + 1)), (v_.2.2.set v_.1.toNat y_1)))) .fail)
  (.ret (.inl (v_.1, (wi64 (v_.2.1 + 1)), v_.2.2)))) .fail)
 (.ret (.inr (v_.1, v_.2.2)))
def slices_DeleteFunc_Lease_2_s0 := fun o1 o2 v_ => (slices_DeleteFunc_Lease_2_s0t o1 o2 v_).get
def slices_DeleteFunc_Lease_2_l0 := fun o1 o2 i j s => iter (slices_DeleteFunc_Lease_2_s0 o1 o2) n_ (i, j, s)
def slices_DeleteFunc_Lease_2_t (o1 : Int) (o2 : Int) (r0 : List TLease) : Tree (List TLease) :=
 .opt (slices_IndexFunc_Lease_2 n_ r0 o1 o2) fun r_1 =>
 .ite (r_1 == (-1)) (.ret r0)
 (.opt (slices_DeleteFunc_Lease_2_l0 n_ o1 o2 r_1 (wi64 (r_1 + 1)) r0) fun r_2 =>
 .ite (inR r_2.1 r_2.2.length) (.ret (cutL r_2.2 0 r_2.1)) .fail)
def slices_DeleteFunc_Lease_2 := fun o1 o2 r0 => (slices_DeleteFunc_Lease_2_t n_ o1 o2 r0).get
def lease_Drop_t (l : List TLease) (client : Int) (file : Int) : Tree (List TLease) :=
 .opt (slices_DeleteFunc_Lease_2 n_ client file l) fun r_1 =>
 .ret r_1
def lease_Drop := fun l client file => (lease_Drop_t n_ l client file).get
def desk_Give_t (d : TDesk) (client : Int) (file : Int) : Tree TDesk :=
 .opt (lease_Drop n_ d.Leases client file) fun r_1 =>
 .ret (TDesk.mk r_1 d.Line)
def desk_Give := fun d client file => (desk_Give_t n_ d client file).get
def server_host_takesBack_t (a : TAsk) (h : Tserver_host) : Tree ((Tserver_host × List TLease × List TWait) ⊕ ((Tserver_host × List TLease × List TWait) ⊕ ((Tserver_host × List (List UInt8) × List TPut × List TFile × List TMark × List TLease × List TWait) ⊕ (Tserver_host × List (List UInt8) × List TPut × List TFile × List TMark)))) :=
 .ite (decide ((a.Writes.length : Int) > 0)) (.opt (server_host_flushes n_ a { h with told := [] }) fun r_1 =>
 altT r_1 (fun a_2 =>
  .opt (desk_Give n_ a_2.Server.Desk a.From a.File) fun r_3 =>
  .ret (.inr (.inl ({ a_2 with Server := { a_2.Server with Desk := r_3 } }, a_2.Server.Desk.Leases, a_2.Server.Desk.Line)))) fun b_4 =>
 altT b_4 (fun a_5 =>
  .opt (desk_Give n_ a_5.1.Server.Desk a.From a.File) fun r_6 =>
  .ret (.inr (.inr (.inl ({ a_5.1 with Server := { a_5.1.Server with Desk := r_6 } }, a_5.2.1, a_5.2.2.1, a_5.2.2.2.1, a_5.2.2.2.2, a_5.1.Server.Desk.Leases, a_5.1.Server.Desk.Line))))) fun b_7 =>
 .ret (.inr (.inr (.inr ({ b_7.1 with told := [] }, b_7.2.1, b_7.2.2.1, b_7.2.2.2.1, b_7.2.2.2.2)))))
 (.opt (server_host_says a (TTell.mk 0 0 0 0 0 a.File 0 0 []) { h with told := [] }) fun r_8 =>
 .opt (desk_Give n_ r_8.Server.Desk a.From a.File) fun r_9 =>
 .ret (.inl ({ r_8 with Server := { r_8.Server with Desk := r_9 } }, r_8.Server.Desk.Leases, r_8.Server.Desk.Line)))
def server_host_takesBack := fun a h => (server_host_takesBack_t n_ a h).get
def server_host_others_c1_t (w : TWait) (o0 : Int) (o1 : Int) : TT Bool :=
 .ite (w.File == o0) (.ret (w.Client != o1))
 (.ret false)
def server_host_others_c1 := fun w o0 o1 => (server_host_others_c1_t w o0 o1).val
def slices_IndexFunc_Wait_4_s0t (s : List TWait) (t7 : Int) (o0 : Int) (o1 : Int) (v_ : Int) : Tree (Int ⊕ (Int ⊕ Unit)) :=
 .ite (decide (v_ < t7)) (.ite (inR v_ s.length) (.opt (s[v_.toNat]?) fun y_1 =>
  .ite (server_host_others_c1 y_1 o0 o1) (.ret (.inr (.inl v_)))
  (.ret (.inl (wi64 (v_ + 1))))) .fail)
 (.ret (.inr (.inr ())))
def slices_IndexFunc_Wait_4_s0 := fun s t7 o0 o1 v_ => (slices_IndexFunc_Wait_4_s0t s t7 o0 o1 v_).get
def slices_IndexFunc_Wait_4_l0 := fun s t7 o0 o1 t8 => iter (slices_IndexFunc_Wait_4_s0 s t7 o0 o1) n_ t8
def slices_IndexFunc_Wait_4_t (s : List TWait) (o0 : Int) (o1 : Int) : Tree Int :=
 .opt (slices_IndexFunc_Wait_4_l0 n_ s (s.length : Int) o0 o1 0) fun r_1 =>
 altT r_1 (fun a_2 =>
 .ret a_2) fun b_3 =>
 .ret (-1)
def slices_IndexFunc_Wait_4 := fun s o0 o1 => (slices_IndexFunc_Wait_4_t n_ s o0 o1).get
def slices_ContainsFunc_Wait_t (s : List TWait) (o0 : Int) (o1 : Int) : Tree Bool :=
 .opt (slices_IndexFunc_Wait_4 n_ s o0 o1) fun r_1 =>
 .ret (decide (r_1 ≥ 0))
def slices_ContainsFunc_Wait := fun s o0 o1 => (slices_ContainsFunc_Wait_t n_ s o0 o1).get
def server_host_others_t (client : Int) (file : Int) (h : Tserver_host) : Tree (Bool × Tserver_host) :=
 .opt (lease_Clash n_ h.Server.Desk.Leases h.Server.Now client file 2) fun r_1 =>
 .ite (decide ((r_1.length : Int) > 0)) (.ret (true, { h with told := [] }))
 (.opt (slices_ContainsFunc_Wait n_ h.Server.Desk.Line file client) fun r_2 =>
 .ret (r_2, { h with told := [] }))
def server_host_others := fun client file h => (server_host_others_t n_ client file h).get
def server_host_done_9_t (client : Int) (t : TTell) (h : Tserver_host) : Tree Tserver_host :=
 .ite (decide (client ≥ 1)) (.ite (decide (client ≤ (h.Server.Told.length : Int))) (.ite (inR (wi64 (client - 1)) h.Server.Told.length) (.opt (h.Server.Told[(wi64 (client - 1)).toNat]?) fun y_1 =>
  .ite (decide (y_1.Seq ≤ t.Seq)) (.ite (inR (wi64 (client - 1)) h.Server.Told.length) (.opt (h.Server.Told[(wi64 (client - 1)).toNat]?) fun y_2 =>
   .ret (Tserver_host.mk { h.Server with Told := (h.Server.Told.set (wi64 (client - 1)).toNat { t with Kind := 1, To := client, Epoch := h.Server.Store.S.Epoch }) } [{ t with Kind := 1, To := client, Epoch := h.Server.Store.S.Epoch }])) .fail)
  (.ret ({ h with told := [{ t with Kind := 1, To := client, Epoch := h.Server.Store.S.Epoch }] }))) .fail)
 (.ret ({ h with told := [{ t with Kind := 1, To := client, Epoch := h.Server.Store.S.Epoch }] })))
 (.ret ({ h with told := [{ t with Kind := 1, To := client, Epoch := h.Server.Store.S.Epoch }] }))
def server_host_done_9 := fun client t h => (server_host_done_9_t client t h).get
def server_host_says_4_t (a : TAsk) (t : TTell) (h : Tserver_host) : Tree Tserver_host :=
 .opt (server_host_done_9 a.From { t with Seq := a.Seq } { h with told := [] }) fun r_1 =>
 .ret r_1
def server_host_says_4 := fun a t h => (server_host_says_4_t a t h).get
def state_Gone_c1_t (s : TState) (o3 : Int) : Tree ((TMark × TState) ⊕ Unit) :=
 .opt (state_there o3 s) fun r_1 =>
 altT r_1 (fun a_2 =>
 .opt (s.Files[a_2]?) fun y_3 =>
 .ret (.inl ((TMark.mk 0 0 o3 0), { s with Files := (s.Files.set a_2 (TFile.mk [] 0 [])) }))) fun b_4 =>
 .ret (.inr ())
def state_Gone_c1 := fun s o3 => (state_Gone_c1_t s o3).get
def state_work_3_t (s : TState) (client : Int) (seq : Int) (o0 : Int) : Tree (TState × TMark) :=
 .opt (state_Gone_c1 s o0) fun r_1 =>
 altT r_1 (fun a_2 =>
 .opt (mark_Put a_2.2.Marks client { a_2.1 with Seq := seq }) fun r_3 =>
 .ret ({ a_2.2 with Marks := r_3 }, { a_2.1 with Seq := seq })) fun b_4 =>
 .opt (mark_Put s.Marks client (TMark.mk seq 2 0 0)) fun r_5 =>
 .ret ({ s with Marks := r_5 }, (TMark.mk seq 2 0 0))
def state_work_3 := fun s client seq o0 => (state_work_3_t s client seq o0).get
def state_Gone_t (s : TState) (client : Int) (seq : Int) (n : Int) : Tree (TState × TMark) :=
 .opt (state_work_3 s client seq n) fun r_1 =>
 .ret (r_1.1, r_1.2)
def state_Gone := fun s client seq n => (state_Gone_t s client seq n).get
def server_host_commits_2_t (s : TState) (h : Tserver_host) : Tree ((Tserver_host × List (List UInt8) × List TPut) ⊕ (Tserver_host × List (List UInt8) × List TPut)) :=
 .opt (store_Commit n_ h.Server.Store s) fun r_1 =>
 .ite (!r_1.2) (.ret (.inr ((Tserver_host.mk { h.Server with Store := r_1.1 } []), h.Server.Store.D.Last, h.Server.Store.D.Wait)))
 (.ret (.inl ((Tserver_host.mk { h.Server with Store := r_1.1 } []), h.Server.Store.D.Last, h.Server.Store.D.Wait)))
def server_host_commits_2 := fun s h => (server_host_commits_2_t n_ s h).get
def server_host_done_10_t (client : Int) (t : TTell) (h : Tserver_host) : Tree Tserver_host :=
 .ite (decide (client ≥ 1)) (.ite (decide (client ≤ (h.Server.Told.length : Int))) (.ite (inR (wi64 (client - 1)) h.Server.Told.length) (.opt (h.Server.Told[(wi64 (client - 1)).toNat]?) fun y_1 =>
  .ite (decide (y_1.Seq ≤ t.Seq)) (.ite (inR (wi64 (client - 1)) h.Server.Told.length) (.opt (h.Server.Told[(wi64 (client - 1)).toNat]?) fun y_2 =>
   .ret (Tserver_host.mk { h.Server with Told := (h.Server.Told.set (wi64 (client - 1)).toNat { t with Kind := 1, To := client, Epoch := h.Server.Store.S.Epoch }) } [{ t with Kind := 1, To := client, Epoch := h.Server.Store.S.Epoch }])) .fail)
  (.ret ({ h with told := [{ t with Kind := 1, To := client, Epoch := h.Server.Store.S.Epoch }] }))) .fail)
 (.ret ({ h with told := [{ t with Kind := 1, To := client, Epoch := h.Server.Store.S.Epoch }] })))
 (.ret ({ h with told := [{ t with Kind := 1, To := client, Epoch := h.Server.Store.S.Epoch }] }))
def server_host_done_10 := fun client t h => (server_host_done_10_t client t h).get
def server_host_says_5_t (a : TAsk) (t : TTell) (h : Tserver_host) : Tree Tserver_host :=
 .opt (server_host_done_10 a.From { t with Seq := a.Seq } { h with told := [] }) fun r_1 =>
 .ret r_1
def server_host_says_5 := fun a t h => (server_host_says_5_t a t h).get
def server_host_marked_2_t (a : TAsk) (m : TMark) (h : Tserver_host) : Tree Tserver_host :=
 .opt (server_host_says_5 a (TTell.mk 0 0 0 0 m.Err m.File 0 m.Ver []) { h with told := [] }) fun r_1 =>
 .ret r_1
def server_host_marked_2 := fun a m h => (server_host_marked_2_t a m h).get
def server_host_ends_t (a : TAsk) (h : Tserver_host) : Tree (Tserver_host ⊕ ((Tserver_host × List (List UInt8) × List TPut × List TFile × List TMark × List TLease × List TWait) ⊕ (Tserver_host × List (List UInt8) × List TPut × List TFile × List TMark))) :=
 .opt (server_host_others n_ a.From a.File { h with told := [] }) fun r_1 =>
 .ite r_1.1 (.opt (server_host_says_4 a (TTell.mk 0 0 0 0 4 0 0 0 []) { r_1.2 with told := [] }) fun r_2 =>
 .ret (.inl r_2))
 (.opt (state_Gone r_1.2.Server.Store.S a.From a.Seq a.File) fun r_3 =>
 .opt (server_host_commits_2 n_ r_3.1 { r_1.2 with told := [] }) fun r_4 =>
 altT r_4 (fun a_5 =>
 .opt (desk_Give n_ a_5.1.Server.Desk a.From a.File) fun r_6 =>
 .opt (line_Drop n_ r_6.Line a.From) fun r_7 =>
 .opt (server_host_marked_2 a r_3.2 (Tserver_host.mk { a_5.1.Server with Desk := { r_6 with Line := r_7 } } [])) fun r_8 =>
 .ret (.inr (.inl (r_8, a_5.2.1, a_5.2.2, r_1.2.Server.Store.S.Files, r_1.2.Server.Store.S.Marks, a_5.1.Server.Desk.Leases, a_5.1.Server.Desk.Line)))) fun b_9 =>
 .ret (.inr (.inr ({ b_9.1 with told := [] }, b_9.2.1, b_9.2.2, r_1.2.Server.Store.S.Files, r_1.2.Server.Store.S.Marks))))
def server_host_ends := fun a h => (server_host_ends_t n_ a h).get
def server_host_serves_t (a : TAsk) (h : Tserver_host) : Tree (Tserver_host ⊕ (Tserver_host ⊕ (Tserver_host ⊕ (Tserver_host ⊕ ((Tserver_host × List TLease × List TWait) ⊕ ((Tserver_host × List TLease × List TWait) ⊕ ((Tserver_host × List TLease × List TWait) ⊕ ((Tserver_host × List TLease × List TWait) ⊕ ((Tserver_host × List TLease × List TWait) ⊕ ((Tserver_host × List (List UInt8) × List TPut × List TFile × List TMark) ⊕ ((Tserver_host × List (List UInt8) × List TPut × List TFile × List TMark) ⊕ ((Tserver_host × List (List UInt8) × List TPut × List TFile × List TMark) ⊕ ((Tserver_host × List (List UInt8) × List TPut × List TFile × List TMark) ⊕ ((Tserver_host × List (List UInt8) × List TPut × List TFile × List TMark × List TLease × List TWait) ⊕ (Tserver_host × List (List UInt8) × List TPut × List TFile × List TMark × List TLease × List TWait))))))))))))))) :=
 .ite (decide (h.Server.Now < h.Server.Hush)) (.opt (server_host_says a (TTell.mk 0 0 0 0 7 0 0 0 []) { h with told := [] }) fun r_1 =>
 .ret (.inr (.inl r_1)))
 (.ite (a.Kind == 1) (.opt (server_host_opens n_ a { h with told := [] }) fun r_2 =>
 altT r_2 (fun a_3 =>
  .ret (.inr (.inr (.inr (.inr (.inr (.inr (.inr (.inr (.inr (.inr (.inr (.inr (.inl (a_3.1, a_3.2.1, a_3.2.2.1, a_3.2.2.2.1, a_3.2.2.2.2))))))))))))))) fun b_4 =>
 .ret (.inr (.inr (.inr (.inr (.inr (.inr (.inr (.inr (.inr (.inr (.inl ((Tserver_host.mk { b_4.1.Server with Live := false } []), b_4.2.1, b_4.2.2.1, b_4.2.2.2.1, b_4.2.2.2.2)))))))))))))
 (.ite (a.Kind == 2) (.opt (server_host_lends n_ a { h with told := [] }) fun r_5 =>
 altT r_5 (fun a_6 =>
  .ret (.inr (.inr (.inr (.inl a_6))))) fun b_7 =>
 altT b_7 (fun a_8 =>
  .ret (.inr (.inr (.inr (.inr (.inl (a_8.1, a_8.2.1, a_8.2.2))))))) fun b_9 =>
 altT b_9 (fun a_10 =>
  .ret (.inr (.inr (.inr (.inr (.inr (.inr (.inr (.inl (a_10.1, a_10.2.1, a_10.2.2)))))))))) fun b_11 =>
 .ret (.inr (.inr (.inr (.inr (.inr (.inr (.inr (.inr (.inl (b_11.1, b_11.2.1, b_11.2.2)))))))))))
 (.ite (a.Kind == 3) (.opt (server_host_flushes n_ a { h with told := [] }) fun r_12 =>
 altT r_12 (fun a_13 =>
  .ret (.inr (.inr (.inr (.inl a_13))))) fun b_14 =>
 altT b_14 (fun a_15 =>
  .ret (.inr (.inr (.inr (.inr (.inr (.inr (.inr (.inr (.inr (.inr (.inr (.inr (.inl (a_15.1, a_15.2.1, a_15.2.2.1, a_15.2.2.2.1, a_15.2.2.2.2))))))))))))))) fun b_16 =>
 .ret (.inr (.inr (.inr (.inr (.inr (.inr (.inr (.inr (.inr (.inr (.inl ((Tserver_host.mk { b_16.1.Server with Live := false } []), b_16.2.1, b_16.2.2.1, b_16.2.2.2.1, b_16.2.2.2.2)))))))))))))
 (.ite (a.Kind == 4) (.opt (server_host_takesBack n_ a { h with told := [] }) fun r_17 =>
 altT r_17 (fun a_18 =>
  .ret (.inr (.inr (.inr (.inr (.inr (.inl (a_18.1, a_18.2.1, a_18.2.2)))))))) fun b_19 =>
 altT b_19 (fun a_20 =>
  .ret (.inr (.inr (.inr (.inr (.inr (.inr (.inl (a_20.1, a_20.2.1, a_20.2.2))))))))) fun b_21 =>
 altT b_21 (fun a_22 =>
  .ret (.inr (.inr (.inr (.inr (.inr (.inr (.inr (.inr (.inr (.inr (.inr (.inr (.inr (.inr (a_22.1, a_22.2.1, a_22.2.2.1, a_22.2.2.2.1, a_22.2.2.2.2.1, a_22.2.2.2.2.2.1, a_22.2.2.2.2.2.2)))))))))))))))) fun b_23 =>
 .ret (.inr (.inr (.inr (.inr (.inr (.inr (.inr (.inr (.inr (.inr (.inr (.inl ((Tserver_host.mk { b_23.1.Server with Live := false } []), b_23.2.1, b_23.2.2.1, b_23.2.2.2.1, b_23.2.2.2.2))))))))))))))
 (.ite (a.Kind == 5) (.opt (server_host_ends n_ a { h with told := [] }) fun r_24 =>
 altT r_24 (fun a_25 =>
  .ret (.inr (.inr (.inl a_25)))) fun b_26 =>
 altT b_26 (fun a_27 =>
  .ret (.inr (.inr (.inr (.inr (.inr (.inr (.inr (.inr (.inr (.inr (.inr (.inr (.inr (.inl (a_27.1, a_27.2.1, a_27.2.2.1, a_27.2.2.2.1, a_27.2.2.2.2.1, a_27.2.2.2.2.2.1, a_27.2.2.2.2.2.2)))))))))))))))) fun b_28 =>
 .ret (.inr (.inr (.inr (.inr (.inr (.inr (.inr (.inr (.inr (.inl ((Tserver_host.mk { b_28.1.Server with Live := false } []), b_28.2.1, b_28.2.2.1, b_28.2.2.2.1, b_28.2.2.2.2))))))))))))
 (.ret (.inl ({ h with told := [] }))))))))
def server_host_serves := fun a h => (server_host_serves_t n_ a h).get
def server_Comes_t (s : TServer) (b : List UInt8) : Tree (TServer × List TTell) :=
 .ite (!s.Live) (.ret ((server_of s).Server, []))
 (.opt (msg_TakeAsk n_ b) fun r_1 =>
 .ite (!r_1.2) (.ret ({ (server_of s).Server with Bad := (imin (wi64 ((server_of s).Server.Bad + 1)) 1073741824) }, []))
 (.opt (sess_Judge s.Store.S.Epoch s.Seen s.Told s.Store.S.Marks r_1.1) fun r_2 =>
 .ite (r_2.1 == 1) (.ret ((server_of s).Server, [(TTell.mk 3 r_1.1.From s.Store.S.Epoch 0 0 0 0 0 [])]))
 (.ite (r_2.1 == 3) (.ret ((server_of s).Server, [r_2.2]))
 (.ite (r_2.1 == 4) (.ite (inR (wi64 (r_1.1.From - 1)) (server_of s).Server.Seen.length) (.opt ((server_of s).Server.Seen[(wi64 (r_1.1.From - 1)).toNat]?) fun y_3 =>
  .opt (server_host_serves n_ r_1.1 (Tserver_host.mk { (server_of s).Server with Seen := ((server_of s).Server.Seen.set (wi64 (r_1.1.From - 1)).toNat r_1.1.Seq) } [])) fun r_4 =>
  altT r_4 (fun a_5 =>
  .ret (a_5.Server, [])) fun b_6 =>
  altT b_6 (fun a_7 =>
  .ret (a_7.Server, a_7.told)) fun b_8 =>
  altT b_8 (fun a_9 =>
  .ret (a_9.Server, a_9.told)) fun b_10 =>
  altT b_10 (fun a_11 =>
  .ret (a_11.Server, a_11.told)) fun b_12 =>
  altT b_12 (fun a_13 =>
  .ret (a_13.1.Server, a_13.1.told)) fun b_14 =>
  altT b_14 (fun a_15 =>
  .ret (a_15.1.Server, a_15.1.told)) fun b_16 =>
  altT b_16 (fun a_17 =>
  .ret (a_17.1.Server, a_17.1.told)) fun b_18 =>
  altT b_18 (fun a_19 =>
  .ret (a_19.1.Server, a_19.1.told)) fun b_20 =>
  altT b_20 (fun a_21 =>
  .ret (a_21.1.Server, a_21.1.told)) fun b_22 =>
  altT b_22 (fun a_23 =>
  .ret (a_23.1.Server, [])) fun b_24 =>
  altT b_24 (fun a_25 =>
  .ret (a_25.1.Server, [])) fun b_26 =>
  altT b_26 (fun a_27 =>
  .ret (a_27.1.Server, [])) fun b_28 =>
  altT b_28 (fun a_29 =>
  .ret (a_29.1.Server, a_29.1.told)) fun b_30 =>
  altT b_30 (fun a_31 =>
  .ret (a_31.1.Server, a_31.1.told)) fun b_32 =>
  .ret (b_32.1.Server, b_32.1.told)) .fail)
 (.ret ((server_of s).Server, []))))))
def server_Comes := fun s b => (server_Comes_t n_ s b).get
def world_host_tells_2_s0t (t6 : List TTell) (t7 : Int) (v_ : Int × Tworld_host) : Tree ((Int × Tworld_host) ⊕ Tworld_host) :=
 .ite (decide (v_.1 < t7)) (.ite (inR v_.1 t6.length) (.opt (t6[v_.1.toNat]?) fun y_1 =>
  .opt (msg_PutTell n_ y_1) fun r_2 =>
  .opt (world_host_sends_2 y_1.To r_2 v_.2) fun r_3 =>
  .ret (.inl ((wi64 (v_.1 + 1)), r_3))) .fail)
 (.ret (.inr v_.2))
def world_host_tells_2_s0 := fun t6 t7 v_ => (world_host_tells_2_s0t n_ t6 t7 v_).get
def world_host_tells_2_l0 := fun t6 t7 t8 h => iter (world_host_tells_2_s0 n_ t6 t7) n_ (t8, h)
def world_host_tells_2_t (l : List TTell) (h : Tworld_host) : Tree Tworld_host :=
 .opt (world_host_tells_2_l0 n_ l (l.length : Int) 0 h) fun r_1 =>
 .ret r_1
def world_host_tells_2 := fun l h => (world_host_tells_2_t n_ l h).get
def world_host_client_2_t (r : Int) (h : Tworld_host) : Tree (Nat ⊕ Tworld_refused) :=
 .ite (decide (r < 1)) (.opt (world_no true 1) fun r_1 =>
 altT r_1 (fun a_2 =>
  .ite (inR (wi64 (r - 1)) h.World.Clients.length) (.ret (.inl ((wi64 (r - 1)).toNat))) .fail) fun b_3 =>
 .ret (.inr b_3))
 (.opt (world_no (decide (r > (h.World.Clients.length : Int))) 1) fun r_4 =>
 altT r_4 (fun a_5 =>
 .ite (inR (wi64 (r - 1)) h.World.Clients.length) (.ret (.inl ((wi64 (r - 1)).toNat))) .fail) fun b_6 =>
 .ret (.inr b_6))
def world_host_client_2 := fun r h => (world_host_client_2_t r h).get
def msg_reader_tell_t (r : Tmsg_reader) : Tree ((TTell × Tmsg_reader) ⊕ Tmsg_reader) :=
 .opt (msg_reader_num n_ 1 r) fun r_1 =>
 altT r_1 (fun a_2 =>
 .opt (msg_reader_num n_ 1 a_2.2) fun r_3 =>
 altT r_3 (fun a_4 =>
  .opt (msg_reader_num n_ 4 a_4.2) fun r_5 =>
  altT r_5 (fun a_6 =>
  .opt (msg_reader_num n_ 4 a_6.2) fun r_7 =>
  altT r_7 (fun a_8 =>
   .opt (msg_reader_num n_ 1 a_8.2) fun r_9 =>
   altT r_9 (fun a_10 =>
   .opt (msg_reader_num n_ 1 a_10.2) fun r_11 =>
   altT r_11 (fun a_12 =>
    .opt (msg_reader_num n_ 1 a_12.2) fun r_13 =>
    altT r_13 (fun a_14 =>
    .opt (msg_reader_num n_ 4 a_14.2) fun r_15 =>
    altT r_15 (fun a_16 =>
     .opt (msg_reader_text a_16.2) fun r_17 =>
     altT r_17 (fun a_18 =>
     .ret (.inl ((TTell.mk a_2.1 a_4.1 a_6.1 a_8.1 a_10.1 a_12.1 a_14.1 a_16.1 a_18.1), a_18.2))) fun b_19 =>
     .ret (.inr a_16.2)) fun b_20 =>
    .ret (.inr a_14.2)) fun b_21 =>
    .ret (.inr a_12.2)) fun b_22 =>
   .ret (.inr a_10.2)) fun b_23 =>
   .ret (.inr a_8.2)) fun b_24 =>
  .ret (.inr a_6.2)) fun b_25 =>
  .ret (.inr a_4.2)) fun b_26 =>
 .ret (.inr a_2.2)) fun b_27 =>
 .ret (.inr r)
def msg_reader_tell := fun r => (msg_reader_tell_t n_ r).get
def msg_takes_Tell_t (b : List UInt8) : Tree (TTell × Bool) :=
 .opt (msg_reader_tell n_ (Tmsg_reader.mk b)) fun r_1 =>
 altT r_1 (fun a_2 =>
 .ite ((b.length : Int) == 0) (.ret ((TTell.mk 0 0 0 0 0 0 0 0 []), false))
 (.opt (msg_PutTell n_ a_2.1) fun r_3 =>
 .opt (slices_Equal_byte n_ r_3 b) fun r_4 =>
 .ite (!r_4) (.ret ((TTell.mk 0 0 0 0 0 0 0 0 []), false))
 (.ret (a_2.1, true)))) fun b_5 =>
 .ret ((TTell.mk 0 0 0 0 0 0 0 0 []), false)
def msg_takes_Tell := fun b => (msg_takes_Tell_t n_ b).get
def msg_TakeTell_t (b : List UInt8) : Tree (TTell × Bool) :=
 .opt (msg_takes_Tell n_ b) fun r_1 =>
 .ret (r_1.1, r_1.2)
def msg_TakeTell := fun b => (msg_TakeTell_t n_ b).get
def client_work_epoch_s0t (t25 : Int) (t : TTell) (v_ : Int × Tclient_work) : Tree ((Int × Tclient_work) ⊕ Tclient_work) :=
 .ite (decide (v_.1 < t25)) (.ite (inR v_.1 v_.2.Client.Files.length) (.opt (v_.2.Client.Files[v_.1.toNat]?) fun y_1 =>
  .ite (inR v_.1 v_.2.Client.Files.length) (.opt (v_.2.Client.Files[v_.1.toNat]?) fun y_2 =>
  .ret (.inl ((wi64 (v_.1 + 1)), (Tclient_work.mk { v_.2.Client with Files := (v_.2.Client.Files.set v_.1.toNat (cache_Reset y_1)) } [])))) .fail) .fail)
 (.ret (.inr ({ v_.2 with asked := [] })))
def client_work_epoch_s0 := fun t25 t v_ => (client_work_epoch_s0t t25 t v_).get
def client_work_epoch_l0 := fun t25 t t26 w => iter (client_work_epoch_s0 t25 t) n_ (t26, w)
def client_work_epoch_t (t : TTell) (w : Tclient_work) : Tree (Tclient_work ⊕ Tclient_work) :=
 .ite (decide (t.Epoch ≤ w.Client.Epoch)) (.ret (.inl ({ w with asked := [] })))
 (.opt (client_work_epoch_l0 n_ (w.Client.Files.length : Int) t 0 (Tclient_work.mk { w.Client with Epoch := t.Epoch } [])) fun r_1 =>
 .ite r_1.Client.Out.Is (.ret (.inr (client_work_again (Tclient_work.mk { r_1.Client with Out := { r_1.Client.Out with Ask := { r_1.Client.Out.Ask with Epoch := t.Epoch } } } []))))
 (.ret (.inl ({ r_1 with asked := [] }))))
def client_work_epoch := fun t w => (client_work_epoch_t n_ t w).get
def client_work_called_t (t : TTell) (w : Tclient_work) : Tree (Tclient_work ⊕ (Tclient_work ⊕ (Tclient_work ⊕ Tclient_work))) :=
 .opt (client_work_file t.File { w with asked := [] }) fun r_1 =>
 altT r_1 (fun a_2 =>
 .ite (t.Epoch != w.Client.Epoch) (.ret (.inl ({ w with asked := [] })))
 (.opt (w.Client.Files[a_2]?) fun y_3 =>
 .ite (y_3.Mode == 0) (.ret (.inl ({ w with asked := [] })))
 (.opt (w.Client.Files[a_2]?) fun y_4 =>
 .ite (!w.Client.Out.Is) (.opt (client_work_gives_2 t.File (Tclient_work.mk { w.Client with Files := (w.Client.Files.set a_2 { y_4 with Called := true }) } [])) fun r_5 =>
  altT r_5 (fun a_6 =>
  .ret (.inr (.inr (.inl a_6)))) fun b_7 =>
  .ret (.inr (.inr (.inr b_7))))
 (.ret (.inl (Tclient_work.mk { w.Client with Files := (w.Client.Files.set a_2 { y_4 with Called := true }) } [])))))) fun b_8 =>
 .ite (t.Epoch != w.Client.Epoch) (.ret (.inr (.inl ({ w with asked := [] }))))
 (.ret (.inr (.inl ({ w with asked := [] }))))
def client_work_called := fun t w => (client_work_called_t t w).get
def client_work_file_3_t (n : Int) (w : Tclient_work) : Tree (Nat ⊕ Unit) :=
 .ite (decide (n < 1)) (.ret (.inr ()))
 (.ite (decide (n > (w.Client.Files.length : Int))) (.ret (.inr ()))
 (.ite (inR (wi64 (n - 1)) w.Client.Files.length) (.ret (.inl ((wi64 (n - 1)).toNat))) .fail))
def client_work_file_3 := fun n w => (client_work_file_3_t n w).get
def client_work_named_s0t (name : List UInt8) (n : Int) (t25 : Int) (v_ : Int × Tclient_work) : Tree ((Int × Tclient_work) ⊕ Tclient_work) :=
 .ite (decide (v_.1 < t25)) (.ite (inR v_.1 v_.2.Client.Names.length) (.opt (v_.2.Client.Names[v_.1.toNat]?) fun y_1 =>
  .ite (y_1 == name) (.ite (inR v_.1 v_.2.Client.Names.length) (.opt (v_.2.Client.Names[v_.1.toNat]?) fun y_2 =>
   .ret (.inl ((wi64 (v_.1 + 1)), (Tclient_work.mk { v_.2.Client with Names := (v_.2.Client.Names.set v_.1.toNat []), Out := { v_.2.Client.Out with Ask := { v_.2.Client.Out.Ask with Writes := [] } } } [])))) .fail)
  (.ret (.inl ((wi64 (v_.1 + 1)), (Tclient_work.mk { v_.2.Client with Out := { v_.2.Client.Out with Ask := { v_.2.Client.Out.Ask with Writes := [] } } } []))))) .fail)
 (.ret (.inr (Tclient_work.mk { v_.2.Client with Out := { v_.2.Client.Out with Ask := { v_.2.Client.Out.Ask with Writes := [] } } } [])))
def client_work_named_s0 := fun name n t25 v_ => (client_work_named_s0t name n t25 v_).get
def client_work_named_l0 := fun name n t25 t26 w => iter (client_work_named_s0 name n t25) n_ (t26, w)
def client_work_named_t (name : List UInt8) (n : Int) (w : Tclient_work) : Tree Tclient_work :=
 .ite (decide (n < 1)) (.ret (Tclient_work.mk { w.Client with Out := { w.Client.Out with Ask := { w.Client.Out.Ask with Writes := [] } } } []))
 (.ite (decide (n > (w.Client.Names.length : Int))) (.ret (Tclient_work.mk { w.Client with Out := { w.Client.Out with Ask := { w.Client.Out.Ask with Writes := [] } } } []))
 (.opt (client_work_named_l0 n_ name n (w.Client.Names.length : Int) 0 (Tclient_work.mk { w.Client with Out := { w.Client.Out with Ask := { w.Client.Out.Ask with Writes := [] } } } [])) fun r_1 =>
 .ite (inR (wi64 (n - 1)) r_1.Client.Names.length) (.opt (r_1.Client.Names[(wi64 (n - 1)).toNat]?) fun y_2 =>
 .ret (Tclient_work.mk { r_1.Client with Names := (r_1.Client.Names.set (wi64 (n - 1)).toNat name), Out := { r_1.Client.Out with Ask := { r_1.Client.Out.Ask with Writes := [] } } } [])) .fail))
def client_work_named := fun name n w => (client_work_named_t n_ name n w).get
def clock_within_t (v : Int) (most : Int) : Tree (Unit ⊕ Unit) :=
 .ite (decide (v < 0)) (.ret (.inr ()))
 (.ite (decide (v > most)) (.ret (.inr ()))
 (.ret (.inl ())))
def clock_within := fun v most => (clock_within_t v most).get
def clock_Short_t (term : Int) (eps : Int) : Tree Int :=
 .opt (clock_within term 1099511627776) fun r_1 =>
 altT r_1 (fun a_2 =>
 .opt (clock_within eps 500) fun r_3 =>
 altT r_3 (fun a_4 =>
  .ite ((wi64 (1000 + eps)) == 0) .fail
  (.ret (wi64 ((wi64 (term * (wi64 (1000 - eps)))).tdiv (wi64 (1000 + eps)))))) fun b_5 =>
 .ret 0) fun b_6 =>
 .ret 0
def clock_Short := fun term eps => (clock_Short_t term eps).get
def cache_Let (c : TCache) (mode : Int) (until_ : Int) (ver : Int) (body : List UInt8) : TCache := (TCache.mk mode until_ ver body c.Dirty c.Sent false c.Lost)
def cache_Done_t (c : TCache) (ver : Int) : Tree TCache :=
 .ite (c.Mode != 2) (.ret c)
 (.ite (cutOk 0 (imax (imin c.Sent (c.Dirty.length : Int)) 0) c.Dirty.length) (.opt (file_All n_ c.Body (cutL c.Dirty 0 (imax (imin c.Sent (c.Dirty.length : Int)) 0))) fun r_1 =>
 .ite (cutOk (imax (imin c.Sent (c.Dirty.length : Int)) 0) (c.Dirty.length : Int) c.Dirty.length) (.ret (TCache.mk c.Mode c.Until ver r_1 (cutL c.Dirty (imax (imin c.Sent (c.Dirty.length : Int)) 0) (c.Dirty.length : Int)) 0 c.Called c.Lost)) .fail) .fail)
def cache_Done := fun c ver => (cache_Done_t n_ c ver).get
def client_work_named_2_s0t (name : List UInt8) (n : Int) (t25 : Int) (v_ : Int × Tclient_work) : Tree ((Int × Tclient_work) ⊕ Tclient_work) :=
 .ite (decide (v_.1 < t25)) (.ite (inR v_.1 v_.2.Client.Names.length) (.opt (v_.2.Client.Names[v_.1.toNat]?) fun y_1 =>
  .ite (y_1 == name) (.ite (inR v_.1 v_.2.Client.Names.length) (.opt (v_.2.Client.Names[v_.1.toNat]?) fun y_2 =>
   .ret (.inl ((wi64 (v_.1 + 1)), (Tclient_work.mk { v_.2.Client with Names := (v_.2.Client.Names.set v_.1.toNat []), Out := { v_.2.Client.Out with Ask := { v_.2.Client.Out.Ask with Writes := [] } } } [])))) .fail)
  (.ret (.inl ((wi64 (v_.1 + 1)), (Tclient_work.mk { v_.2.Client with Out := { v_.2.Client.Out with Ask := { v_.2.Client.Out.Ask with Writes := [] } } } []))))) .fail)
 (.ret (.inr (Tclient_work.mk { v_.2.Client with Out := { v_.2.Client.Out with Ask := { v_.2.Client.Out.Ask with Writes := [] } } } [])))
def client_work_named_2_s0 := fun name n t25 v_ => (client_work_named_2_s0t name n t25 v_).get
def client_work_named_2_l0 := fun name n t25 t26 w => iter (client_work_named_2_s0 name n t25) n_ (t26, w)
def client_work_named_2_t (name : List UInt8) (n : Int) (w : Tclient_work) : Tree Tclient_work :=
 .ite (decide (n < 1)) (.ret (Tclient_work.mk { w.Client with Out := { w.Client.Out with Ask := { w.Client.Out.Ask with Writes := [] } } } []))
 (.ite (decide (n > (w.Client.Names.length : Int))) (.ret (Tclient_work.mk { w.Client with Out := { w.Client.Out with Ask := { w.Client.Out.Ask with Writes := [] } } } []))
 (.opt (client_work_named_2_l0 n_ name n (w.Client.Names.length : Int) 0 (Tclient_work.mk { w.Client with Out := { w.Client.Out with Ask := { w.Client.Out.Ask with Writes := [] } } } [])) fun r_1 =>
 .ite (inR (wi64 (n - 1)) r_1.Client.Names.length) (.opt (r_1.Client.Names[(wi64 (n - 1)).toNat]?) fun y_2 =>
 .ret (Tclient_work.mk { r_1.Client with Names := (r_1.Client.Names.set (wi64 (n - 1)).toNat name), Out := { r_1.Client.Out with Ask := { r_1.Client.Out.Ask with Writes := [] } } } [])) .fail))
def client_work_named_2 := fun name n w => (client_work_named_2_t n_ name n w).get
def client_work_done_t (t : TTell) (w : Tclient_work) : Tree (Tclient_work ⊕ Tclient_work) :=
 .ite (t.Epoch != w.Client.Epoch) (.ret (.inr ({ w with asked := [] })))
 (.ite (!w.Client.Out.Is) (.ret (.inr ({ w with asked := [] })))
 (.ite (t.Seq != w.Client.Out.Ask.Seq) (.ret (.inr ({ w with asked := [] })))
 (.opt (client_work_file_3 w.Client.Out.Ask.File (Tclient_work.mk { w.Client with Out := (TOut.mk false (TAsk.mk 0 0 0 0 [] 0 0 []) 0 0) } [])) fun r_1 =>
 altT r_1 (fun a_2 =>
 .ite (w.Client.Out.Ask.Kind == 1) (.ite (t.Err == 0) (.opt (client_work_named n_ w.Client.Out.Ask.Name t.File (Tclient_work.mk { w.Client with Out := (TOut.mk false (TAsk.mk 0 0 0 0 [] 0 0 []) 0 0) } [])) fun r_3 =>
  .ret (.inl (Tclient_work.mk { r_3.Client with Out := { r_3.Client.Out with Ask := { r_3.Client.Out.Ask with Writes := [] } } } [])))
  (.ret (.inl (Tclient_work.mk { w.Client with Out := (TOut.mk false (TAsk.mk 0 0 0 0 [] 0 0 []) 0 0) } []))))
 (.ite (w.Client.Out.Ask.Kind == 2) (.opt (clock_Short 60 100) fun r_4 =>
  .ite (t.Err == 0) (.ite (decide (w.Client.Now < (clock_Add w.Client.Out.First r_4))) (.ite (t.Mode != 0) (.opt (w.Client.Files[a_2]?) fun y_5 =>
   .opt (w.Client.Files[a_2]?) fun y_6 =>
   .ret (.inl (Tclient_work.mk { w.Client with Files := (w.Client.Files.set a_2 (cache_Let y_5 t.Mode (clock_Add w.Client.Out.First r_4) t.Ver t.Body)), Out := (TOut.mk false (TAsk.mk 0 0 0 0 [] 0 0 []) 0 0) } [])))
   (.ret (.inl (Tclient_work.mk { w.Client with Out := (TOut.mk false (TAsk.mk 0 0 0 0 [] 0 0 []) 0 0) } []))))
  (.ret (.inl (Tclient_work.mk { w.Client with Out := (TOut.mk false (TAsk.mk 0 0 0 0 [] 0 0 []) 0 0) } []))))
  (.ret (.inl (Tclient_work.mk { w.Client with Out := (TOut.mk false (TAsk.mk 0 0 0 0 [] 0 0 []) 0 0) } []))))
 (.ite (w.Client.Out.Ask.Kind == 3) (.ite (t.Err == 0) (.opt (w.Client.Files[a_2]?) fun y_7 =>
  .opt (cache_Done n_ y_7 t.Ver) fun r_8 =>
  .opt (w.Client.Files[a_2]?) fun y_9 =>
  .ret (.inl (Tclient_work.mk { w.Client with Files := (w.Client.Files.set a_2 r_8), Out := (TOut.mk false (TAsk.mk 0 0 0 0 [] 0 0 []) 0 0) } [])))
  (.opt (w.Client.Files[a_2]?) fun y_10 =>
  .opt (w.Client.Files[a_2]?) fun y_11 =>
  .ret (.inl (Tclient_work.mk { w.Client with Files := (w.Client.Files.set a_2 (cache_Reset y_10)), Out := (TOut.mk false (TAsk.mk 0 0 0 0 [] 0 0 []) 0 0) } []))))
 (.ite (w.Client.Out.Ask.Kind == 4) (.opt (w.Client.Files[a_2]?) fun y_12 =>
  .ite y_12.Lost (.opt (w.Client.Files[a_2]?) fun y_13 =>
  .ret (.inl (Tclient_work.mk { w.Client with Files := (w.Client.Files.set a_2 { y_13 with Lost := true }), Out := (TOut.mk false (TAsk.mk 0 0 0 0 [] 0 0 []) 0 0) } [])))
  (.ite (!(t.Err == 0)) (.opt (w.Client.Files[a_2]?) fun y_14 =>
  .ret (.inl (Tclient_work.mk { w.Client with Files := (w.Client.Files.set a_2 { y_14 with Lost := (decide ((w.Client.Out.Ask.Writes.length : Int) > 0)) }), Out := (TOut.mk false (TAsk.mk 0 0 0 0 [] 0 0 []) 0 0) } [])))
  (.opt (w.Client.Files[a_2]?) fun y_15 =>
  .ret (.inl (Tclient_work.mk { w.Client with Files := (w.Client.Files.set a_2 { y_15 with Lost := false }), Out := (TOut.mk false (TAsk.mk 0 0 0 0 [] 0 0 []) 0 0) } [])))))
 (.ite (w.Client.Out.Ask.Kind == 5) (.ite (t.Err == 0) (.ite (inR (wi64 (w.Client.Out.Ask.File - 1)) w.Client.Names.length) (.opt (w.Client.Names[(wi64 (w.Client.Out.Ask.File - 1)).toNat]?) fun y_16 =>
   .ret (.inl (Tclient_work.mk { w.Client with Names := (w.Client.Names.set (wi64 (w.Client.Out.Ask.File - 1)).toNat []), Out := (TOut.mk false (TAsk.mk 0 0 0 0 [] 0 0 []) 0 0) } []))) .fail)
  (.ret (.inl (Tclient_work.mk { w.Client with Out := (TOut.mk false (TAsk.mk 0 0 0 0 [] 0 0 []) 0 0) } []))))
 (.ret (.inl (Tclient_work.mk { w.Client with Out := (TOut.mk false (TAsk.mk 0 0 0 0 [] 0 0 []) 0 0) } [])))))))) fun b_17 =>
 .ite (w.Client.Out.Ask.Kind == 1) (.ite (t.Err == 0) (.opt (client_work_named_2 n_ w.Client.Out.Ask.Name t.File (Tclient_work.mk { w.Client with Out := (TOut.mk false (TAsk.mk 0 0 0 0 [] 0 0 []) 0 0) } [])) fun r_18 =>
  .ret (.inl (Tclient_work.mk { r_18.Client with Out := { r_18.Client.Out with Ask := { r_18.Client.Out.Ask with Writes := [] } } } [])))
 (.ret (.inl (Tclient_work.mk { w.Client with Out := (TOut.mk false (TAsk.mk 0 0 0 0 [] 0 0 []) 0 0) } []))))
 (.ite (w.Client.Out.Ask.Kind == 2) (.opt (clock_Short 60 100) fun r_19 =>
 .ite (t.Err == 0) (.ite (decide (w.Client.Now < (clock_Add w.Client.Out.First r_19))) (.ite (t.Mode != 0) (.ret (.inl (Tclient_work.mk { w.Client with Out := (TOut.mk false (TAsk.mk 0 0 0 0 [] 0 0 []) 0 0) } [])))
  (.ret (.inl (Tclient_work.mk { w.Client with Out := (TOut.mk false (TAsk.mk 0 0 0 0 [] 0 0 []) 0 0) } []))))
  (.ret (.inl (Tclient_work.mk { w.Client with Out := (TOut.mk false (TAsk.mk 0 0 0 0 [] 0 0 []) 0 0) } []))))
 (.ret (.inl (Tclient_work.mk { w.Client with Out := (TOut.mk false (TAsk.mk 0 0 0 0 [] 0 0 []) 0 0) } []))))
 (.ite (w.Client.Out.Ask.Kind == 3) (.ite (t.Err == 0) (.opt (cache_Done n_ (TCache.mk 0 0 0 [] [] 0 false false) t.Ver) fun r_20 =>
  .ret (.inl (Tclient_work.mk { w.Client with Out := (TOut.mk false (TAsk.mk 0 0 0 0 [] 0 0 []) 0 0) } [])))
 (.ret (.inl (Tclient_work.mk { w.Client with Out := (TOut.mk false (TAsk.mk 0 0 0 0 [] 0 0 []) 0 0) } []))))
 (.ite (w.Client.Out.Ask.Kind == 4) (.ite (!(t.Err == 0)) (.ret (.inl (Tclient_work.mk { w.Client with Out := (TOut.mk false (TAsk.mk 0 0 0 0 [] 0 0 []) 0 0) } [])))
 (.ret (.inl (Tclient_work.mk { w.Client with Out := (TOut.mk false (TAsk.mk 0 0 0 0 [] 0 0 []) 0 0) } []))))
 (.ite (w.Client.Out.Ask.Kind == 5) (.ite (t.Err == 0) (.ite (inR (wi64 (w.Client.Out.Ask.File - 1)) w.Client.Names.length) (.opt (w.Client.Names[(wi64 (w.Client.Out.Ask.File - 1)).toNat]?) fun y_21 =>
  .ret (.inl (Tclient_work.mk { w.Client with Names := (w.Client.Names.set (wi64 (w.Client.Out.Ask.File - 1)).toNat []), Out := (TOut.mk false (TAsk.mk 0 0 0 0 [] 0 0 []) 0 0) } []))) .fail)
 (.ret (.inl (Tclient_work.mk { w.Client with Out := (TOut.mk false (TAsk.mk 0 0 0 0 [] 0 0 []) 0 0) } []))))
 (.ret (.inl (Tclient_work.mk { w.Client with Out := (TOut.mk false (TAsk.mk 0 0 0 0 [] 0 0 []) 0 0) } []))))))))))
def client_work_done := fun t w => (client_work_done_t n_ t w).get
def client_Comes_t (c : TClient) (b : List UInt8) : Tree (TClient × List TAsk) :=
 .opt (client_of n_ c) fun r_1 =>
 .opt (msg_TakeTell n_ b) fun r_2 =>
 .ite (!r_2.2) (.ret ({ r_1.Client with Bad := (imin (wi64 (r_1.Client.Bad + 1)) 1073741824) }, []))
 (.ite (r_2.1.To != c.ID) (.ret ({ r_1.Client with Bad := (imin (wi64 (r_1.Client.Bad + 1)) 1073741824) }, []))
 (.ite (r_2.1.Kind == 3) (.opt (client_work_epoch n_ r_2.1 { r_1 with asked := [] }) fun r_3 =>
 altT r_3 (fun a_4 =>
  .ret (a_4.Client, [])) fun b_5 =>
 .ret (b_5.Client, b_5.asked))
 (.ite (r_2.1.Kind == 2) (.opt (client_work_called r_2.1 { r_1 with asked := [] }) fun r_6 =>
 altT r_6 (fun a_7 =>
  .ret (a_7.Client, [])) fun b_8 =>
 altT b_8 (fun a_9 =>
  .ret (a_9.Client, [])) fun b_10 =>
 altT b_10 (fun a_11 =>
  .ret (a_11.Client, a_11.asked)) fun b_12 =>
 .ret (b_12.Client, b_12.asked))
 (.ite (r_2.1.Kind == 1) (.opt (client_work_done n_ r_2.1 { r_1 with asked := [] }) fun r_13 =>
 altT r_13 (fun a_14 =>
  .ret ({ a_14.Client with Out := { a_14.Client.Out with Ask := { a_14.Client.Out.Ask with Writes := [] } } }, [])) fun b_15 =>
 .ret (b_15.Client, []))
 (.ret (r_1.Client, []))))))
def client_Comes := fun c b => (client_Comes_t n_ c b).get
def world_host_asks_2_s0t (t6 : List TAsk) (t7 : Int) (v_ : Int × Tworld_host) : Tree ((Int × Tworld_host) ⊕ Tworld_host) :=
 .ite (decide (v_.1 < t7)) (.ite (inR v_.1 t6.length) (.opt (t6[v_.1.toNat]?) fun y_1 =>
  .opt (msg_PutAsk n_ y_1) fun r_2 =>
  .opt (world_host_sends_4 0 r_2 v_.2) fun r_3 =>
  .ret (.inl ((wi64 (v_.1 + 1)), r_3))) .fail)
 (.ret (.inr v_.2))
def world_host_asks_2_s0 := fun t6 t7 v_ => (world_host_asks_2_s0t n_ t6 t7 v_).get
def world_host_asks_2_l0 := fun t6 t7 t8 h => iter (world_host_asks_2_s0 n_ t6 t7) n_ (t8, h)
def world_host_asks_2_t (l : List TAsk) (h : Tworld_host) : Tree Tworld_host :=
 .opt (world_host_asks_2_l0 n_ l (l.length : Int) 0 h) fun r_1 =>
 .ret r_1
def world_host_asks_2 := fun l h => (world_host_asks_2_t n_ l h).get
def world_host_comes_t (i : Int) (h : Tworld_host) : Tree ((Tworld_host × List TGram) ⊕ (Tworld_refused ⊕ (Tworld_refused × Tworld_host × List TGram))) :=
 .opt (net_Comes h.World.Fly i) fun r_1 =>
 .opt (world_no (!r_1.2.2) 2) fun r_2 =>
 altT r_2 (fun a_3 =>
 .ite (r_1.2.1.To == 0) (.ite (!h.World.S.Live) (.ret (.inl ((Tworld_host.mk { h.World with Fly := r_1.1 } { h.a with Err := 8 }), h.World.Fly)))
  (.opt (server_Comes n_ h.World.S r_1.2.1.B) fun r_4 =>
  .opt (world_host_tells_2 n_ r_4.2 { h with World := { h.World with S := r_4.1, Fly := r_1.1 } }) fun r_5 =>
  .ret (.inl (r_5, h.World.Fly))))
 (.ite (decide (r_1.2.1.To < 1)) (.ret (.inl ({ h with World := { h.World with Fly := r_1.1 } }, h.World.Fly)))
 (.ite (decide (r_1.2.1.To > (h.World.Clients.length : Int))) (.ret (.inl ({ h with World := { h.World with Fly := r_1.1 } }, h.World.Fly)))
 (.opt (world_host_client_2 r_1.2.1.To { h with World := { h.World with Fly := r_1.1 } }) fun r_6 =>
 altT r_6 (fun a_7 =>
  .opt (h.World.Clients[a_7]?) fun y_8 =>
  .opt (client_Comes n_ y_8 r_1.2.1.B) fun r_9 =>
  .opt (h.World.Clients[a_7]?) fun y_10 =>
  .opt (world_host_asks_2 n_ r_9.2 { h with World := (TWorld.mk h.World.Real h.World.S (h.World.Clients.set a_7 r_9.1) r_1.1) }) fun r_11 =>
  .ret (.inl (r_11, h.World.Fly))) fun b_12 =>
 .ret (.inr (.inr (b_12, { h with World := { h.World with Fly := r_1.1 } }, h.World.Fly))))))) fun b_13 =>
 .ret (.inr (.inl b_13))
def world_host_comes := fun i h => (world_host_comes_t n_ i h).get
def net_Lost_t (l : List TGram) (i : Int) : Tree (List TGram × Bool) :=
 .opt (net_Comes l i) fun r_1 =>
 .ret (r_1.1, r_1.2.2)
def net_Lost := fun l i => (net_Lost_t l i).get
def net_Twice_t (l : List TGram) (i : Int) : Tree (List TGram × Bool) :=
 .ite (!(net_there l i)) (.ret (l, false))
 (.ite (decide ((l.length : Int) ≥ 40)) (.ret (l, false))
 (.ite (inR i l.length) (.opt (l[i.toNat]?) fun y_1 =>
 .opt (net_Send l y_1) fun r_2 =>
 .ret (r_2, true)) .fail))
def net_Twice := fun l i => (net_Twice_t l i).get
def net_turns_t (g : TGram) (to_ : Int) : Tree (TGram ⊕ Unit) :=
 .ite g.Turned (.ret (.inr ()))
 (.ite (g.B == []) (.ret (.inr ()))
 (.ite (decide (to_ < 0)) (.ret (.inr ()))
 (.ite ((to_.tmod 256) == 0) (.ret (.inr ()))
 (.ite ((g.B.length : Int) == 0) .fail
 (.ite (inR ((wi64 (to_.tdiv 256)).tmod (g.B.length : Int)) g.B.length) (.opt (g.B[((wi64 (to_.tdiv 256)).tmod (g.B.length : Int)).toNat]?) fun y_1 =>
 .ite (inR ((wi64 (to_.tdiv 256)).tmod (g.B.length : Int)) g.B.length) (.opt (g.B[((wi64 (to_.tdiv 256)).tmod (g.B.length : Int)).toNat]?) fun y_2 =>
  .ret (.inl (TGram.mk g.To (g.B.set ((wi64 (to_.tdiv 256)).tmod (g.B.length : Int)).toNat (b8 (bxor .u8 (i8 y_1) (i8 (b8 (wu8 (to_.tmod 256))))))) true))) .fail) .fail)))))
def net_turns := fun g to_ => (net_turns_t g to_).get
def net_Turned_t (l : List TGram) (i : Int) (to_ : Int) : Tree (List TGram × Bool) :=
 .ite (!(net_there l i)) (.ret (l, false))
 (.ite (inR i l.length) (.opt (l[i.toNat]?) fun y_1 =>
 .opt (net_turns y_1 to_) fun r_2 =>
 altT r_2 (fun a_3 =>
  .ite (inR i l.length) (.opt (l[i.toNat]?) fun y_4 =>
  .ret ((l.set i.toNat a_3), true)) .fail) fun b_5 =>
 .ret (l, false)) .fail)
def net_Turned := fun l i to_ => (net_Turned_t l i to_).get
def world_host_ways_t (s : TStep) (h : Tworld_host) : Tree ((Tworld_host × List TGram) ⊕ ((Tworld_host × List TGram) ⊕ (Tworld_refused ⊕ Tworld_refused))) :=
 .ite (s.Kind == 10) (.opt (net_Lost h.World.Fly s.I) fun r_1 =>
 .opt (world_no (!r_1.2) 2) fun r_2 =>
 altT r_2 (fun a_3 =>
  .ret (.inr (.inl ({ h with World := { h.World with Fly := r_1.1 } }, h.World.Fly)))) fun b_4 =>
 .ret (.inr (.inr (.inl b_4))))
 (.ite (s.Kind == 11) (.opt (net_Twice h.World.Fly s.I) fun r_5 =>
 .opt (world_no (!r_5.2) 2) fun r_6 =>
 altT r_6 (fun a_7 =>
  .ret (.inr (.inl ({ h with World := { h.World with Fly := r_5.1 } }, h.World.Fly)))) fun b_8 =>
 .ret (.inr (.inr (.inl b_8))))
 (.ite (s.Kind == 12) (.opt (net_Turned h.World.Fly s.I s.To) fun r_9 =>
 .opt (world_no (!r_9.2) 2) fun r_10 =>
 altT r_10 (fun a_11 =>
  .ret (.inr (.inl ({ h with World := { h.World with Fly := r_9.1 } }, h.World.Fly)))) fun b_12 =>
 .ret (.inr (.inr (.inl b_12))))
 (.opt (world_no true 2) fun r_13 =>
 altT r_13 (fun a_14 =>
 .ret (.inl ({ h with World := { h.World with Fly := [] } }, h.World.Fly))) fun b_15 =>
 .ret (.inr (.inr (.inr b_15))))))
def world_host_ways := fun s h => (world_host_ways_t s h).get
def world_host_arms_t (i : Int) (h : Tworld_host) : Tree (Tworld_host ⊕ Tworld_refused) :=
 .opt (world_no (!h.World.S.Live) 8) fun r_1 =>
 altT r_1 (fun a_2 =>
 .ite (decide (i < 0)) (.opt (world_no true 1) fun r_3 =>
  altT r_3 (fun a_4 =>
  .ret (.inl ({ h with World := { h.World with S := { h.World.S with Store := (TStore.mk { h.World.S.Store.D with Arm := i } h.World.S.Store.S) } } }))) fun b_5 =>
  .ret (.inr b_5))
 (.opt (world_no (decide (i > 64)) 1) fun r_6 =>
 altT r_6 (fun a_7 =>
  .ret (.inl ({ h with World := { h.World with S := { h.World.S with Store := (TStore.mk { h.World.S.Store.D with Arm := i } h.World.S.Store.S) } } }))) fun b_8 =>
 .ret (.inr b_8))) fun b_9 =>
 .ret (.inr b_9)
def world_host_arms := fun i h => (world_host_arms_t i h).get
def client_Crash (c : TClient) : TClient := ({ c with ID := (client_New c.ID).ID, Files := (client_New c.ID).Files, Names := (client_New c.ID).Names, Out := (client_New c.ID).Out })
def disk_Crash_s0t (keep : List Int) (t13 : List TPut) (t14 : Int) (o0 : TDisk) (v_ : Int × TDisk × Tdisk_lasting) : Tree ((Int × TDisk × Tdisk_lasting) ⊕ (TDisk × Tdisk_lasting)) :=
 .ite (decide (v_.1 < t14)) (.ite (inR v_.1 t13.length) (.opt (t13[v_.1.toNat]?) fun y_1 =>
  .ite (decide (v_.1 < (keep.length : Int))) (.ite (inR v_.1 keep.length) (.opt (keep[v_.1.toNat]?) fun y_2 =>
   .opt (disk_lasting_lasts y_1 (imin y_2 32) v_.2.2) fun r_3 =>
   .ret (.inl ((wi64 (v_.1 + 1)), { v_.2.1 with Last := [], Wait := [] }, r_3))) .fail)
  (.ret (.inl ((wi64 (v_.1 + 1)), { v_.2.1 with Last := [], Wait := [] }, v_.2.2)))) .fail)
 (.ret (.inr ({ v_.2.1 with Last := [], Wait := [] }, v_.2.2)))
def disk_Crash_s0 := fun keep t13 t14 o0 v_ => (disk_Crash_s0t keep t13 t14 o0 v_).get
def disk_Crash_l0 := fun keep t13 t14 o0 t15 o1 f => iter (disk_Crash_s0 keep t13 t14 o0) n_ (t15, o1, f)
def disk_Crash_t (d : TDisk) (keep : List Int) : Tree TDisk :=
 .opt (disk_Crash_l0 n_ keep d.Wait (d.Wait.length : Int) d 0 (TDisk.mk [] [] 0 false) (Tdisk_lasting.mk d)) fun r_1 =>
 .ret (TDisk.mk r_1.2.d.Last [] 0 false)
def disk_Crash := fun d keep => (disk_Crash_t n_ d keep).get
def jrnl_writer_read_t (i : Int) (w : Tjrnl_writer) : Tree ((List UInt8 × Tjrnl_writer × List (List UInt8) × List TPut) ⊕ (Tjrnl_writer × List (List UInt8) × List TPut)) :=
 .opt (jrnl_writer_does w.d (disk_Read w.d i).2 w) fun r_1 =>
 altT r_1 (fun a_2 =>
 .ret (.inl ((disk_Read w.d i).1, a_2, w.d.Last, w.d.Wait))) fun b_3 =>
 .ret (.inr (b_3, w.d.Last, w.d.Wait))
def jrnl_writer_read := fun i w => (jrnl_writer_read_t i w).get
def strings_trimRightByte_s0t (c : UInt8) (v_ : List UInt8) : Tree ((List UInt8) ⊕ (List UInt8)) :=
 .ite (decide ((v_.length : Int) > 0)) (.ite (inR (wi64 ((v_.length : Int) - 1)) v_.length) (.opt (v_[(wi64 ((v_.length : Int) - 1)).toNat]?) fun y_1 =>
  .ite ((i8 y_1) == (i8 c)) (.ite (cutOk 0 (wi64 ((v_.length : Int) - 1)) v_.length) (.ret (.inl (cutL v_ 0 (wi64 ((v_.length : Int) - 1))))) .fail)
  (.ret (.inr v_))) .fail)
 (.ret (.inr v_))
def strings_trimRightByte_s0 := fun c v_ => (strings_trimRightByte_s0t c v_).get
def strings_trimRightByte_l0 := fun c s => iter (strings_trimRightByte_s0 c) n_ s
def strings_trimRightByte_t (s : List UInt8) (c : UInt8) : Tree (List UInt8) :=
 .opt (strings_trimRightByte_l0 n_ c s) fun r_1 =>
 .ret r_1
def strings_trimRightByte := fun s c => (strings_trimRightByte_t n_ s c).get
def strings_trimLeftByte_s0t (c : UInt8) (v_ : List UInt8) : Tree ((List UInt8) ⊕ (List UInt8)) :=
 .ite (decide ((v_.length : Int) > 0)) (.ite (inR 0 v_.length) (.opt (v_[0]?) fun y_1 =>
  .ite ((i8 y_1) == (i8 c)) (.ite (cutOk 1 (v_.length : Int) v_.length) (.ret (.inl (cutL v_ 1 (v_.length : Int)))) .fail)
  (.ret (.inr v_))) .fail)
 (.ret (.inr v_))
def strings_trimLeftByte_s0 := fun c v_ => (strings_trimLeftByte_s0t c v_).get
def strings_trimLeftByte_l0 := fun c s => iter (strings_trimLeftByte_s0 c) n_ s
def strings_trimLeftByte_t (s : List UInt8) (c : UInt8) : Tree (List UInt8) :=
 .opt (strings_trimLeftByte_l0 n_ c s) fun r_1 =>
 .ret r_1
def strings_trimLeftByte := fun s c => (strings_trimLeftByte_t n_ s c).get
def strings_Trim_t (s : List UInt8) : Tree (List UInt8) :=
 .ite (s == []) (.ret s)
 (.opt (strings_trimRightByte n_ s 0) fun r_1 =>
 .opt (strings_trimLeftByte n_ r_1 0) fun r_2 =>
 .ret r_2)
def strings_Trim := fun s => (strings_Trim_t n_ s).get
def jrnl_named_s0t (home : Int) (s : List UInt8) (n : Int) (t44 : Int) (o0 : TDisk) (r1 : List UInt8) (v_ : Int × Int × List Int) : Tree ((Int × Int × List Int) ⊕ ((List Int) ⊕ (List Int))) :=
 .ite (decide (v_.2.1 < t44)) (.ite (inR v_.2.1 r1.length) (.opt (r1[v_.2.1.toNat]?) fun y_1 =>
  .ite (decide ((wi64 (i8 y_1)) ≤ v_.1)) (.ret (.inr (.inl v_.2.2)))
  (.ite (decide ((wi64 (i8 y_1)) ≥ home)) (.ret (.inr (.inl v_.2.2)))
  (.ite (decide ((v_.2.2.length + 1) ≤ lim)) (.ret (.inl ((wi64 (i8 y_1)), (wi64 (v_.2.1 + 1)), (v_.2.2 ++ [(wi64 (i8 y_1))])))) .fail))) .fail)
 (.ret (.inr (.inr v_.2.2)))
def jrnl_named_s0 := fun home s n t44 o0 r1 v_ => (jrnl_named_s0t home s n t44 o0 r1 v_).get
def jrnl_named_l0 := fun home s n t44 o0 r1 last t45 l => iter (jrnl_named_s0 home s n t44 o0 r1) n_ (last, t45, l)
def jrnl_named_t (d : TDisk) (home : Int) (s : List UInt8) : Tree (List Int × Bool) :=
 .ite (inR 0 s.length) (.opt (s[0]?) fun y_1 =>
 .ite ((i8 y_1) != 1) (.ret ([], false))
 (.ite (inR 31 s.length) (.opt (s[31]?) fun y_2 =>
  .ite ((i8 y_2) != 1) (.ret ([], false))
  (.ite (inR 1 s.length) (.opt (s[1]?) fun y_3 =>
  .ite (decide ((wi64 (i8 y_3)) < 1)) (.ret ([], false))
  (.ite (decide ((wi64 (i8 y_3)) > 16)) (.ret ([], false))
  (.ite (decide ((wi64 (home + (wi64 (i8 y_3)))) ≥ (d.Last.length : Int))) (.ret ([], false))
  (.ite (cutOk 2 (wi64 (2 + (wi64 (i8 y_3)))) s.length) (.opt (jrnl_named_l0 n_ home s (wi64 (i8 y_3)) ((cutL s 2 (wi64 (2 + (wi64 (i8 y_3))))).length : Int) d (cutL s 2 (wi64 (2 + (wi64 (i8 y_3))))) (-1) 0 []) fun r_4 =>
   altT r_4 (fun a_5 =>
   .ret ([], false)) fun b_6 =>
   .ite (cutOk (wi64 (2 + (wi64 (i8 y_3)))) 31 s.length) (.opt (strings_Trim n_ (cutL s (wi64 (2 + (wi64 (i8 y_3)))) 31)) fun r_7 =>
   .ret (b_6, (r_7 == []))) .fail) .fail)))) .fail)) .fail)) .fail
def jrnl_named := fun d home s => (jrnl_named_t n_ d home s).get
def jrnl_writer_read_2_t (i : Int) (w : Tjrnl_writer) : Tree ((List UInt8 × Tjrnl_writer) ⊕ Tjrnl_writer) :=
 .opt (jrnl_writer_does_2 w.d (disk_Read w.d i).2 w) fun r_1 =>
 altT r_1 (fun a_2 =>
 .ret (.inl ((disk_Read w.d i).1, a_2))) fun b_3 =>
 .ret (.inr b_3)
def jrnl_writer_read_2 := fun i w => (jrnl_writer_read_2_t i w).get
def jrnl_Mend_s0t (home : Int) (t53 : List Int) (t54 : Int) (o0 : TDisk) (ok : Bool) (r4 : List (List UInt8)) (r5 : List TPut) (v_ : Int × TDisk × Tjrnl_writer) : Tree ((Int × TDisk × Tjrnl_writer) ⊕ ((TDisk × Tjrnl_writer) ⊕ (TDisk × Tjrnl_writer))) :=
 .ite (decide (v_.1 < t54)) (.ite (inR v_.1 t53.length) (.opt (t53[v_.1.toNat]?) fun y_1 =>
  .opt (jrnl_writer_read_2 (wi64 ((wi64 (home + 1)) + v_.1)) v_.2.2) fun r_2 =>
  altT r_2 (fun a_3 =>
  .opt (jrnl_writer_write_2 y_1 a_3.1 a_3.2) fun r_4 =>
  altT r_4 (fun a_5 =>
   .ret (.inl ((wi64 (v_.1 + 1)), { v_.2.1 with Last := [], Wait := [] }, a_5))) fun b_6 =>
  .ret (.inr (.inl ({ v_.2.1 with Last := [], Wait := [] }, b_6)))) fun b_7 =>
  .ret (.inr (.inl ({ v_.2.1 with Last := [], Wait := [] }, b_7)))) .fail)
 (.ret (.inr (.inr ({ v_.2.1 with Last := [], Wait := [] }, v_.2.2))))
def jrnl_Mend_s0 := fun home t53 t54 o0 ok r4 r5 v_ => (jrnl_Mend_s0t home t53 t54 o0 ok r4 r5 v_).get
def jrnl_Mend_l0 := fun home t53 t54 o0 ok r4 r5 t55 x w => iter (jrnl_Mend_s0 home t53 t54 o0 ok r4 r5) n_ (t55, x, w)
def jrnl_Mend_t (d : TDisk) (home : Int) : Tree (TDisk × Bool) :=
 .opt (jrnl_writer_read home (Tjrnl_writer.mk d)) fun r_1 =>
 altT r_1 (fun a_2 =>
 .ite ((a_2.1.length : Int) != 32) (.ret (a_2.2.1.d, false))
 (.opt (jrnl_named n_ d home a_2.1) fun r_3 =>
 .ite (!r_3.2) (.ret (a_2.2.1.d, false))
 (.opt (jrnl_Mend_l0 n_ home r_3.1 (r_3.1.length : Int) d false a_2.2.2.1 a_2.2.2.2 0 (TDisk.mk [] [] 0 false) a_2.2.1) fun r_4 =>
 altT r_4 (fun a_5 =>
  .ret (a_5.2.d, false)) fun b_6 =>
 .opt (jrnl_writer_flush n_ b_6.2) fun r_7 =>
 altT r_7 (fun a_8 =>
  .ret (a_8.d, true)) fun b_9 =>
 .ret (b_9.d, false)))) fun b_10 =>
 .ret (b_10.1.d, false)
def jrnl_Mend := fun d home => (jrnl_Mend_t n_ d home).get
def store_sectors_s0t (t6 : Int) (d : TDisk) (v_ : Int × List (List UInt8)) : Tree ((Int × List (List UInt8)) ⊕ ((List (List UInt8)) ⊕ (List (List UInt8)))) :=
 .ite (decide (v_.1 < t6)) (.ite (!(disk_Read d v_.1).2) (.ret (.inr (.inl v_.2)))
 (.ite (decide ((v_.2.length + 1) ≤ lim)) (.ret (.inl ((wi64 (v_.1 + 1)), (v_.2 ++ [(disk_Read d v_.1).1])))) .fail))
 (.ret (.inr (.inr v_.2)))
def store_sectors_s0 := fun t6 d v_ => (store_sectors_s0t t6 d v_).get
def store_sectors_l0 := fun t6 d t7 l => iter (store_sectors_s0 t6 d) n_ (t7, l)
def store_sectors_t (d : TDisk) : Tree ((List (List UInt8)) ⊕ Unit) :=
 .opt (store_home n_) fun r_1 =>
 .opt (store_sectors_l0 n_ r_1 d 0 []) fun r_2 =>
 altT r_2 (fun a_3 =>
 .ret (.inr ())) fun b_4 =>
 .ret (.inl b_4)
def store_sectors := fun d => (store_sectors_t n_ d).get
def image_reader_num_t (n : Int) (r : Timage_reader) : Tree ((Int × Timage_reader × List UInt8) ⊕ Unit) :=
 .opt (bits_Take n_ r.b n) fun r_1 =>
 .ite (!r_1.2) (.ret (.inr ()))
 (.ite (cutOk n (r.b.length : Int) r.b.length) (.ret (.inl (r_1.1, (Timage_reader.mk (cutL r.b n (r.b.length : Int))), r.b))) .fail)
def image_reader_num := fun n r => (image_reader_num_t n_ n r).get
def image_reader_num_2_t (n : Int) (r : Timage_reader) : Tree ((Int × Timage_reader) ⊕ Unit) :=
 .opt (bits_Take n_ r.b n) fun r_1 =>
 .ite (!r_1.2) (.ret (.inr ()))
 (.ite (cutOk n (r.b.length : Int) r.b.length) (.ret (.inl (r_1.1, (Timage_reader.mk (cutL r.b n (r.b.length : Int)))))) .fail)
def image_reader_num_2 := fun n r => (image_reader_num_2_t n_ n r).get
def image_reader_text_t (n : Int) (r : Timage_reader) : Tree ((List UInt8 × Timage_reader) ⊕ Unit) :=
 .opt (bits_TakeText r.b) fun r_1 =>
 .ite (!r_1.2.2) (.ret (.inr ()))
 (.ite (decide (r_1.2.1 > n)) (.ret (.inr ()))
 (.ite (decide ((r.b.length : Int) < n)) (.ret (.inr ()))
 (.ite (cutOk n (r.b.length : Int) r.b.length) (.ret (.inl (r_1.1, (Timage_reader.mk (cutL r.b n (r.b.length : Int)))))) .fail)))
def image_reader_text := fun n r => (image_reader_text_t n r).get
def image_reader_read_s0t (r1 : List UInt8) (v_ : Int × Timage_reader × TState) : Tree ((Int × Timage_reader × TState) ⊕ ((Timage_reader × TState) ⊕ (Timage_reader × TState))) :=
 .ite (decide (v_.1 < 3)) (.opt (image_reader_num_2 n_ 4 v_.2.1) fun r_1 =>
 altT r_1 (fun a_2 =>
  .opt (image_reader_num_2 n_ 1 a_2.2) fun r_3 =>
  altT r_3 (fun a_4 =>
  .opt (image_reader_num_2 n_ 1 a_4.2) fun r_5 =>
  altT r_5 (fun a_6 =>
   .opt (image_reader_num_2 n_ 4 a_6.2) fun r_7 =>
   altT r_7 (fun a_8 =>
   .ite (decide ((v_.2.2.Marks.length + 1) ≤ lim)) (.ret (.inl ((wi64 (v_.1 + 1)), a_8.2, (TState.mk [] (v_.2.2.Marks ++ [(TMark.mk a_2.1 a_4.1 a_6.1 a_8.1)]) v_.2.2.Epoch)))) .fail) fun b_9 =>
   .ret (.inr (.inl (a_6.2, { v_.2.2 with Files := [] })))) fun b_10 =>
  .ret (.inr (.inl (a_4.2, { v_.2.2 with Files := [] })))) fun b_11 =>
  .ret (.inr (.inl (a_2.2, { v_.2.2 with Files := [] })))) fun b_12 =>
 .ret (.inr (.inl (v_.2.1, { v_.2.2 with Files := [] }))))
 (.ret (.inr (.inr (v_.2.1, { v_.2.2 with Files := [] }))))
def image_reader_read_s0 := fun r1 v_ => (image_reader_read_s0t n_ r1 v_).get
def image_reader_read_l0 := fun r1 t7 r s => iter (image_reader_read_s0 n_ r1) n_ (t7, r, s)
def image_reader_read_s1t (r1 : List UInt8) (v_ : Int × Timage_reader × TState) : Tree ((Int × Timage_reader × TState) ⊕ ((Timage_reader × TState) ⊕ ((Timage_reader × TState × TFile) ⊕ (Timage_reader × TState)))) :=
 .ite (decide (v_.1 < 6)) (.opt (image_reader_text 9 v_.2.1) fun r_1 =>
 altT r_1 (fun a_2 =>
  .opt (image_reader_num_2 n_ 4 a_2.2) fun r_3 =>
  altT r_3 (fun a_4 =>
  .opt (image_reader_text 25 a_4.2) fun r_5 =>
  altT r_5 (fun a_6 =>
   .ite (decide ((v_.2.2.Files.length + 1) ≤ lim)) (.ret (.inl ((wi64 (v_.1 + 1)), a_6.2, { v_.2.2 with Files := (v_.2.2.Files ++ [(TFile.mk a_2.1 a_4.1 a_6.1)]) }))) .fail) fun b_7 =>
  .ret (.inr (.inr (.inl (a_4.2, v_.2.2, (TFile.mk a_2.1 a_4.1 [])))))) fun b_8 =>
  .ret (.inr (.inl (a_2.2, v_.2.2)))) fun b_9 =>
 .ret (.inr (.inl (v_.2.1, v_.2.2))))
 (.ret (.inr (.inr (.inr (v_.2.1, v_.2.2)))))
def image_reader_read_s1 := fun r1 v_ => (image_reader_read_s1t n_ r1 v_).get
def image_reader_read_l1 := fun r1 t24 r s => iter (image_reader_read_s1 n_ r1) n_ (t24, r, s)
def image_reader_read_t (r : Timage_reader) : Tree ((TState × Timage_reader × List UInt8) ⊕ (Unit ⊕ (Timage_reader × List UInt8))) :=
 .opt (image_reader_num n_ 4 r) fun r_1 =>
 altT r_1 (fun a_2 =>
 .opt (image_reader_read_l0 n_ a_2.2.2 0 a_2.2.1 (TState.mk [] [] a_2.1)) fun r_3 =>
 altT r_3 (fun a_4 =>
  .ret (.inr (.inr (a_4.1, a_2.2.2)))) fun b_5 =>
 .opt (image_reader_read_l1 n_ a_2.2.2 0 b_5.1 { b_5.2 with Files := [] }) fun r_6 =>
 altT r_6 (fun a_7 =>
  .ret (.inr (.inr (a_7.1, a_2.2.2)))) fun b_8 =>
 altT b_8 (fun a_9 =>
  .ret (.inr (.inr (a_9.1, a_2.2.2)))) fun b_10 =>
 .ret (.inl (b_10.2, b_10.1, a_2.2.2))) fun b_11 =>
 .ret (.inr (.inl ()))
def image_reader_read := fun r => (image_reader_read_t n_ r).get
def slices_Equal_string_s0t (s1 : List (List UInt8)) (s2 : List (List UInt8)) (t12 : Int) (v_ : Int) : Tree (Int ⊕ (Unit ⊕ Unit)) :=
 .ite (decide (v_ < t12)) (.ite (inR v_ s1.length) (.opt (s1[v_.toNat]?) fun y_1 =>
  .ite (inR v_ s2.length) (.opt (s2[v_.toNat]?) fun y_2 =>
  .ite (!(y_1 == y_2)) (.ret (.inr (.inl ())))
  (.ret (.inl (wi64 (v_ + 1))))) .fail) .fail)
 (.ret (.inr (.inr ())))
def slices_Equal_string_s0 := fun s1 s2 t12 v_ => (slices_Equal_string_s0t s1 s2 t12 v_).get
def slices_Equal_string_l0 := fun s1 s2 t12 t13 => iter (slices_Equal_string_s0 s1 s2 t12) n_ t13
def slices_Equal_string_t (s1 : List (List UInt8)) (s2 : List (List UInt8)) : Tree Bool :=
 .ite ((s1.length : Int) != (s2.length : Int)) (.ret false)
 (.opt (slices_Equal_string_l0 n_ s1 s2 (s1.length : Int) 0) fun r_1 =>
 altT r_1 (fun a_2 =>
 .ret false) fun b_3 =>
 .ret true)
def slices_Equal_string := fun s1 s2 => (slices_Equal_string_t n_ s1 s2).get
def image_Take_t (l : List (List UInt8)) : Tree (TState × Bool) :=
 .ite (joinOk l []) (.opt (image_reader_read n_ (Timage_reader.mk (joinL l []))) fun r_1 =>
 altT r_1 (fun a_2 =>
  .opt (state_May n_ a_2.1) fun r_3 =>
  .ite (!r_3) (.ret ((TState.mk [] [] 0), false))
  (.opt (image_Put n_ a_2.1) fun r_4 =>
  .opt (slices_Equal_string n_ r_4 l) fun r_5 =>
  .ite (!r_5) (.ret ((TState.mk [] [] 0), false))
  (.ret (a_2.1, true)))) fun b_6 =>
 altT b_6 (fun a_7 =>
  .ret ((TState.mk [] [] 0), false)) fun b_8 =>
 .ret ((TState.mk [] [] 0), false)) .fail
def image_Take := fun l => (image_Take_t n_ l).get
def store_Open_t (d : TDisk) : Tree (TStore × Bool) :=
 .opt (store_size n_) fun r_1 =>
 .ite ((d.Last.length : Int) != r_1) (.ret ((TStore.mk (TDisk.mk [] [] 0 false) (TState.mk [] [] 0)), false))
 (.ite d.Down (.ret ((TStore.mk (TDisk.mk [] [] 0 false) (TState.mk [] [] 0)), false))
 (.opt (store_home n_) fun r_2 =>
 .opt (jrnl_Mend n_ d r_2) fun r_3 =>
 .opt (store_sectors n_ r_3.1) fun r_4 =>
 altT r_4 (fun a_5 =>
 .opt (image_Take n_ a_5) fun r_6 =>
 .ite (!r_6.2) (.ret ((TStore.mk (TDisk.mk [] [] 0 false) (TState.mk [] [] 0)), false))
 (.ret ((TStore.mk r_3.1 r_6.1), true))) fun b_7 =>
 .ret ((TStore.mk (TDisk.mk [] [] 0 false) (TState.mk [] [] 0)), false)))
def store_Open := fun d => (store_Open_t n_ d).get
def state_Boot (s : TState) : TState := ({ s with Epoch := (imin (wi64 (s.Epoch + 1)) 1073741824) })
def clock_Long_t (term : Int) (eps : Int) : Tree Int :=
 .opt (clock_within term 1099511627776) fun r_1 =>
 altT r_1 (fun a_2 =>
 .opt (clock_within eps 500) fun r_3 =>
 altT r_3 (fun a_4 =>
  .ite ((wi64 (1000 - eps)) == 0) .fail
  (.ret (wi64 ((wi64 ((wi64 ((wi64 ((wi64 (term * (wi64 (1000 + eps)))) + 1000)) - eps)) - 1)).tdiv (wi64 (1000 - eps)))))) fun b_5 =>
 .ret 0) fun b_6 =>
 .ret 0
def clock_Long := fun term eps => (clock_Long_t term eps).get
def server_Boot_t (d : TDisk) (now : Int) : Tree (TServer × Bool) :=
 .opt (store_Open n_ d) fun r_1 =>
 .ite (!r_1.2) (.ret ((TServer.mk (TStore.mk (TDisk.mk [] [] 0 false) (TState.mk [] [] 0)) (TDesk.mk [] []) [] [] 0 0 0 false 0), false))
 (.opt (store_Commit n_ r_1.1 (state_Boot r_1.1.S)) fun r_2 =>
 .ite (!r_2.2) (.ret ((TServer.mk (TStore.mk (TDisk.mk [] [] 0 false) (TState.mk [] [] 0)) (TDesk.mk [] []) [] [] 0 0 0 false 0), false))
 (.opt (server_fresh n_ r_2.1 now) fun r_3 =>
 .opt (clock_Long 60 100) fun r_4 =>
 .ret ({ r_3 with Hush := (clock_Add now r_4) }, true)))
def server_Boot := fun d now => (server_Boot_t n_ d now).get
def world_host_crashes_t (s : TStep) (h : Tworld_host) : Tree (Tworld_host ⊕ Tworld_refused) :=
 .ite (s.R != 0) (.opt (world_host_client s.R h) fun r_1 =>
 altT r_1 (fun a_2 =>
  .opt (h.World.Clients[a_2]?) fun y_3 =>
  .opt (h.World.Clients[a_2]?) fun y_4 =>
  .ret (.inl ({ h with World := { h.World with Clients := (h.World.Clients.set a_2 (client_Crash y_3)) } }))) fun b_5 =>
 .ret (.inr b_5))
 (.opt (disk_Crash n_ h.World.S.Store.D s.Gains) fun r_6 =>
 .opt (server_Boot n_ r_6 h.World.S.Now) fun r_7 =>
 .ite (!r_7.2) (.ret (.inl (Tworld_host.mk { h.World with S := { h.World.S with Store := (TStore.mk r_6 h.World.S.Store.S), Live := false } } { h.a with Err := 8 })))
 (.ret (.inl ({ h with World := { h.World with S := r_7.1 } }))))
def world_host_crashes := fun s h => (world_host_crashes_t n_ s h).get
def world_host_step_t (s : TStep) (h : Tworld_host) : Tree ((Tworld_host × List TGram) ⊕ (Tworld_host ⊕ ((Tworld_host × List TGram) ⊕ (Tworld_refused ⊕ (Tworld_refused ⊕ (Tworld_refused × Tworld_host × List TGram)))))) :=
 .ite (s.Kind == 1) (.opt (world_host_time n_ s h) fun r_1 =>
 altT r_1 (fun a_2 =>
  .ret (.inr (.inl a_2))) fun b_3 =>
 .ret (.inr (.inr (.inr (.inr (.inl b_3))))))
 (.ite (s.Kind == 2) (.opt (world_host_runs n_ s.R h) fun r_4 =>
 altT r_4 (fun a_5 =>
  .ret (.inr (.inr (.inl (a_5.1, a_5.2))))) fun b_6 =>
 .ret (.inr (.inr (.inr (.inr (.inl b_6))))))
 (.ite (decide (s.Kind ≥ 3)) (.ite (decide (s.Kind ≤ 8)) (.opt (world_host_does n_ s h) fun r_7 =>
  altT r_7 (fun a_8 =>
  .ret (.inr (.inr (.inl (a_8.1, a_8.2))))) fun b_9 =>
  .ret (.inr (.inr (.inr (.inr (.inl b_9))))))
 (.ite (s.Kind == 9) (.opt (world_host_comes n_ s.I h) fun r_10 =>
  altT r_10 (fun a_11 =>
  .ret (.inr (.inr (.inl (a_11.1, a_11.2))))) fun b_12 =>
  altT b_12 (fun a_13 =>
  .ret (.inr (.inr (.inr (.inl a_13))))) fun b_14 =>
  .ret (.inr (.inr (.inr (.inr (.inr (b_14.1, b_14.2.1, b_14.2.2)))))))
 (.ite (decide (s.Kind ≥ 10)) (.ite (decide (s.Kind ≤ 12)) (.opt (world_host_ways s h) fun r_15 =>
  altT r_15 (fun a_16 =>
   .ret (.inl ({ a_16.1 with World := { a_16.1.World with Fly := [] } }, a_16.2))) fun b_17 =>
  altT b_17 (fun a_18 =>
   .ret (.inr (.inr (.inl (a_18.1, a_18.2))))) fun b_19 =>
  altT b_19 (fun a_20 =>
   .ret (.inr (.inr (.inr (.inl a_20))))) fun b_21 =>
  .ret (.inr (.inr (.inr (.inr (.inl b_21))))))
  (.ite (s.Kind == 13) (.opt (world_host_arms s.I h) fun r_22 =>
  altT r_22 (fun a_23 =>
   .ret (.inr (.inl a_23))) fun b_24 =>
  .ret (.inr (.inr (.inr (.inr (.inl b_24))))))
  (.ite (s.Kind == 14) (.opt (world_host_crashes n_ s h) fun r_25 =>
  altT r_25 (fun a_26 =>
   .ret (.inr (.inl a_26))) fun b_27 =>
  .ret (.inr (.inr (.inr (.inr (.inl b_27))))))
  (.opt (world_no true 1) fun r_28 =>
  altT r_28 (fun a_29 =>
  .ret (.inr (.inl h))) fun b_30 =>
  .ret (.inr (.inr (.inr (.inr (.inl b_30)))))))))
 (.ite (s.Kind == 13) (.opt (world_host_arms s.I h) fun r_31 =>
  altT r_31 (fun a_32 =>
  .ret (.inr (.inl a_32))) fun b_33 =>
  .ret (.inr (.inr (.inr (.inr (.inl b_33))))))
 (.ite (s.Kind == 14) (.opt (world_host_crashes n_ s h) fun r_34 =>
  altT r_34 (fun a_35 =>
  .ret (.inr (.inl a_35))) fun b_36 =>
  .ret (.inr (.inr (.inr (.inr (.inl b_36))))))
 (.opt (world_no true 1) fun r_37 =>
 altT r_37 (fun a_38 =>
  .ret (.inr (.inl h))) fun b_39 =>
 .ret (.inr (.inr (.inr (.inr (.inl b_39)))))))))))
 (.ite (s.Kind == 9) (.opt (world_host_comes n_ s.I h) fun r_40 =>
 altT r_40 (fun a_41 =>
  .ret (.inr (.inr (.inl (a_41.1, a_41.2))))) fun b_42 =>
 altT b_42 (fun a_43 =>
  .ret (.inr (.inr (.inr (.inl a_43))))) fun b_44 =>
 .ret (.inr (.inr (.inr (.inr (.inr (b_44.1, b_44.2.1, b_44.2.2)))))))
 (.ite (decide (s.Kind ≥ 10)) (.ite (decide (s.Kind ≤ 12)) (.opt (world_host_ways s h) fun r_45 =>
  altT r_45 (fun a_46 =>
  .ret (.inl ({ a_46.1 with World := { a_46.1.World with Fly := [] } }, a_46.2))) fun b_47 =>
  altT b_47 (fun a_48 =>
  .ret (.inr (.inr (.inl (a_48.1, a_48.2))))) fun b_49 =>
  altT b_49 (fun a_50 =>
  .ret (.inr (.inr (.inr (.inl a_50))))) fun b_51 =>
  .ret (.inr (.inr (.inr (.inr (.inl b_51))))))
 (.ite (s.Kind == 13) (.opt (world_host_arms s.I h) fun r_52 =>
  altT r_52 (fun a_53 =>
  .ret (.inr (.inl a_53))) fun b_54 =>
  .ret (.inr (.inr (.inr (.inr (.inl b_54))))))
 (.ite (s.Kind == 14) (.opt (world_host_crashes n_ s h) fun r_55 =>
  altT r_55 (fun a_56 =>
  .ret (.inr (.inl a_56))) fun b_57 =>
  .ret (.inr (.inr (.inr (.inr (.inl b_57))))))
 (.opt (world_no true 1) fun r_58 =>
 altT r_58 (fun a_59 =>
  .ret (.inr (.inl h))) fun b_60 =>
 .ret (.inr (.inr (.inr (.inr (.inl b_60)))))))))
 (.ite (s.Kind == 13) (.opt (world_host_arms s.I h) fun r_61 =>
 altT r_61 (fun a_62 =>
  .ret (.inr (.inl a_62))) fun b_63 =>
 .ret (.inr (.inr (.inr (.inr (.inl b_63))))))
 (.ite (s.Kind == 14) (.opt (world_host_crashes n_ s h) fun r_64 =>
 altT r_64 (fun a_65 =>
  .ret (.inr (.inl a_65))) fun b_66 =>
 .ret (.inr (.inr (.inr (.inr (.inl b_66))))))
 (.opt (world_no true 1) fun r_67 =>
 altT r_67 (fun a_68 =>
 .ret (.inr (.inl h))) fun b_69 =>
 .ret (.inr (.inr (.inr (.inr (.inl b_69))))))))))))
def world_host_step := fun s h => (world_host_step_t n_ s h).get
def world_Do_t (w : TWorld) (s : TStep) : Tree (TWorld × TAns) :=
 .opt (world_of n_ w) fun r_1 =>
 .opt (world_host_step n_ s r_1) fun r_2 =>
 altT r_2 (fun a_3 =>
 .ret ({ a_3.1.World with Fly := [] }, a_3.1.a)) fun b_4 =>
 altT b_4 (fun a_5 =>
 .ret (a_5.World, a_5.a)) fun b_6 =>
 altT b_6 (fun a_7 =>
 .ret (a_7.1.World, a_7.1.a)) fun b_8 =>
 altT b_8 (fun a_9 =>
 .opt (world_of n_ w) fun r_10 =>
 .ret (r_10.World, (TAns.mk a_9.e 0 []))) fun b_11 =>
 altT b_11 (fun a_12 =>
 .opt (world_of n_ w) fun r_13 =>
 .ret (r_13.World, (TAns.mk a_12.e 0 []))) fun b_14 =>
 .opt (world_of n_ w) fun r_15 =>
 .ret (r_15.World, (TAns.mk b_14.1.e 0 []))
def world_Do := fun w s => (world_Do_t n_ w s).get
def slices_Equal_Put_s0t (s1 : List TPut) (s2 : List TPut) (t12 : Int) (v_ : Int) : Tree (Int ⊕ (Unit ⊕ Unit)) :=
 .ite (decide (v_ < t12)) (.ite (inR v_ s1.length) (.opt (s1[v_.toNat]?) fun y_1 =>
  .ite (inR v_ s2.length) (.opt (s2[v_.toNat]?) fun y_2 =>
  .ite (!(TPut.eqb y_1 y_2)) (.ret (.inr (.inl ())))
  (.ret (.inl (wi64 (v_ + 1))))) .fail) .fail)
 (.ret (.inr (.inr ())))
def slices_Equal_Put_s0 := fun s1 s2 t12 v_ => (slices_Equal_Put_s0t s1 s2 t12 v_).get
def slices_Equal_Put_l0 := fun s1 s2 t12 t13 => iter (slices_Equal_Put_s0 s1 s2 t12) n_ t13
def slices_Equal_Put_t (s1 : List TPut) (s2 : List TPut) : Tree Bool :=
 .ite ((s1.length : Int) != (s2.length : Int)) (.ret false)
 (.opt (slices_Equal_Put_l0 n_ s1 s2 (s1.length : Int) 0) fun r_1 =>
 altT r_1 (fun a_2 =>
 .ret false) fun b_3 =>
 .ret true)
def slices_Equal_Put := fun s1 s2 => (slices_Equal_Put_t n_ s1 s2).get
def server_disks_t (a : TDisk) (b : TDisk) : Tree Bool :=
 .opt (slices_Equal_string n_ a.Last b.Last) fun r_1 =>
 .ite r_1 (.opt (slices_Equal_Put n_ a.Wait b.Wait) fun r_2 =>
 .ite r_2 (.ite (a.Arm == b.Arm) (.ret (a.Down == b.Down))
  (.ret false))
 (.ret false))
 (.ret false)
def server_disks := fun a b => (server_disks_t n_ a b).get
def slices_Equal_File_s0t (s1 : List TFile) (s2 : List TFile) (t12 : Int) (v_ : Int) : Tree (Int ⊕ (Unit ⊕ Unit)) :=
 .ite (decide (v_ < t12)) (.ite (inR v_ s1.length) (.opt (s1[v_.toNat]?) fun y_1 =>
  .ite (inR v_ s2.length) (.opt (s2[v_.toNat]?) fun y_2 =>
  .ite (!(TFile.eqb y_1 y_2)) (.ret (.inr (.inl ())))
  (.ret (.inl (wi64 (v_ + 1))))) .fail) .fail)
 (.ret (.inr (.inr ())))
def slices_Equal_File_s0 := fun s1 s2 t12 v_ => (slices_Equal_File_s0t s1 s2 t12 v_).get
def slices_Equal_File_l0 := fun s1 s2 t12 t13 => iter (slices_Equal_File_s0 s1 s2 t12) n_ t13
def slices_Equal_File_t (s1 : List TFile) (s2 : List TFile) : Tree Bool :=
 .ite ((s1.length : Int) != (s2.length : Int)) (.ret false)
 (.opt (slices_Equal_File_l0 n_ s1 s2 (s1.length : Int) 0) fun r_1 =>
 altT r_1 (fun a_2 =>
 .ret false) fun b_3 =>
 .ret true)
def slices_Equal_File := fun s1 s2 => (slices_Equal_File_t n_ s1 s2).get
def slices_Equal_Mark_s0t (s1 : List TMark) (s2 : List TMark) (t12 : Int) (v_ : Int) : Tree (Int ⊕ (Unit ⊕ Unit)) :=
 .ite (decide (v_ < t12)) (.ite (inR v_ s1.length) (.opt (s1[v_.toNat]?) fun y_1 =>
  .ite (inR v_ s2.length) (.opt (s2[v_.toNat]?) fun y_2 =>
  .ite (!(TMark.eqb y_1 y_2)) (.ret (.inr (.inl ())))
  (.ret (.inl (wi64 (v_ + 1))))) .fail) .fail)
 (.ret (.inr (.inr ())))
def slices_Equal_Mark_s0 := fun s1 s2 t12 v_ => (slices_Equal_Mark_s0t s1 s2 t12 v_).get
def slices_Equal_Mark_l0 := fun s1 s2 t12 t13 => iter (slices_Equal_Mark_s0 s1 s2 t12) n_ t13
def slices_Equal_Mark_t (s1 : List TMark) (s2 : List TMark) : Tree Bool :=
 .ite ((s1.length : Int) != (s2.length : Int)) (.ret false)
 (.opt (slices_Equal_Mark_l0 n_ s1 s2 (s1.length : Int) 0) fun r_1 =>
 altT r_1 (fun a_2 =>
 .ret false) fun b_3 =>
 .ret true)
def slices_Equal_Mark := fun s1 s2 => (slices_Equal_Mark_t n_ s1 s2).get
def state_Same_t (a : TState) (b : TState) : Tree Bool :=
 .opt (slices_Equal_File n_ a.Files b.Files) fun r_1 =>
 .ite r_1 (.opt (slices_Equal_Mark n_ a.Marks b.Marks) fun r_2 =>
 .ite r_2 (.ret (a.Epoch == b.Epoch))
 (.ret false))
 (.ret false)
def state_Same := fun a b => (state_Same_t n_ a b).get
def slices_Equal_Lease_s0t (s1 : List TLease) (s2 : List TLease) (t12 : Int) (v_ : Int) : Tree (Int ⊕ (Unit ⊕ Unit)) :=
 .ite (decide (v_ < t12)) (.ite (inR v_ s1.length) (.opt (s1[v_.toNat]?) fun y_1 =>
  .ite (inR v_ s2.length) (.opt (s2[v_.toNat]?) fun y_2 =>
  .ite (!(TLease.eqb y_1 y_2)) (.ret (.inr (.inl ())))
  (.ret (.inl (wi64 (v_ + 1))))) .fail) .fail)
 (.ret (.inr (.inr ())))
def slices_Equal_Lease_s0 := fun s1 s2 t12 v_ => (slices_Equal_Lease_s0t s1 s2 t12 v_).get
def slices_Equal_Lease_l0 := fun s1 s2 t12 t13 => iter (slices_Equal_Lease_s0 s1 s2 t12) n_ t13
def slices_Equal_Lease_t (s1 : List TLease) (s2 : List TLease) : Tree Bool :=
 .ite ((s1.length : Int) != (s2.length : Int)) (.ret false)
 (.opt (slices_Equal_Lease_l0 n_ s1 s2 (s1.length : Int) 0) fun r_1 =>
 altT r_1 (fun a_2 =>
 .ret false) fun b_3 =>
 .ret true)
def slices_Equal_Lease := fun s1 s2 => (slices_Equal_Lease_t n_ s1 s2).get
def slices_Equal_Wait_s0t (s1 : List TWait) (s2 : List TWait) (t12 : Int) (v_ : Int) : Tree (Int ⊕ (Unit ⊕ Unit)) :=
 .ite (decide (v_ < t12)) (.ite (inR v_ s1.length) (.opt (s1[v_.toNat]?) fun y_1 =>
  .ite (inR v_ s2.length) (.opt (s2[v_.toNat]?) fun y_2 =>
  .ite (!(TWait.eqb y_1 y_2)) (.ret (.inr (.inl ())))
  (.ret (.inl (wi64 (v_ + 1))))) .fail) .fail)
 (.ret (.inr (.inr ())))
def slices_Equal_Wait_s0 := fun s1 s2 t12 v_ => (slices_Equal_Wait_s0t s1 s2 t12 v_).get
def slices_Equal_Wait_l0 := fun s1 s2 t12 t13 => iter (slices_Equal_Wait_s0 s1 s2 t12) n_ t13
def slices_Equal_Wait_t (s1 : List TWait) (s2 : List TWait) : Tree Bool :=
 .ite ((s1.length : Int) != (s2.length : Int)) (.ret false)
 (.opt (slices_Equal_Wait_l0 n_ s1 s2 (s1.length : Int) 0) fun r_1 =>
 altT r_1 (fun a_2 =>
 .ret false) fun b_3 =>
 .ret true)
def slices_Equal_Wait := fun s1 s2 => (slices_Equal_Wait_t n_ s1 s2).get
def slices_Equal_int_s0t (s1 : List Int) (s2 : List Int) (t12 : Int) (v_ : Int) : Tree (Int ⊕ (Unit ⊕ Unit)) :=
 .ite (decide (v_ < t12)) (.ite (inR v_ s1.length) (.opt (s1[v_.toNat]?) fun y_1 =>
  .ite (inR v_ s2.length) (.opt (s2[v_.toNat]?) fun y_2 =>
  .ite (y_1 != y_2) (.ret (.inr (.inl ())))
  (.ret (.inl (wi64 (v_ + 1))))) .fail) .fail)
 (.ret (.inr (.inr ())))
def slices_Equal_int_s0 := fun s1 s2 t12 v_ => (slices_Equal_int_s0t s1 s2 t12 v_).get
def slices_Equal_int_l0 := fun s1 s2 t12 t13 => iter (slices_Equal_int_s0 s1 s2 t12) n_ t13
def slices_Equal_int_t (s1 : List Int) (s2 : List Int) : Tree Bool :=
 .ite ((s1.length : Int) != (s2.length : Int)) (.ret false)
 (.opt (slices_Equal_int_l0 n_ s1 s2 (s1.length : Int) 0) fun r_1 =>
 altT r_1 (fun a_2 =>
 .ret false) fun b_3 =>
 .ret true)
def slices_Equal_int := fun s1 s2 => (slices_Equal_int_t n_ s1 s2).get
def slices_Equal_Tell_s0t (s1 : List TTell) (s2 : List TTell) (t12 : Int) (v_ : Int) : Tree (Int ⊕ (Unit ⊕ Unit)) :=
 .ite (decide (v_ < t12)) (.ite (inR v_ s1.length) (.opt (s1[v_.toNat]?) fun y_1 =>
  .ite (inR v_ s2.length) (.opt (s2[v_.toNat]?) fun y_2 =>
  .ite (!(TTell.eqb y_1 y_2)) (.ret (.inr (.inl ())))
  (.ret (.inl (wi64 (v_ + 1))))) .fail) .fail)
 (.ret (.inr (.inr ())))
def slices_Equal_Tell_s0 := fun s1 s2 t12 v_ => (slices_Equal_Tell_s0t s1 s2 t12 v_).get
def slices_Equal_Tell_l0 := fun s1 s2 t12 t13 => iter (slices_Equal_Tell_s0 s1 s2 t12) n_ t13
def slices_Equal_Tell_t (s1 : List TTell) (s2 : List TTell) : Tree Bool :=
 .ite ((s1.length : Int) != (s2.length : Int)) (.ret false)
 (.opt (slices_Equal_Tell_l0 n_ s1 s2 (s1.length : Int) 0) fun r_1 =>
 altT r_1 (fun a_2 =>
 .ret false) fun b_3 =>
 .ret true)
def slices_Equal_Tell := fun s1 s2 => (slices_Equal_Tell_t n_ s1 s2).get
def server_Same_t (a : TServer) (b : TServer) : Tree Bool :=
 .opt (server_disks n_ a.Store.D b.Store.D) fun r_1 =>
 .ite (!r_1) (.ret false)
 (.opt (state_Same n_ a.Store.S b.Store.S) fun r_2 =>
 .ite (!r_2) (.ret false)
 (.opt (slices_Equal_Lease n_ a.Desk.Leases b.Desk.Leases) fun r_3 =>
 .ite (!r_3) (.ret false)
 (.opt (slices_Equal_Wait n_ a.Desk.Line b.Desk.Line) fun r_4 =>
 .ite (!r_4) (.ret false)
 (.opt (slices_Equal_int n_ a.Seen b.Seen) fun r_5 =>
 .ite (!r_5) (.ret false)
 (.opt (slices_Equal_Tell n_ a.Told b.Told) fun r_6 =>
 .ite (!r_6) (.ret false)
 (.ite (a.Now == b.Now) (.ite (a.Hush == b.Hush) (.ite (a.Bad == b.Bad) (.ite (a.Live == b.Live) (.ret (a.Recalled == b.Recalled))
  (.ret false))
  (.ret false))
 (.ret false))
 (.ret false)))))))
def server_Same := fun a b => (server_Same_t n_ a b).get
def cache_Same_t (a : TCache) (b : TCache) : Tree Bool :=
 .ite (a.Mode == b.Mode) (.ite (a.Until == b.Until) (.ite (a.Ver == b.Ver) (.ite (a.Body == b.Body) (.opt (slices_Equal_Write n_ a.Dirty b.Dirty) fun r_1 =>
   .ite r_1 (.ite (a.Sent == b.Sent) (.ite (a.Called == b.Called) (.ret (a.Lost == b.Lost))
    (.ret false))
   (.ret false))
   (.ret false))
  (.ret false))
  (.ret false))
 (.ret false))
 (.ret false)
def cache_Same := fun a b => (cache_Same_t n_ a b).get
def slices_EqualFunc_Cache_s0t (s2 : List TCache) (t15 : List TCache) (t16 : Int) (v_ : Int) : Tree (Int ⊕ ((TCache × TCache) ⊕ Unit)) :=
 .ite (decide (v_ < t16)) (.ite (inR v_ t15.length) (.opt (t15[v_.toNat]?) fun y_1 =>
  .ite (inR v_ s2.length) (.opt (s2[v_.toNat]?) fun y_2 =>
  .opt (cache_Same n_ y_1 y_2) fun r_3 =>
  .ite (!r_3) (.ret (.inr (.inl (y_1, y_2))))
  (.ret (.inl (wi64 (v_ + 1))))) .fail) .fail)
 (.ret (.inr (.inr ())))
def slices_EqualFunc_Cache_s0 := fun s2 t15 t16 v_ => (slices_EqualFunc_Cache_s0t n_ s2 t15 t16 v_).get
def slices_EqualFunc_Cache_l0 := fun s2 t15 t16 t17 => iter (slices_EqualFunc_Cache_s0 n_ s2 t15 t16) n_ t17
def slices_EqualFunc_Cache_t (s1 : List TCache) (s2 : List TCache) : Tree Bool :=
 .ite ((s1.length : Int) != (s2.length : Int)) (.ret false)
 (.opt (slices_EqualFunc_Cache_l0 n_ s2 s1 (s1.length : Int) 0) fun r_1 =>
 altT r_1 (fun a_2 =>
 .ret false) fun b_3 =>
 .ret true)
def slices_EqualFunc_Cache := fun s1 s2 => (slices_EqualFunc_Cache_t n_ s1 s2).get
def client_Same_t (a : TClient) (b : TClient) : Tree Bool :=
 .ite (a.ID != b.ID) (.ret false)
 (.ite (a.Now != b.Now) (.ret false)
 (.ite (a.Epoch != b.Epoch) (.ret false)
 (.ite (a.Seq != b.Seq) (.ret false)
 (.ite (a.Bad != b.Bad) (.ret false)
 (.ite (a.Hits != b.Hits) (.ret false)
 (.ite (a.Asks != b.Asks) (.ret false)
 (.ite (!(a.Out.Is == b.Out.Is)) (.ret false)
 (.ite (a.Out.First != b.Out.First) (.ret false)
 (.ite (a.Out.Last != b.Out.Last) (.ret false)
 (.opt (msg_SameAsk n_ a.Out.Ask b.Out.Ask) fun r_1 =>
 .ite (!r_1) (.ret false)
 (.opt (slices_EqualFunc_Cache n_ a.Files b.Files) fun r_2 =>
 .ite r_2 (.opt (slices_Equal_string n_ a.Names b.Names) fun r_3 =>
 .ret r_3)
 (.ret false))))))))))))
def client_Same := fun a b => (client_Same_t n_ a b).get
def slices_EqualFunc_Client_s0t (s2 : List TClient) (t15 : List TClient) (t16 : Int) (v_ : Int) : Tree (Int ⊕ ((TClient × TClient) ⊕ Unit)) :=
 .ite (decide (v_ < t16)) (.ite (inR v_ t15.length) (.opt (t15[v_.toNat]?) fun y_1 =>
  .ite (inR v_ s2.length) (.opt (s2[v_.toNat]?) fun y_2 =>
  .opt (client_Same n_ y_1 y_2) fun r_3 =>
  .ite (!r_3) (.ret (.inr (.inl (y_1, y_2))))
  (.ret (.inl (wi64 (v_ + 1))))) .fail) .fail)
 (.ret (.inr (.inr ())))
def slices_EqualFunc_Client_s0 := fun s2 t15 t16 v_ => (slices_EqualFunc_Client_s0t n_ s2 t15 t16 v_).get
def slices_EqualFunc_Client_l0 := fun s2 t15 t16 t17 => iter (slices_EqualFunc_Client_s0 n_ s2 t15 t16) n_ t17
def slices_EqualFunc_Client_t (s1 : List TClient) (s2 : List TClient) : Tree Bool :=
 .ite ((s1.length : Int) != (s2.length : Int)) (.ret false)
 (.opt (slices_EqualFunc_Client_l0 n_ s2 s1 (s1.length : Int) 0) fun r_1 =>
 altT r_1 (fun a_2 =>
 .ret false) fun b_3 =>
 .ret true)
def slices_EqualFunc_Client := fun s1 s2 => (slices_EqualFunc_Client_t n_ s1 s2).get
def slices_Equal_Gram_s0t (s1 : List TGram) (s2 : List TGram) (t12 : Int) (v_ : Int) : Tree (Int ⊕ (Unit ⊕ Unit)) :=
 .ite (decide (v_ < t12)) (.ite (inR v_ s1.length) (.opt (s1[v_.toNat]?) fun y_1 =>
  .ite (inR v_ s2.length) (.opt (s2[v_.toNat]?) fun y_2 =>
  .ite (!(TGram.eqb y_1 y_2)) (.ret (.inr (.inl ())))
  (.ret (.inl (wi64 (v_ + 1))))) .fail) .fail)
 (.ret (.inr (.inr ())))
def slices_Equal_Gram_s0 := fun s1 s2 t12 v_ => (slices_Equal_Gram_s0t s1 s2 t12 v_).get
def slices_Equal_Gram_l0 := fun s1 s2 t12 t13 => iter (slices_Equal_Gram_s0 s1 s2 t12) n_ t13
def slices_Equal_Gram_t (s1 : List TGram) (s2 : List TGram) : Tree Bool :=
 .ite ((s1.length : Int) != (s2.length : Int)) (.ret false)
 (.opt (slices_Equal_Gram_l0 n_ s1 s2 (s1.length : Int) 0) fun r_1 =>
 altT r_1 (fun a_2 =>
 .ret false) fun b_3 =>
 .ret true)
def slices_Equal_Gram := fun s1 s2 => (slices_Equal_Gram_t n_ s1 s2).get
def world_Same_t (a : TWorld) (b : TWorld) : Tree Bool :=
 .ite (a.Real == b.Real) (.opt (server_Same n_ a.S b.S) fun r_1 =>
 .ite r_1 (.opt (slices_EqualFunc_Client n_ a.Clients b.Clients) fun r_2 =>
  .ite r_2 (.opt (slices_Equal_Gram n_ a.Fly b.Fly) fun r_3 =>
  .ret r_3)
  (.ret false))
 (.ret false))
 (.ret false)
def world_Same := fun a b => (world_Same_t n_ a b).get
def law22_begun_t : Tree Bool :=
 .opt (world_New n_) fun r_1 =>
 .opt (world_Do n_ r_1 (TStep.mk 3 1 0 0 0 0 0 [97] [])) fun r_2 =>
 .opt (world_Do n_ r_1 (TStep.mk 0 0 0 0 0 0 0 [] [])) fun r_3 =>
 .opt (world_Do n_ r_2.1 (TStep.mk 9 0 0 0 0 0 0 [] [])) fun r_4 =>
 .opt (world_Do n_ r_1 (TStep.mk 1 0 10 0 0 0 0 [] [9, 10, 11, 10])) fun r_5 =>
 .ite ((r_1.Clients.length : Int) == 3) (.ite (r_2.2.Err == 5) (.ite ((r_2.1.Fly.length : Int) == 1) (.ite (r_3.2.Err == 1) (.ite (r_4.2.Err == 0) (.ite ((r_4.1.Fly.length : Int) == 1) (.ite (inR 0 r_4.1.Fly.length) (.opt (r_4.1.Fly[0]?) fun y_6 =>
    .ite (y_6.To == 1) (.ite (r_5.2.Err == 0) (.ite (r_5.1.Real == 10) (.ite ((r_5.1.Clients.length : Int) == 3) (.ite (r_5.1.S.Now == 9) (.ite (inR 1 r_5.1.Clients.length) (.opt (r_5.1.Clients[1]?) fun y_7 =>
       .ite (y_7.Now == 11) (.opt (world_Same n_ r_1 r_1) fun r_8 =>
        .ret r_8)
       (.ret false)) .fail)
      (.ret false))
      (.ret false))
     (.ret false))
     (.ret false))
    (.ret false)) .fail)
   (.ret false))
   (.ret false))
  (.ret false))
  (.ret false))
 (.ret false))
 (.ret false)
def law22_begun := (law22_begun_t n_).get
def law22_WorldForms_s0t (steps : List TStep) (errs : List Int) (v_ : Int × TWorld) : Tree ((Int × TWorld) ⊕ ((TWorld × TWorld × TAns) ⊕ TWorld)) :=
 .ite (decide (v_.1 < (steps.length : Int))) (.ite (decide (v_.1 < (errs.length : Int))) (.ite (inR v_.1 steps.length) (.opt (steps[v_.1.toNat]?) fun y_1 =>
  .opt (world_Do n_ v_.2 y_1) fun r_2 =>
  .ite (inR v_.1 errs.length) (.opt (errs[v_.1.toNat]?) fun y_3 =>
   .ite (r_2.2.Err != y_3) (.ret (.inr (.inl (v_.2, r_2.1, r_2.2))))
   (.ite ((r_2.1.Clients.length : Int) != 3) (.ret (.inr (.inl (v_.2, r_2.1, r_2.2))))
   (.ret (.inl ((wi64 (v_.1 + 1)), r_2.1))))) .fail) .fail)
 (.ret (.inr (.inr v_.2))))
 (.ret (.inr (.inr v_.2)))
def law22_WorldForms_s0 := fun steps errs v_ => (law22_WorldForms_s0t n_ steps errs v_).get
def law22_WorldForms_l0 := fun steps errs i w => iter (law22_WorldForms_s0 n_ steps errs) n_ (i, w)
def law22_WorldForms_t : Tree Bool :=
 .opt (law22_begun n_) fun r_1 =>
 .ite (!r_1) (.ret false)
 (.opt (world_New n_) fun r_2 =>
 .opt (law22_WorldForms_l0 n_ [(TStep.mk 0 0 0 0 0 0 0 [] []), (TStep.mk 15 0 0 0 0 0 0 [] []), (TStep.mk 1 0 0 0 0 0 0 [] [10, 9, 11, 10]), (TStep.mk 1 0 10 0 0 0 0 [] [10, 9, 11]), (TStep.mk 1 0 10 0 0 0 0 [] [10, 10, 10, 12]), (TStep.mk 1 0 10 0 0 0 0 [] [10, 9, 11, 10]), (TStep.mk 2 4 0 0 0 0 0 [] []), (TStep.mk 2 0 0 0 0 0 0 [] []), (TStep.mk 3 0 0 0 0 0 0 [97] []), (TStep.mk 3 1 0 0 0 0 0 [97] []), (TStep.mk 9 0 0 0 0 1 0 [] []), (TStep.mk 11 0 0 0 0 0 0 [] []), (TStep.mk 10 0 0 0 0 2 0 [] []), (TStep.mk 13 0 0 0 0 65 0 [] []), (TStep.mk 13 0 0 0 0 3 0 [] []), (TStep.mk 9 0 0 0 0 0 0 [] []), (TStep.mk 9 0 0 0 0 0 0 [] []), (TStep.mk 2 0 0 0 0 0 0 [] []), (TStep.mk 13 0 0 0 0 1 0 [] []), (TStep.mk 14 4 0 0 0 0 0 [] []), (TStep.mk 14 2 0 0 0 0 0 [] []), (TStep.mk 14 0 0 0 0 0 0 [] []), (TStep.mk 2 0 0 0 0 0 0 [] []), (TStep.mk 12 0 0 0 0 0 1 [] [])] [1, 1, 1, 1, 1, 0, 1, 0, 1, 5, 2, 0, 2, 1, 0, 0, 8, 8, 8, 1, 0, 0, 0, 2] 0 r_2) fun r_3 =>
 altT r_3 (fun a_4 =>
 .ret false) fun b_5 =>
 .ite (b_5.Real == 10) (.ite (b_5.S.Now == 10) (.ite (inR 0 b_5.Clients.length) (.opt (b_5.Clients[0]?) fun y_6 =>
  .ite (y_6.Now == 9) (.ite (inR 1 b_5.Clients.length) (.opt (b_5.Clients[1]?) fun y_7 =>
   .ite (y_7.Now == 11) (.ite b_5.S.Live (.ite (b_5.S.Store.S.Epoch == 1) (.ite (b_5.S.Hush == 84) (.ite ((b_5.Fly.length : Int) == 0) (.ite (inR 0 b_5.Clients.length) (.opt (b_5.Clients[0]?) fun y_8 =>
      .ret y_8.Out.Is) .fail)
     (.ret false))
     (.ret false))
    (.ret false))
    (.ret false))
   (.ret false)) .fail)
  (.ret false)) .fail)
 (.ret false))
 (.ret false))
def law22_WorldForms := (law22_WorldForms_t n_).get
end
end Go.Proofs.YthgefhjknifehaaGreatDoor.N
